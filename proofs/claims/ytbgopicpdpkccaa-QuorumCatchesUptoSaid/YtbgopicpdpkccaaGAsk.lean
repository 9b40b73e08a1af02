/- quorum: ask. -/
import Derived.Test.YtbgopicpdpkccaaGProm
namespace Go.Proofs.Ytbgopicpdpkccaa
open Go.RowKit
set_option linter.unusedVariables false
set_option linter.unusedSimpArgs false

/-- what a node tells of what it learned, from a slot on -/
def Gr.tell (G0 : Gr) (m : Ml) : Nat → Int → Gr → Gr
  | 0, _, G => G
  | f + 1, s, G => if (G0.st m.dst s).is then G0.tell m f (s + 1) (G.send ⟨5, m.dst, m.fr, s, bal0, bal0, (G0.st m.dst s).text⟩) else G
def Gr.ask (G : Gr) (m : Ml) : Gr := G.tell m 8 m.slot G
theorem Gr.st_nds {G G' : Gr} (h : G'.nds = G.nds) (n s : Int) : G'.st n s = G.st n s := by
  unfold Gr.st Gr.at_ Gr.nd
  rw [h]
section
variable {S : Nat → Prop} {w w' : World} {g : Nat} {G : Gr}
set_option maxRecDepth 100000 in
set_option maxHeartbeats 2000000 in
theorem ask_any (m : Ml) (p : Option Addr) (h : GAt S w g G) (hs : 0 ≤ m.slot ∧ m.slot ≤ 1000) : Calls Try.prog 61 #[.pointer (some ⟨g, 0, none⟩), .pointer p, .agg #[.int .i64 m.kind, .int .i64 m.fr, .int .i64 m.dst, .int .i64 m.slot, .int .i64 m.bal.rd, .int .i64 m.bal.nd, .int .i64 m.had.rd, .int .i64 m.had.nd, .string m.text]] w fun e w' => e = .returned (.tuple #[]) ∧ GGo S w g (G.ask m) w' := by
  have hB : Below w.heap.size w (w.alloc (.cells #[.int .i64 m.kind, .int .i64 m.fr, .int .i64 m.dst, .int .i64 m.slot, .int .i64 m.bal.rd, .int .i64 m.bal.nd, .int .i64 m.had.rd, .int .i64 m.had.nd, .string m.text] 78)) := (Below.refl _ _).alloc (Nat.le_refl _) _
  have kb := Blk.new w 78 #[.int .i64 m.kind, .int .i64 m.fr, .int .i64 m.dst, .int .i64 m.slot, .int .i64 m.bal.rd, .int .i64 m.bal.nd, .int .i64 m.had.rd, .int .i64 m.had.nd, .string m.text]
  have hSlt := h.lt.1
  have h1 := h.below hB
  have hz1 : (w.alloc (.cells #[.int .i64 m.kind, .int .i64 m.fr, .int .i64 m.dst, .int .i64 m.slot, .int .i64 m.bal.rd, .int .i64 m.bal.nd, .int .i64 m.had.rd, .int .i64 m.had.nd, .string m.text] 78)).heap.size = w.heap.size + 1 := by simp
  have hw1 : IntKind.i64.wrap (m.slot + 8) = m.slot + 8 := IntWalk.i64_in _ (by omega)
  have x3 : (w.alloc (.cells #[.int .i64 m.kind, .int .i64 m.fr, .int .i64 m.dst, .int .i64 m.slot, .int .i64 m.bal.rd, .int .i64 m.bal.nd, .int .i64 m.had.rd, .int .i64 m.had.nd, .string m.text] 78)).cell? ⟨w.heap.size, 3, none⟩ = some (.int .i64 m.slot) := kb.cell 3
  have hz1 := hid hz1
  clear h
  go_enter Try.func61, Try.ntmps61
  go_wp2_with fail
  go_loopw [6] (fun v wr => ∃ (k : Nat) (S' : Nat → Prop) (G' : Gr), v = .int .i64 (m.slot + (k : Int)) ∧ k ≤ 8 ∧ GAt S' wr g G' ∧ G'.nds = G.nds ∧ G.tell m (8 - k) (m.slot + (k : Int)) G' = G.tell m 8 m.slot G ∧ (∀ j, S' j → S j ∨ w.heap.size + 1 ≤ j) ∧ Upd S w wr ∧ Blk wr w.heap.size 78 #[.int .i64 m.kind, .int .i64 m.fr, .int .i64 m.dst, .int .i64 m.slot, .int .i64 m.bal.rd, .int .i64 m.bal.nd, .int .i64 m.had.rd, .int .i64 m.had.nd, .string m.text]) (fun v _ => (m.slot + 8 - intOf v).toNat)
  case atStart => exact ⟨0, S, G, by simp, by omega, h1, rfl, by simp, fun _ h => .inl h, .of_below' hB _, kb⟩
  case round =>
    clear h1 kb x3
    obtain ⟨k, S', G', rfl, hk, q, hn0, ht0, hS, hu, kb⟩ := hrel
    have hnn := hid hn0
    have htt := hid ht0
    clear hn0 ht0
    have hql := q.lt.1
    have hwr : w.heap.size + 1 ≤ wr.heap.size := kb.lt
    have hSw : ∀ j, S' j → j < w.heap.size + 1 → S j := fun j hj hl => by
      rcases hS j hj with h | h
      · exact h
      · omega
    have hSne : ∀ j, S' j → j ≠ w.heap.size := fun j hj e => by
      rcases hS j hj with h | h
      · have := hSlt j h; omega
      · omega
    have x3 : wr.cell? ⟨w.heap.size, 3, none⟩ = some (.int .i64 m.slot) := kb.cell 3
    have x2 : wr.cell? ⟨w.heap.size, 2, none⟩ = some (.int .i64 m.dst) := kb.cell 2
    by_cases hlt : k < 8
    · have t1 : decide (m.slot + (k : Int) < m.slot + 8) = true := decide_eq_true (by omega)
      have hw2 : IntKind.i64.wrap (m.slot + (k : Int) + 1) = m.slot + (k : Int) + 1 := IntWalk.i64_in _ (by omega)
      have hst0 := Gr.st_nds hnn.out m.dst (m.slot + (k : Int))
      have hsc := state_any m.dst (m.slot + (k : Int)) q
      rw [hst0] at hsc
      have hsc := hid hsc
      obtain ⟨x, hx0⟩ : ∃ x, x = G.st m.dst (m.slot + (k : Int)) := ⟨_, rfl⟩
      rw [← hx0] at hsc
      have hx := hid hx0
      clear hst0 hx0
      go_wp2_with fail
      refine hsc.out.mono ?_
      rintro e w2 ⟨bp, rfl, hb2⟩
      have hY : Below w2.heap.size w2 (w2.alloc (.cells #[.int .i64 x.rd, .int .i64 x.prom.rd, .int .i64 x.prom.nd, .int .i64 x.accd.bal.rd, .int .i64 x.accd.bal.nd, .string x.accd.text, .bool x.is, .string x.text, .pointer bp] 74)) := (Below.refl _ _).alloc (Nat.le_refl _) _
      have hb3 := hb2.trans (hY.mono hb2.size)
      have ks := Blk.new w2 74 #[.int .i64 x.rd, .int .i64 x.prom.rd, .int .i64 x.prom.nd, .int .i64 x.accd.bal.rd, .int .i64 x.accd.bal.nd, .string x.accd.text, .bool x.is, .string x.text, .pointer bp]
      have q3 := q.below hb3
      have kb3 := kb.below_all hb3
      have hu3 := hu.trans (Upd.of_below' hb3 _) fun _ _ h => h
      have hz3 := hb3.size
      clear q kb hu hb2 hY hb3 x2 x3
      go_upto_region 5 with fail
      generalize w2.alloc (.cells #[.int .i64 x.rd, .int .i64 x.prom.rd, .int .i64 x.prom.nd, .int .i64 x.accd.bal.rd, .int .i64 x.accd.bal.nd, .string x.accd.text, .bool x.is, .string x.text, .pointer bp] 74) = w3 at *
      have s6 : w3.cell? ⟨w2.heap.size, 6, none⟩ = some (.bool x.is) := ks.cell 6
      have s7 : w3.cell? ⟨w2.heap.size, 7, none⟩ = some (.string x.text) := ks.cell 7
      have e0 : w3.cell? ⟨w.heap.size, 0, none⟩ = some (.int .i64 m.kind) := kb3.cell 0
      have e1 : w3.cell? ⟨w.heap.size, 1, none⟩ = some (.int .i64 m.fr) := kb3.cell 1
      have e2 : w3.cell? ⟨w.heap.size, 2, none⟩ = some (.int .i64 m.dst) := kb3.cell 2
      have e3 : w3.cell? ⟨w.heap.size, 3, none⟩ = some (.int .i64 m.slot) := kb3.cell 3
      have e4 : w3.cell? ⟨w.heap.size, 4, none⟩ = some (.int .i64 m.bal.rd) := kb3.cell 4
      have e5 : w3.cell? ⟨w.heap.size, 5, none⟩ = some (.int .i64 m.bal.nd) := kb3.cell 5
      have e6 : w3.cell? ⟨w.heap.size, 6, none⟩ = some (.int .i64 m.had.rd) := kb3.cell 6
      have e7 : w3.cell? ⟨w.heap.size, 7, none⟩ = some (.int .i64 m.had.nd) := kb3.cell 7
      have e8 : w3.cell? ⟨w.heap.size, 8, none⟩ = some (.string m.text) := kb3.cell 8
      cases hxi : x.is with
      | false =>
        rw [hxi] at s6
        have hfin : Hid (GGo S w g (G.ask m) w3) := hid ⟨S', by
          have e : G.ask m = G' := by
            unfold Gr.ask
            rw [← htt.out, show 8 - k = (7 - k) + 1 from by omega]
            unfold Gr.tell
            rw [← hx.out, hxi]; rfl
          rw [e]; exact q3, fun j hj => by
            rcases hS j hj with h | h
            · exact .inl h
            · exact .inr (by omega), hu3⟩
        clear q3 kb3 hu3 hxi
        go_wp2_with fail
        refine bodyPost_ret (v := .tuple #[]) (by simp [results, Try.results61, go_sem]) rfl ?_
        exact ⟨rfl, hfin.out⟩
      | true =>
        rw [hxi] at s6
        have hstep : Hid (G.tell m (8 - (k + 1)) (m.slot + ((k + 1 : Nat) : Int)) (G'.send ⟨5, m.dst, m.fr, m.slot + (k : Int), bal0, bal0, x.text⟩) = G.tell m 8 m.slot G) := hid (by
          rw [← htt.out, show 8 - k = (8 - (k + 1)) + 1 from by omega]
          conv => rhs; unfold Gr.tell
          rw [← hx.out, hxi, if_pos rfl, show m.slot + ((k + 1 : Nat) : Int) = m.slot + (k : Int) + 1 from by omega])
        clear hxi
        go_wp2_with fail
        refine (send_any ⟨5, m.dst, m.fr, m.slot + (k : Int), bal0, bal0, x.text⟩ q3).mono ?_
        rintro e w4 ⟨rfl, S4, h4, hS4, hu4⟩
        have kb4 := kb3.upd hu4 fun h => hSne _ h rfl
        have hu5 := hu3.trans hu4 fun j hj h => hSw j h (by omega)
        clear q3 kb3 hu3 hu4 s6 s7 e0 e1 e2 e3 e4 e5 e6 e7 e8
        go_wp2_with fail
        go_roundw
        case rel => exact ⟨k + 1, S4, _, by congr 1; omega, hlt, h4, by rw [Gr.send_nds]; exact hnn.out, hstep.out, fun j hj => by
          rcases hS4 j hj with h | h
          · exact hS j h
          · exact .inr (by omega), hu5, kb4⟩
        case measure => simp [intOf]; omega
    · obtain rfl : k = 8 := by omega
      have t1 : decide (m.slot + ((8 : Nat) : Int) < m.slot + 8) = false := decide_eq_false (by omega)
      have hfin : Hid (GGo S w g (G.ask m) wr) := hid ⟨S', by
        have e : G.ask m = G' := by
          unfold Gr.ask
          rw [← htt.out]; rfl
        rw [e]; exact q, fun j hj => by
          rcases hS j hj with h | h
          · exact .inl h
          · exact .inr (by omega), hu⟩
      clear q kb hu
      go_wp2_with fail
      go_end0
      exact ⟨rfl, hfin.out⟩
end

end Go.Proofs.Ytbgopicpdpkccaa

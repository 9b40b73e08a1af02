/- Texts of the proof, joined: GChos, GRTell, GRAns, GRCnt. -/
import Derived.Test.YtbgopicpdpkccaaJ11
import Derived.Test.YtbgopicpdpkccaaJ14
namespace Go.Proofs.Ytbgopicpdpkccaa
open Go.RowKit
set_option linter.unusedVariables false
set_option linter.unusedSimpArgs false

/-- the counts, and the best vote that a majority has -/
def Gr.tally (G : Gr) (s : Int) : Nat → List (Bal × Int) × Vt
  | 0 => ([], vt0)
  | k + 1 =>
    let a := (G.at_ k s).accd
    let c := (getA a.bal (G.tally s k).1).getD 0 + 1
    (setA a.bal c (G.tally s k).1, if 0 < a.bal.rd ∧ c = ((G.nds.length / 2 + 1 : Nat) : Int) ∧ 0 < cmpB a.bal (G.tally s k).2.bal then a else (G.tally s k).2)
def Gr.chosen (G : Gr) (s : Int) : Vt := (G.tally s G.nds.length).2
def Gr.have_ (G : Gr) (s : Int) (k : Nat) (b : Bal) : List Nat := (List.range k).filter fun j => decide ((G.at_ j s).accd.bal = b)
theorem tally_count (G : Gr) (s : Int) (b : Bal) : ∀ k, (getA b (G.tally s k).1).getD 0 = ((G.have_ s k b).length : Int) := by
  intro k
  induction k with
  | zero => rfl
  | succ k ih =>
    unfold Gr.tally Gr.have_
    simp only
    rw [getA_set, List.range_succ, List.filter_append, List.length_append]
    by_cases e : b = (G.at_ k s).accd.bal
    · rw [if_pos e, ← e, ih]
      unfold Gr.have_
      simp [← e]
    · have e2 : ¬ (G.at_ k s).accd.bal = b := fun h => e h.symm
      rw [if_neg e, ih]
      unfold Gr.have_
      simp [e2]
theorem tally_bound (G : Gr) (s : Int) (b : Bal) (k : Nat) : 0 ≤ (getA b (G.tally s k).1).getD 0 ∧ (getA b (G.tally s k).1).getD 0 ≤ k := by
  rw [tally_count]
  have := List.length_filter_le (fun j => decide ((G.at_ j s).accd.bal = b)) (List.range k)
  rw [List.length_range] at this
  unfold Gr.have_
  omega
theorem tally_best (G : Gr) (s : Int) : ∀ k, k ≤ G.nds.length → (G.tally s k).2 = vt0 ∨ ∃ j, j < k ∧ (G.tally s k).2 = (G.at_ j s).accd ∧ 0 < (G.tally s k).2.bal.rd ∧ IsQ G.nds.length (G.have_ s (j + 1) (G.tally s k).2.bal) := by
  intro k
  induction k with
  | zero => intro _; exact .inl rfl
  | succ k ih =>
    intro hk
    unfold Gr.tally
    simp only
    by_cases hc : 0 < (G.at_ k s).accd.bal.rd ∧ (getA (G.at_ k s).accd.bal (G.tally s k).1).getD 0 + 1 = ((G.nds.length / 2 + 1 : Nat) : Int) ∧ 0 < cmpB (G.at_ k s).accd.bal (G.tally s k).2.bal
    · rw [if_pos hc]
      refine .inr ⟨k, by omega, rfl, hc.1, ?_, fun f hf => ?_, ?_⟩
      · exact List.Pairwise.filter _ List.nodup_range
      · have := List.mem_range.1 (List.mem_filter.1 hf).1
        omega
      · have h1 := hc.2.1
        rw [tally_count] at h1
        have h2 : (G.have_ s (k + 1) (G.at_ k s).accd.bal).length = (G.have_ s k (G.at_ k s).accd.bal).length + 1 := by
          unfold Gr.have_
          rw [List.range_succ, List.filter_append, List.length_append]
          simp
        omega
    · rw [if_neg hc]
      rcases ih (by omega) with h | ⟨j, h1, h2⟩
      · exact .inl h
      · exact .inr ⟨j, by omega, h2⟩
theorem Safe.chosen {s : Int} {pr K : ByteArray → Prop} {G : Gr} {g : Gho} (h : Safe s pr G g K) (hc : 0 < (G.chosen s).bal.rd) : Chos G g (G.chosen s).text := by
  rcases tally_best G s G.nds.length (Nat.le_refl _) with h0 | ⟨j, h1, h2, h3, h4⟩
  · unfold Gr.chosen at hc
    rw [h0] at hc
    exact absurd hc (by decide)
  · have hacc : ∀ f, f < G.nds.length → 0 < (G.at_ f s).accd.bal.rd → g.A f (G.at_ f s).accd.bal ∧ g.P (G.at_ f s).accd.bal (G.at_ f s).accd.text := fun f hf hp => by
      rcases (h.node f hf).acc with e | e
      · rw [e] at hp; exact absurd hp (by decide)
      · exact e
    unfold Gr.chosen
    refine ⟨(G.tally s G.nds.length).2.bal, _, ?_, h4, fun f hf => ?_⟩
    · rw [h2]
      exact (hacc j h1 (by rw [← h2]; exact h3)).2
    · obtain ⟨f1, f2⟩ := List.mem_filter.1 hf
      have f2 := of_decide_eq_true f2
      have f3 := h4.2.1 f hf
      rw [← f2]
      exact (hacc f f3 (by rw [f2]; exact h3)).1

end Go.Proofs.Ytbgopicpdpkccaa

namespace Go.Proofs.Ytbgopicpdpkccaa
open Go.RowKit
set_option linter.unusedVariables false
set_option linter.unusedSimpArgs false

theorem SRange.nds {G G' : Gr} (h : SRange G) (e : G'.nds = G.nds) : SRange G' := fun n s hs => (Gr.st_nds e n s).trans (h n s hs)
theorem SFew.nds {G G' : Gr} (h : SFew G) (e : G'.nds = G.nds) : SFew G' := fun i => by
  have := h i
  unfold Gr.nd at this ⊢
  rwa [e]
section
variable {S : Nat → Prop} {w w' : World} {g : Nat} {G : Gr}
set_option maxRecDepth 100000 in
set_option maxHeartbeats 2000000 in
theorem rtell_any (m : Ml) (h : RAt S w g G) (hs : 0 ≤ m.slot ∧ m.slot ≤ 1000) (hr : SRange G) (hl : SFew G) : Calls Try.prog 71 #[.pointer (some ⟨g, 0, none⟩), .agg #[.int .i64 m.kind, .int .i64 m.fr, .int .i64 m.dst, .int .i64 m.slot, .int .i64 m.bal.rd, .int .i64 m.bal.nd, .int .i64 m.had.rd, .int .i64 m.had.nd, .string m.text]] w fun e w' => e = .returned (.tuple #[]) ∧ RGo S w g (G.ask m) w' := by
  have hB : Below w.heap.size w (w.alloc (.cells #[.int .i64 m.kind, .int .i64 m.fr, .int .i64 m.dst, .int .i64 m.slot, .int .i64 m.bal.rd, .int .i64 m.bal.nd, .int .i64 m.had.rd, .int .i64 m.had.nd, .string m.text] 78)) := (Below.refl _ _).alloc (Nat.le_refl _) _
  have kb := Blk.new w 78 #[.int .i64 m.kind, .int .i64 m.fr, .int .i64 m.dst, .int .i64 m.slot, .int .i64 m.bal.rd, .int .i64 m.bal.nd, .int .i64 m.had.rd, .int .i64 m.had.nd, .string m.text]
  have hSlt := h.lt.1
  have h1 := h.below hB
  have hz1 : (w.alloc (.cells #[.int .i64 m.kind, .int .i64 m.fr, .int .i64 m.dst, .int .i64 m.slot, .int .i64 m.bal.rd, .int .i64 m.bal.nd, .int .i64 m.had.rd, .int .i64 m.had.nd, .string m.text] 78)).heap.size = w.heap.size + 1 := by simp
  have x3 : (w.alloc (.cells #[.int .i64 m.kind, .int .i64 m.fr, .int .i64 m.dst, .int .i64 m.slot, .int .i64 m.bal.rd, .int .i64 m.bal.nd, .int .i64 m.had.rd, .int .i64 m.had.nd, .string m.text] 78)).cell? ⟨w.heap.size, 3, none⟩ = some (.int .i64 m.slot) := kb.cell 3
  have hz1 := hid hz1
  have HR := hid hr; have HL := hid hl
  clear h hr hl
  go_enter Try.func71, Try.ntmps71
  go_wp2_with fail
  go_loopw [4] (fun v wr => ∃ (k : Nat) (S' : Nat → Prop) (G' : Gr), v = .int .i64 (k : Int) ∧ k ≤ 8 ∧ RAt S' wr g G' ∧ G'.nds = G.nds ∧ G.tell m (8 - k) (m.slot + (k : Int)) G' = G.tell m 8 m.slot G ∧ (∀ j, S' j → S j ∨ w.heap.size + 1 ≤ j) ∧ Upd S w wr ∧ Blk wr w.heap.size 78 #[.int .i64 m.kind, .int .i64 m.fr, .int .i64 m.dst, .int .i64 m.slot, .int .i64 m.bal.rd, .int .i64 m.bal.nd, .int .i64 m.had.rd, .int .i64 m.had.nd, .string m.text]) (fun v _ => (8 - intOf v).toNat)
  case atStart => exact ⟨0, S, G, by simp, by omega, h1, rfl, by simp, fun _ h => .inl h, .of_below' hB _, kb⟩
  case round =>
    clear h1 kb x3
    obtain ⟨k, S', G', rfl, hk, q, hn0, ht0, hS, hu, kb⟩ := hrel
    have hnn := hid hn0
    have htt := hid ht0
    clear hn0 ht0
    have hql := q.lt.1
    have hwr : w.heap.size + 1 ≤ wr.heap.size := kb.lt
    have hSw : ∀ j, S' j → j < w.heap.size + 1 → S j := fun j hj hl => by
      rcases hS j hj with h | h
      · exact h
      · omega
    have hSne : ∀ j, S' j → j ≠ w.heap.size := fun j hj e => by
      rcases hS j hj with h | h
      · have := hSlt j h; omega
      · omega
    have x3 : wr.cell? ⟨w.heap.size, 3, none⟩ = some (.int .i64 m.slot) := kb.cell 3
    have x2 : wr.cell? ⟨w.heap.size, 2, none⟩ = some (.int .i64 m.dst) := kb.cell 2
    have hw2 : IntKind.i64.wrap (m.slot + (k : Int)) = m.slot + (k : Int) := IntWalk.i64_in _ (by omega)
    by_cases hlt : k < 8
    · have t1 : decide ((k : Int) < 8) = true := decide_eq_true (by omega)
      by_cases hls : m.slot + (k : Int) < 256
      · have t2 : decide (m.slot + (k : Int) < 256) = true := decide_eq_true hls
        have hst0 := Gr.st_nds hnn.out m.dst (m.slot + (k : Int))
        have hsc := rof_any m.dst (m.slot + (k : Int)) q (HR.out.nds hnn.out _ _) (HL.out.nds hnn.out)
        rw [hst0] at hsc
        have hsc' := hid hsc
        obtain ⟨x, hx0⟩ : ∃ x, x = G.st m.dst (m.slot + (k : Int)) := ⟨_, rfl⟩
        rw [← hx0] at hsc'
        have hx := hid hx0
        clear hst0 hx0 hsc
        go_wp2_with fail
        refine hsc'.out.mono ?_
        rintro e w2 ⟨⟨k1, z1, rfl⟩, hb2⟩
        unfold rval
        have hY : Below w2.heap.size w2 (w2.alloc (.cells #[.int .i64 k1, .int .i64 x.rd, .int .i64 x.prom.rd, .int .i64 x.prom.nd, .int .i64 x.accd.bal.rd, .int .i64 x.accd.bal.nd, .string x.accd.text, .bool x.is, .string x.text, .bool x.bid.isSome, .bool z1.asks, .int .i64 z1.bal.rd, .int .i64 z1.bal.nd, .string z1.own, .slice z1.A z1.n z1.c] 103)) := (Below.refl _ _).alloc (Nat.le_refl _) _
        have hb3 := hb2.trans (hY.mono hb2.size)
        have ks := Blk.new w2 103 #[.int .i64 k1, .int .i64 x.rd, .int .i64 x.prom.rd, .int .i64 x.prom.nd, .int .i64 x.accd.bal.rd, .int .i64 x.accd.bal.nd, .string x.accd.text, .bool x.is, .string x.text, .bool x.bid.isSome, .bool z1.asks, .int .i64 z1.bal.rd, .int .i64 z1.bal.nd, .string z1.own, .slice z1.A z1.n z1.c]
        have q3 := q.below hb3
        have kb3 := kb.below_all hb3
        have hu3 := hu.trans (Upd.of_below' hb3 _) fun _ _ h => h
        have hz3 := hb3.size
        clear q kb hu hb2 hY hb3 x2 x3
        go_upto_region 5 with fail
        generalize w2.alloc (.cells #[.int .i64 k1, .int .i64 x.rd, .int .i64 x.prom.rd, .int .i64 x.prom.nd, .int .i64 x.accd.bal.rd, .int .i64 x.accd.bal.nd, .string x.accd.text, .bool x.is, .string x.text, .bool x.bid.isSome, .bool z1.asks, .int .i64 z1.bal.rd, .int .i64 z1.bal.nd, .string z1.own, .slice z1.A z1.n z1.c] 103) = w3 at *
        have s6 : w3.cell? ⟨w2.heap.size, 7, none⟩ = some (.bool x.is) := ks.cell 7
        have s7 : w3.cell? ⟨w2.heap.size, 8, none⟩ = some (.string x.text) := ks.cell 8
        have e0 : w3.cell? ⟨w.heap.size, 0, none⟩ = some (.int .i64 m.kind) := kb3.cell 0
        have e1 : w3.cell? ⟨w.heap.size, 1, none⟩ = some (.int .i64 m.fr) := kb3.cell 1
        have e2 : w3.cell? ⟨w.heap.size, 2, none⟩ = some (.int .i64 m.dst) := kb3.cell 2
        have e3 : w3.cell? ⟨w.heap.size, 3, none⟩ = some (.int .i64 m.slot) := kb3.cell 3
        have e4 : w3.cell? ⟨w.heap.size, 4, none⟩ = some (.int .i64 m.bal.rd) := kb3.cell 4
        have e5 : w3.cell? ⟨w.heap.size, 5, none⟩ = some (.int .i64 m.bal.nd) := kb3.cell 5
        have e6 : w3.cell? ⟨w.heap.size, 6, none⟩ = some (.int .i64 m.had.rd) := kb3.cell 6
        have e7 : w3.cell? ⟨w.heap.size, 7, none⟩ = some (.int .i64 m.had.nd) := kb3.cell 7
        have e8 : w3.cell? ⟨w.heap.size, 8, none⟩ = some (.string m.text) := kb3.cell 8

        cases hxi : x.is with
        | false =>
          rw [hxi] at s6
          have hfin : Hid (RGo S w g (G.ask m) w3) := hid ⟨S', by
            have e : G.ask m = G' := by
              unfold Gr.ask
              rw [← htt.out, show 8 - k = (7 - k) + 1 from by omega]
              unfold Gr.tell
              rw [← hx.out, hxi]; rfl
            rw [e]; exact q3, fun j hj => by
              rcases hS j hj with h | h
              · exact .inl h
              · exact .inr (by omega), hu3⟩
          clear q3 kb3 hu3 hxi
          go_wp2_with fail
          refine bodyPost_ret (v := .tuple #[]) (by simp [results, Try.results71, go_sem]) rfl ?_
          exact ⟨rfl, hfin.out⟩
        | true =>
          rw [hxi] at s6
          have hstep : Hid (G.tell m (8 - (k + 1)) (m.slot + ((k + 1 : Nat) : Int)) (G'.send ⟨5, m.dst, m.fr, m.slot + (k : Int), bal0, bal0, x.text⟩) = G.tell m 8 m.slot G) := hid (by
            rw [← htt.out, show 8 - k = (8 - (k + 1)) + 1 from by omega]
            conv => rhs; unfold Gr.tell
            rw [← hx.out, hxi, if_pos rfl, show m.slot + ((k + 1 : Nat) : Int) = m.slot + (k : Int) + 1 from by omega])
          clear hxi
          go_wp2_with fail
          refine (rsend_any ⟨5, m.dst, m.fr, m.slot + (k : Int), bal0, bal0, x.text⟩ q3).mono ?_
          rintro e w4 ⟨rfl, S4, h4, hS4, hu4⟩
          have kb4 := kb3.upd hu4 fun h => hSne _ h rfl
          have hu5 := hu3.trans hu4 fun j hj h => hSw j h (by omega)
          clear q3 kb3 hu3 hu4 s6 s7 e0 e1 e2 e3 e4 e5 e6 e7 e8
          go_wp2_with fail
          go_roundw
          case rel => exact ⟨k + 1, S4, _, by go_num, hlt, h4, by rw [Gr.send_nds]; exact hnn.out, hstep.out, fun j hj => by
            rcases hS4 j hj with h | h
            · exact hS j h
            · exact .inr (by omega), hu5, kb4⟩
          case measure => simp [intOf]; omega
      · have t2 : decide (m.slot + (k : Int) < 256) = false := decide_eq_false hls
        have hfin : Hid (RGo S w g (G.ask m) wr) := hid ⟨S', by
          have e : G.ask m = G' := by
            unfold Gr.ask
            rw [← htt.out, show 8 - k = (7 - k) + 1 from by omega]
            unfold Gr.tell
            rw [HR.out _ _ fun h => hls h.2]; rfl
          rw [e]; exact q, fun j hj => by
            rcases hS j hj with h | h
            · exact .inl h
            · exact .inr (by omega), hu⟩
        clear q kb hu
        go_wp2_with fail
        go_end0
        exact ⟨rfl, hfin.out⟩
    · obtain rfl : k = 8 := by omega
      have t1 : decide (((8 : Nat) : Int) < 8) = false := decide_eq_false (by omega)
      have hfin : Hid (RGo S w g (G.ask m) wr) := hid ⟨S', by
        have e : G.ask m = G' := by
          unfold Gr.ask
          rw [← htt.out]; rfl
        rw [e]; exact q, fun j hj => by
          rcases hS j hj with h | h
          · exact .inl h
          · exact .inr (by omega), hu⟩
      clear q kb hu
      go_wp2_with fail
      go_end0
      exact ⟨rfl, hfin.out⟩
end

end Go.Proofs.Ytbgopicpdpkccaa

namespace Go.Proofs.Ytbgopicpdpkccaa
open Go.RowKit
set_option linter.unusedVariables false
set_option linter.unusedSimpArgs false

theorem getA_some {fr : Int} {l : List (Int × Vt)} : ∀ {k : Nat} {p : Int × Vt}, l[k]? = some p → p.1 = fr → (getA fr l).isSome = true := by
  induction l with
  | nil => intro k p h; cases h
  | cons q l ih =>
    intro k p h e
    unfold getA
    by_cases e2 : fr = q.1
    · rw [if_pos e2]; rfl
    · rw [if_neg e2]
      cases k with
      | zero => simp at h; subst h; exact absurd e.symm e2
      | succ k => exact ih (k := k) (by simpa using h) e
theorem getA_no {fr : Int} {l : List (Int × Vt)} (h : ∀ (j : Nat) (p : Int × Vt), l[j]? = some p → p.1 ≠ fr) : getA fr l = none := by
  induction l with
  | nil => rfl
  | cons q l ih =>
    unfold getA
    rw [if_neg fun e => h 0 q (by simp) e.symm]
    exact ih fun j p hp => h (j + 1) p (by simpa using hp)
theorem acells_len (acc : Bool) (l : List (Int × Vt)) : (acells acc l).length = l.length * 4 := by
  induction l with
  | nil => rfl
  | cons p l ih =>
    show (acell acc p ++ acells acc l).length = _
    rw [List.length_append, ih, List.length_cons]
    simp [acell]; omega
section
variable {S : Nat → Prop} {w : World}
/-- an answer's cells -/
theorem ans_at {A : Option Addr} {c : Nat} {acc : Bool} {l : List (Int × Vt)} (hr : OwnS S w 118 4 (.slice A l.length c) l.length (acells acc l)) {k : Nat} (hk : k < l.length) :
    ∃ b, A = some ⟨b, 0, none⟩ ∧ b < w.heap.size ∧ S b ∧ (∃ cs, Blk w b 118 cs) ∧ ∀ f, f < 4 → w.cell? ⟨b, k * 4 + f, none⟩ = (acell acc l[k])[f]? := by
  obtain ⟨b, cur, rfl, hb⟩ := own_formS hr.1 (by omega)
  refine ⟨b, rfl, hb.lt, hr.2 b rfl, ⟨cur, hb⟩, fun f hf => ?_⟩
  obtain ⟨b2, o2, e2, _, _, hc⟩ := hr.rd.at_ (show 0 < l.length by omega)
  injection e2 with e2
  injection e2 with e2 e3
  subst e2 e3
  have h1 : (acells acc l)[k * 4 + f]? = (acell acc l[k])[f]? := flat_at (acell acc) 4 (fun _ => rfl) l k f hk hf
  obtain ⟨u, hu⟩ : ∃ u, (acell acc l[k])[f]? = some u := ⟨_, List.getElem?_eq_getElem (show f < 4 from hf)⟩
  rw [hu]
  rw [hu] at h1
  have := hc _ u h1
  simpa using this
set_option maxRecDepth 100000 in
set_option maxHeartbeats 1000000 in
theorem ranswered_any (fr : Int) (b o : Nat) {A : Option Addr} {c : Nat} {acc : Bool} {l : List (Int × Vt)} (x0 : w.cell? ⟨b, o + 14, none⟩ = some (.slice A l.length c)) (hr : OwnS S w 118 4 (.slice A l.length c) l.length (acells acc l)) (hl : (l.length : Int) ≤ 1000) : Calls Try.prog 76 #[.pointer (some ⟨b, o, none⟩), .int .i64 fr] w fun e w' => e = .returned (.bool (getA fr l).isSome) ∧ w' = w := by
  have hs := fun k hk => ans_at hr (k := k) hk
  have HS := hid hs
  clear hr hs
  go_enter Try.func76, Try.ntmps76
  go_wp2_with fail
  go_loopw [5] (fun v wr => ∃ k : Nat, k ≤ l.length ∧ v = .int .i64 k ∧ (∀ (j : Nat) (p : Int × Vt), j < k → l[j]? = some p → p.1 ≠ fr) ∧ wr = w) (fun v _ => l.length - (intOf v).toNat)
  case atStart => exact ⟨0, Nat.zero_le _, rfl, fun j p h => absurd h (Nat.not_lt_zero _), rfl⟩
  case round =>
    obtain ⟨k, hk, rfl, hno0, rfl⟩ := hrel
    have hno := hid hno0
    clear hno0
    by_cases hkl2 : k < l.length
    · have hkl : (k : Int) < (l.length : Int) := by omega
      obtain ⟨b2, rfl, _, _, _, hc⟩ := HS.out k hkl2
      have y0 : wr.cell? ⟨b2, k * 4, none⟩ = some (.int .i64 (l[k]).1) := hc 0 (by omega)
      have hke := hid (List.getElem?_eq_getElem hkl2)
      by_cases he : (l[k]).1 = fr
      · have hfin : Hid ((getA fr l).isSome = true) := hid (getA_some hke.out he)
        clear hc
        generalize (l[k]).1 = ky at *
        subst he
        go_wp2_with fail
        go_ret
        rw [hfin.out]
        exact ⟨rfl, rfl⟩
      · have hnk : Hid ((l[k]).1 ≠ fr) := hid he
        generalize hky : (l[k]).1 = ky at *
        have t3 : decide (ky = fr) = false := decide_eq_false he
        have t4 : (ky == fr) = false := by simpa using he
        clear hc he
        go_wp2_with fail
        go_roundw
        case rel => exact ⟨k + 1, by omega, by go_num, fun j p hj hp => by
          rcases Nat.lt_succ_iff_lt_or_eq.1 hj with h | rfl
          · exact hno.out j p h hp
          · rw [hke.out] at hp
            injection hp with hp
            rw [← hp, hky]
            exact hnk.out, trivial⟩
        case measure => simp [intOf]; omega
    · obtain rfl : k = l.length := by omega
      have hfin : Hid (getA fr l = none) := hid (getA_no fun j p hp => hno.out j p (List.getElem?_eq_some_iff.1 hp).1 hp)
      go_wp2_with fail
      go_ret
      exact ⟨by rw [hfin.out]; rfl, rfl⟩
end

end Go.Proofs.Ytbgopicpdpkccaa

namespace Go.Proofs.Ytbgopicpdpkccaa
open Go.RowKit
set_option linter.unusedVariables false
set_option linter.unusedSimpArgs false

section
variable {S : Nat → Prop} {w w' : World} {r : Nat} {An Am : Option Addr} {cn cm : Nat} {G : Gr} {a : Ra}
set_option maxRecDepth 100000 in
set_option maxHeartbeats 2000000 in
theorem rpromise_none (m : Ml) (x : Sl) (i : Nat) (s : Int) {q b : Nat} (h : RIn S w r An cn Am cm G a) (hi : i < G.nds.length) (hq : (G.nd i).sl[q]? = some (s, x)) (hb : a.lA i = some ⟨b, 0, none⟩) (hl : ∀ d, x.bid = some d → (d.ans.length : Int) ≤ 1000) (hc : x.cnts m false = none) : Calls Try.prog 69 #[.pointer (some ⟨r, 0, none⟩), .pointer (some ⟨b, q * 15, none⟩), .agg #[.int .i64 m.kind, .int .i64 m.fr, .int .i64 m.dst, .int .i64 m.slot, .int .i64 m.bal.rd, .int .i64 m.bal.nd, .int .i64 m.had.rd, .int .i64 m.had.nd, .string m.text]] w fun e w' => e = .returned (.tuple #[]) ∧ Below w.heap.size w w' := by
  have hB0 : Below w.heap.size w (w.alloc (.cells #[.int .i64 m.kind, .int .i64 m.fr, .int .i64 m.dst, .int .i64 m.slot, .int .i64 m.bal.rd, .int .i64 m.bal.nd, .int .i64 m.had.rd, .int .i64 m.had.nd, .string m.text] 78)) := (Below.refl _ _).alloc (Nat.le_refl _) _
  have kb := Blk.new w 78 #[.int .i64 m.kind, .int .i64 m.fr, .int .i64 m.dst, .int .i64 m.slot, .int .i64 m.bal.rd, .int .i64 m.bal.nd, .int .i64 m.had.rd, .int .i64 m.had.nd, .string m.text]
  have hSlt := h.lt
  have q1 := h.below hB0
  have hB := hid hB0
  obtain ⟨b', hb', hbl, hSb, hbk, hc0⟩ := q1.seg hi hq
  rw [hb] at hb'
  injection hb' with hb'
  injection hb' with hb'
  subst hb'
  have hz := q1.ans i hi (s, x) (List.mem_of_getElem? hq)
  clear h hB0
  have s9 : (w.alloc (.cells #[.int .i64 m.kind, .int .i64 m.fr, .int .i64 m.dst, .int .i64 m.slot, .int .i64 m.bal.rd, .int .i64 m.bal.nd, .int .i64 m.had.rd, .int .i64 m.had.nd, .string m.text] 78)).cell? ⟨b, q * 15 + 9, none⟩ = some (.bool x.bid.isSome) := hc0 9 (by omega)
  have s10 : (w.alloc (.cells #[.int .i64 m.kind, .int .i64 m.fr, .int .i64 m.dst, .int .i64 m.slot, .int .i64 m.bal.rd, .int .i64 m.bal.nd, .int .i64 m.had.rd, .int .i64 m.had.nd, .string m.text] 78)).cell? ⟨b, q * 15 + 10, none⟩ = some (.bool (a.z i s).asks) := hc0 10 (by omega)
  have s11 : (w.alloc (.cells #[.int .i64 m.kind, .int .i64 m.fr, .int .i64 m.dst, .int .i64 m.slot, .int .i64 m.bal.rd, .int .i64 m.bal.nd, .int .i64 m.had.rd, .int .i64 m.had.nd, .string m.text] 78)).cell? ⟨b, q * 15 + 11, none⟩ = some (.int .i64 (a.z i s).bal.rd) := hc0 11 (by omega)
  have s12 : (w.alloc (.cells #[.int .i64 m.kind, .int .i64 m.fr, .int .i64 m.dst, .int .i64 m.slot, .int .i64 m.bal.rd, .int .i64 m.bal.nd, .int .i64 m.had.rd, .int .i64 m.had.nd, .string m.text] 78)).cell? ⟨b, q * 15 + 12, none⟩ = some (.int .i64 (a.z i s).bal.nd) := hc0 12 (by omega)
  have s13 : (w.alloc (.cells #[.int .i64 m.kind, .int .i64 m.fr, .int .i64 m.dst, .int .i64 m.slot, .int .i64 m.bal.rd, .int .i64 m.bal.nd, .int .i64 m.had.rd, .int .i64 m.had.nd, .string m.text] 78)).cell? ⟨b, q * 15 + 13, none⟩ = some (.string (a.z i s).own) := hc0 13 (by omega)
  have s14 : (w.alloc (.cells #[.int .i64 m.kind, .int .i64 m.fr, .int .i64 m.dst, .int .i64 m.slot, .int .i64 m.bal.rd, .int .i64 m.bal.nd, .int .i64 m.had.rd, .int .i64 m.had.nd, .string m.text] 78)).cell? ⟨b, q * 15 + 14, none⟩ = some (.slice (a.z i s).A (a.z i s).n (a.z i s).c) := hc0 14 (by omega)
  have e0 : (w.alloc (.cells #[.int .i64 m.kind, .int .i64 m.fr, .int .i64 m.dst, .int .i64 m.slot, .int .i64 m.bal.rd, .int .i64 m.bal.nd, .int .i64 m.had.rd, .int .i64 m.had.nd, .string m.text] 78)).cell? ⟨w.heap.size, 0, none⟩ = some (.int .i64 m.kind) := kb.cell 0
  have e1 : (w.alloc (.cells #[.int .i64 m.kind, .int .i64 m.fr, .int .i64 m.dst, .int .i64 m.slot, .int .i64 m.bal.rd, .int .i64 m.bal.nd, .int .i64 m.had.rd, .int .i64 m.had.nd, .string m.text] 78)).cell? ⟨w.heap.size, 1, none⟩ = some (.int .i64 m.fr) := kb.cell 1
  have e2 : (w.alloc (.cells #[.int .i64 m.kind, .int .i64 m.fr, .int .i64 m.dst, .int .i64 m.slot, .int .i64 m.bal.rd, .int .i64 m.bal.nd, .int .i64 m.had.rd, .int .i64 m.had.nd, .string m.text] 78)).cell? ⟨w.heap.size, 2, none⟩ = some (.int .i64 m.dst) := kb.cell 2
  have e3 : (w.alloc (.cells #[.int .i64 m.kind, .int .i64 m.fr, .int .i64 m.dst, .int .i64 m.slot, .int .i64 m.bal.rd, .int .i64 m.bal.nd, .int .i64 m.had.rd, .int .i64 m.had.nd, .string m.text] 78)).cell? ⟨w.heap.size, 3, none⟩ = some (.int .i64 m.slot) := kb.cell 3
  have e4 : (w.alloc (.cells #[.int .i64 m.kind, .int .i64 m.fr, .int .i64 m.dst, .int .i64 m.slot, .int .i64 m.bal.rd, .int .i64 m.bal.nd, .int .i64 m.had.rd, .int .i64 m.had.nd, .string m.text] 78)).cell? ⟨w.heap.size, 4, none⟩ = some (.int .i64 m.bal.rd) := kb.cell 4
  have e5 : (w.alloc (.cells #[.int .i64 m.kind, .int .i64 m.fr, .int .i64 m.dst, .int .i64 m.slot, .int .i64 m.bal.rd, .int .i64 m.bal.nd, .int .i64 m.had.rd, .int .i64 m.had.nd, .string m.text] 78)).cell? ⟨w.heap.size, 5, none⟩ = some (.int .i64 m.bal.nd) := kb.cell 5
  have e6 : (w.alloc (.cells #[.int .i64 m.kind, .int .i64 m.fr, .int .i64 m.dst, .int .i64 m.slot, .int .i64 m.bal.rd, .int .i64 m.bal.nd, .int .i64 m.had.rd, .int .i64 m.had.nd, .string m.text] 78)).cell? ⟨w.heap.size, 6, none⟩ = some (.int .i64 m.had.rd) := kb.cell 6
  have e7 : (w.alloc (.cells #[.int .i64 m.kind, .int .i64 m.fr, .int .i64 m.dst, .int .i64 m.slot, .int .i64 m.bal.rd, .int .i64 m.bal.nd, .int .i64 m.had.rd, .int .i64 m.had.nd, .string m.text] 78)).cell? ⟨w.heap.size, 7, none⟩ = some (.int .i64 m.had.nd) := kb.cell 7
  have e8 : (w.alloc (.cells #[.int .i64 m.kind, .int .i64 m.fr, .int .i64 m.dst, .int .i64 m.slot, .int .i64 m.bal.rd, .int .i64 m.bal.nd, .int .i64 m.had.rd, .int .i64 m.had.nd, .string m.text] 78)).cell? ⟨w.heap.size, 8, none⟩ = some (.string m.text) := kb.cell 8
  have hgd := guardBal
  cases hd : x.bid with
  | none =>
    rw [hd] at s9
    have s9 : (w.alloc (.cells #[.int .i64 m.kind, .int .i64 m.fr, .int .i64 m.dst, .int .i64 m.slot, .int .i64 m.bal.rd, .int .i64 m.bal.nd, .int .i64 m.had.rd, .int .i64 m.had.nd, .string m.text] 78)).cell? ⟨b, q * 15 + 9, none⟩ = some (.bool false) := s9
    clear hz hc hd q1 kb hc0 hbk hl hq
    go_enter Try.func69, Try.ntmps69
    go_upto_region 1 with fail
    generalize (w.alloc (.cells #[.int .i64 m.kind, .int .i64 m.fr, .int .i64 m.dst, .int .i64 m.slot, .int .i64 m.bal.rd, .int .i64 m.bal.nd, .int .i64 m.had.rd, .int .i64 m.had.nd, .string m.text] 78)) = W1 at *
    go_quiet (fail)
    go_wp2_with fail
    refine bodyPost_ret (v := .tuple #[]) (by simp [results, Try.results69, go_sem]) rfl ?_
    exact ⟨rfl, below_drewN hB.out _⟩
  | some d =>
    obtain ⟨z1, z2, z3, z4, z5⟩ := hz d hd
    have z1 : (a.z i s).asks = d.acc := z1
    have z2 : (a.z i s).bal = d.bal := z2
    have z3 : (a.z i s).own = d.text := z3
    have z4 : (a.z i s).n = d.ans.length := z4
    have z5 : OwnS S (w.alloc (.cells #[.int .i64 m.kind, .int .i64 m.fr, .int .i64 m.dst, .int .i64 m.slot, .int .i64 m.bal.rd, .int .i64 m.bal.nd, .int .i64 m.had.rd, .int .i64 m.had.nd, .string m.text] 78)) 118 4 (.slice (a.z i s).A (a.z i s).n (a.z i s).c) (a.z i s).n (acells d.acc d.ans) := z5
    rw [z4] at z5 s14
    rw [hd] at s9
    have s9 : (w.alloc (.cells #[.int .i64 m.kind, .int .i64 m.fr, .int .i64 m.dst, .int .i64 m.slot, .int .i64 m.bal.rd, .int .i64 m.bal.nd, .int .i64 m.had.rd, .int .i64 m.had.nd, .string m.text] 78)).cell? ⟨b, q * 15 + 9, none⟩ = some (.bool true) := s9
    rw [z1] at s10
    rw [z2] at s11 s12
    rw [z3] at s13
    have hno := Sl.cnts_none hc d hd
    have hl := hl d hd
    clear hz hc hd z1 z2 z3 z4 q1 kb hc0 hbk hq
    by_cases h1 : d.acc = false
    · rw [h1] at s10
      by_cases h2 : d.bal = m.bal
      · have hnq : ∀ W', (binOp .neq 35 (.agg #[.int .i64 d.bal.rd, .int .i64 d.bal.nd]) (.agg #[.int .i64 m.bal.rd, .int .i64 m.bal.nd])).run Try.prog W' = .ok (.bool false) W' := fun W' => by rw [run_neqBal, decide_eq_true h2]; rfl
        have hsm := hno h2 h1
        have hans0 : ∀ n, Calls Try.prog 76 #[.pointer (some ⟨b, q * 15, none⟩), .int .i64 m.fr] ((w.alloc (.cells #[.int .i64 m.kind, .int .i64 m.fr, .int .i64 m.dst, .int .i64 m.slot, .int .i64 m.bal.rd, .int .i64 m.bal.nd, .int .i64 m.had.rd, .int .i64 m.had.nd, .string m.text] 78)).drewN n) fun e w' => e = .returned (.bool true) ∧ w' = (w.alloc (.cells #[.int .i64 m.kind, .int .i64 m.fr, .int .i64 m.dst, .int .i64 m.slot, .int .i64 m.bal.rd, .int .i64 m.bal.nd, .int .i64 m.had.rd, .int .i64 m.had.nd, .string m.text] 78)).drewN n := fun n => by
          have := ranswered_any (w := (w.alloc (.cells #[.int .i64 m.kind, .int .i64 m.fr, .int .i64 m.dst, .int .i64 m.slot, .int .i64 m.bal.rd, .int .i64 m.bal.nd, .int .i64 m.had.rd, .int .i64 m.had.nd, .string m.text] 78)).drewN n) (S := S) m.fr b (q * 15) (c := (a.z i s).c) (acc := d.acc) (l := d.ans) s14 ((OwnS.keepB z5 (fun _ => id) fun b _ => rfl)) hl
          rw [hsm] at this
          exact this
        have hans := hid hans0
        clear hno z5 h1 h2 hsm hl hans0
        go_enter Try.func69, Try.ntmps69
        go_upto_region 1 with fail
        go_quiet ((go_at_call 76; exact Calls.quiet_of_same (hans.out _)))
        go_wp2_with fail
        refine bodyPost_ret (v := .tuple #[]) (by simp [results, Try.results69, go_sem]) rfl ?_
        exact ⟨rfl, below_drewN hB.out _⟩
      · have hnq : ∀ W', (binOp .neq 35 (.agg #[.int .i64 d.bal.rd, .int .i64 d.bal.nd]) (.agg #[.int .i64 m.bal.rd, .int .i64 m.bal.nd])).run Try.prog W' = .ok (.bool true) W' := fun W' => by rw [run_neqBal, decide_eq_false h2]; rfl
        clear hno z5 h1 h2 hl
        go_enter Try.func69, Try.ntmps69
        go_upto_region 1 with fail
        go_quiet (fail)
        go_wp2_with fail
        refine bodyPost_ret (v := .tuple #[]) (by simp [results, Try.results69, go_sem]) rfl ?_
        exact ⟨rfl, below_drewN hB.out _⟩
    · have h1' : d.acc = true := by simpa using h1
      rw [h1'] at s10
      clear hno z5 h1 h1' hl
      go_enter Try.func69, Try.ntmps69
      go_upto_region 1 with fail
      go_quiet (fail)
      go_wp2_with fail
      refine bodyPost_ret (v := .tuple #[]) (by simp [results, Try.results69, go_sem]) rfl ?_
      exact ⟨rfl, below_drewN hB.out _⟩
set_option maxRecDepth 100000 in
set_option maxHeartbeats 2000000 in
theorem raccepted_none (m : Ml) (x : Sl) (i : Nat) (s : Int) {q b : Nat} (h : RIn S w r An cn Am cm G a) (hi : i < G.nds.length) (hq : (G.nd i).sl[q]? = some (s, x)) (hb : a.lA i = some ⟨b, 0, none⟩) (hl : ∀ d, x.bid = some d → (d.ans.length : Int) ≤ 1000) (hc : x.cnts m true = none) : Calls Try.prog 70 #[.pointer (some ⟨r, 0, none⟩), .pointer (some ⟨b, q * 15, none⟩), .agg #[.int .i64 m.kind, .int .i64 m.fr, .int .i64 m.dst, .int .i64 m.slot, .int .i64 m.bal.rd, .int .i64 m.bal.nd, .int .i64 m.had.rd, .int .i64 m.had.nd, .string m.text]] w fun e w' => e = .returned (.tuple #[]) ∧ Below w.heap.size w w' := by
  have hB0 : Below w.heap.size w (w.alloc (.cells #[.int .i64 m.kind, .int .i64 m.fr, .int .i64 m.dst, .int .i64 m.slot, .int .i64 m.bal.rd, .int .i64 m.bal.nd, .int .i64 m.had.rd, .int .i64 m.had.nd, .string m.text] 78)) := (Below.refl _ _).alloc (Nat.le_refl _) _
  have kb := Blk.new w 78 #[.int .i64 m.kind, .int .i64 m.fr, .int .i64 m.dst, .int .i64 m.slot, .int .i64 m.bal.rd, .int .i64 m.bal.nd, .int .i64 m.had.rd, .int .i64 m.had.nd, .string m.text]
  have hSlt := h.lt
  have q1 := h.below hB0
  have hB := hid hB0
  obtain ⟨b', hb', hbl, hSb, hbk, hc0⟩ := q1.seg hi hq
  rw [hb] at hb'
  injection hb' with hb'
  injection hb' with hb'
  subst hb'
  have hz := q1.ans i hi (s, x) (List.mem_of_getElem? hq)
  clear h hB0
  have s9 : (w.alloc (.cells #[.int .i64 m.kind, .int .i64 m.fr, .int .i64 m.dst, .int .i64 m.slot, .int .i64 m.bal.rd, .int .i64 m.bal.nd, .int .i64 m.had.rd, .int .i64 m.had.nd, .string m.text] 78)).cell? ⟨b, q * 15 + 9, none⟩ = some (.bool x.bid.isSome) := hc0 9 (by omega)
  have s10 : (w.alloc (.cells #[.int .i64 m.kind, .int .i64 m.fr, .int .i64 m.dst, .int .i64 m.slot, .int .i64 m.bal.rd, .int .i64 m.bal.nd, .int .i64 m.had.rd, .int .i64 m.had.nd, .string m.text] 78)).cell? ⟨b, q * 15 + 10, none⟩ = some (.bool (a.z i s).asks) := hc0 10 (by omega)
  have s11 : (w.alloc (.cells #[.int .i64 m.kind, .int .i64 m.fr, .int .i64 m.dst, .int .i64 m.slot, .int .i64 m.bal.rd, .int .i64 m.bal.nd, .int .i64 m.had.rd, .int .i64 m.had.nd, .string m.text] 78)).cell? ⟨b, q * 15 + 11, none⟩ = some (.int .i64 (a.z i s).bal.rd) := hc0 11 (by omega)
  have s12 : (w.alloc (.cells #[.int .i64 m.kind, .int .i64 m.fr, .int .i64 m.dst, .int .i64 m.slot, .int .i64 m.bal.rd, .int .i64 m.bal.nd, .int .i64 m.had.rd, .int .i64 m.had.nd, .string m.text] 78)).cell? ⟨b, q * 15 + 12, none⟩ = some (.int .i64 (a.z i s).bal.nd) := hc0 12 (by omega)
  have s13 : (w.alloc (.cells #[.int .i64 m.kind, .int .i64 m.fr, .int .i64 m.dst, .int .i64 m.slot, .int .i64 m.bal.rd, .int .i64 m.bal.nd, .int .i64 m.had.rd, .int .i64 m.had.nd, .string m.text] 78)).cell? ⟨b, q * 15 + 13, none⟩ = some (.string (a.z i s).own) := hc0 13 (by omega)
  have s14 : (w.alloc (.cells #[.int .i64 m.kind, .int .i64 m.fr, .int .i64 m.dst, .int .i64 m.slot, .int .i64 m.bal.rd, .int .i64 m.bal.nd, .int .i64 m.had.rd, .int .i64 m.had.nd, .string m.text] 78)).cell? ⟨b, q * 15 + 14, none⟩ = some (.slice (a.z i s).A (a.z i s).n (a.z i s).c) := hc0 14 (by omega)
  have e0 : (w.alloc (.cells #[.int .i64 m.kind, .int .i64 m.fr, .int .i64 m.dst, .int .i64 m.slot, .int .i64 m.bal.rd, .int .i64 m.bal.nd, .int .i64 m.had.rd, .int .i64 m.had.nd, .string m.text] 78)).cell? ⟨w.heap.size, 0, none⟩ = some (.int .i64 m.kind) := kb.cell 0
  have e1 : (w.alloc (.cells #[.int .i64 m.kind, .int .i64 m.fr, .int .i64 m.dst, .int .i64 m.slot, .int .i64 m.bal.rd, .int .i64 m.bal.nd, .int .i64 m.had.rd, .int .i64 m.had.nd, .string m.text] 78)).cell? ⟨w.heap.size, 1, none⟩ = some (.int .i64 m.fr) := kb.cell 1
  have e2 : (w.alloc (.cells #[.int .i64 m.kind, .int .i64 m.fr, .int .i64 m.dst, .int .i64 m.slot, .int .i64 m.bal.rd, .int .i64 m.bal.nd, .int .i64 m.had.rd, .int .i64 m.had.nd, .string m.text] 78)).cell? ⟨w.heap.size, 2, none⟩ = some (.int .i64 m.dst) := kb.cell 2
  have e3 : (w.alloc (.cells #[.int .i64 m.kind, .int .i64 m.fr, .int .i64 m.dst, .int .i64 m.slot, .int .i64 m.bal.rd, .int .i64 m.bal.nd, .int .i64 m.had.rd, .int .i64 m.had.nd, .string m.text] 78)).cell? ⟨w.heap.size, 3, none⟩ = some (.int .i64 m.slot) := kb.cell 3
  have e4 : (w.alloc (.cells #[.int .i64 m.kind, .int .i64 m.fr, .int .i64 m.dst, .int .i64 m.slot, .int .i64 m.bal.rd, .int .i64 m.bal.nd, .int .i64 m.had.rd, .int .i64 m.had.nd, .string m.text] 78)).cell? ⟨w.heap.size, 4, none⟩ = some (.int .i64 m.bal.rd) := kb.cell 4
  have e5 : (w.alloc (.cells #[.int .i64 m.kind, .int .i64 m.fr, .int .i64 m.dst, .int .i64 m.slot, .int .i64 m.bal.rd, .int .i64 m.bal.nd, .int .i64 m.had.rd, .int .i64 m.had.nd, .string m.text] 78)).cell? ⟨w.heap.size, 5, none⟩ = some (.int .i64 m.bal.nd) := kb.cell 5
  have e6 : (w.alloc (.cells #[.int .i64 m.kind, .int .i64 m.fr, .int .i64 m.dst, .int .i64 m.slot, .int .i64 m.bal.rd, .int .i64 m.bal.nd, .int .i64 m.had.rd, .int .i64 m.had.nd, .string m.text] 78)).cell? ⟨w.heap.size, 6, none⟩ = some (.int .i64 m.had.rd) := kb.cell 6
  have e7 : (w.alloc (.cells #[.int .i64 m.kind, .int .i64 m.fr, .int .i64 m.dst, .int .i64 m.slot, .int .i64 m.bal.rd, .int .i64 m.bal.nd, .int .i64 m.had.rd, .int .i64 m.had.nd, .string m.text] 78)).cell? ⟨w.heap.size, 7, none⟩ = some (.int .i64 m.had.nd) := kb.cell 7
  have e8 : (w.alloc (.cells #[.int .i64 m.kind, .int .i64 m.fr, .int .i64 m.dst, .int .i64 m.slot, .int .i64 m.bal.rd, .int .i64 m.bal.nd, .int .i64 m.had.rd, .int .i64 m.had.nd, .string m.text] 78)).cell? ⟨w.heap.size, 8, none⟩ = some (.string m.text) := kb.cell 8
  have hgd := guardBal
  cases hd : x.bid with
  | none =>
    rw [hd] at s9
    have s9 : (w.alloc (.cells #[.int .i64 m.kind, .int .i64 m.fr, .int .i64 m.dst, .int .i64 m.slot, .int .i64 m.bal.rd, .int .i64 m.bal.nd, .int .i64 m.had.rd, .int .i64 m.had.nd, .string m.text] 78)).cell? ⟨b, q * 15 + 9, none⟩ = some (.bool false) := s9
    clear hz hc hd q1 kb hc0 hbk hl hq
    go_enter Try.func70, Try.ntmps70
    go_upto_region 1 with fail
    generalize (w.alloc (.cells #[.int .i64 m.kind, .int .i64 m.fr, .int .i64 m.dst, .int .i64 m.slot, .int .i64 m.bal.rd, .int .i64 m.bal.nd, .int .i64 m.had.rd, .int .i64 m.had.nd, .string m.text] 78)) = W1 at *
    go_quiet (fail)
    go_wp2_with fail
    refine bodyPost_ret (v := .tuple #[]) (by simp [results, Try.results70, go_sem]) rfl ?_
    exact ⟨rfl, below_drewN hB.out _⟩
  | some d =>
    obtain ⟨z1, z2, z3, z4, z5⟩ := hz d hd
    have z1 : (a.z i s).asks = d.acc := z1
    have z2 : (a.z i s).bal = d.bal := z2
    have z3 : (a.z i s).own = d.text := z3
    have z4 : (a.z i s).n = d.ans.length := z4
    have z5 : OwnS S (w.alloc (.cells #[.int .i64 m.kind, .int .i64 m.fr, .int .i64 m.dst, .int .i64 m.slot, .int .i64 m.bal.rd, .int .i64 m.bal.nd, .int .i64 m.had.rd, .int .i64 m.had.nd, .string m.text] 78)) 118 4 (.slice (a.z i s).A (a.z i s).n (a.z i s).c) (a.z i s).n (acells d.acc d.ans) := z5
    rw [z4] at z5 s14
    rw [hd] at s9
    have s9 : (w.alloc (.cells #[.int .i64 m.kind, .int .i64 m.fr, .int .i64 m.dst, .int .i64 m.slot, .int .i64 m.bal.rd, .int .i64 m.bal.nd, .int .i64 m.had.rd, .int .i64 m.had.nd, .string m.text] 78)).cell? ⟨b, q * 15 + 9, none⟩ = some (.bool true) := s9
    rw [z1] at s10
    rw [z2] at s11 s12
    rw [z3] at s13
    have hno := Sl.cnts_none hc d hd
    have hl := hl d hd
    clear hz hc hd z1 z2 z3 z4 q1 kb hc0 hbk hq
    by_cases h1 : d.acc = true
    · rw [h1] at s10
      by_cases h2 : d.bal = m.bal
      · have hnq : ∀ W', (binOp .neq 35 (.agg #[.int .i64 d.bal.rd, .int .i64 d.bal.nd]) (.agg #[.int .i64 m.bal.rd, .int .i64 m.bal.nd])).run Try.prog W' = .ok (.bool false) W' := fun W' => by rw [run_neqBal, decide_eq_true h2]; rfl
        have hsm := hno h2 h1
        have hans0 : ∀ n, Calls Try.prog 76 #[.pointer (some ⟨b, q * 15, none⟩), .int .i64 m.fr] ((w.alloc (.cells #[.int .i64 m.kind, .int .i64 m.fr, .int .i64 m.dst, .int .i64 m.slot, .int .i64 m.bal.rd, .int .i64 m.bal.nd, .int .i64 m.had.rd, .int .i64 m.had.nd, .string m.text] 78)).drewN n) fun e w' => e = .returned (.bool true) ∧ w' = (w.alloc (.cells #[.int .i64 m.kind, .int .i64 m.fr, .int .i64 m.dst, .int .i64 m.slot, .int .i64 m.bal.rd, .int .i64 m.bal.nd, .int .i64 m.had.rd, .int .i64 m.had.nd, .string m.text] 78)).drewN n := fun n => by
          have := ranswered_any (w := (w.alloc (.cells #[.int .i64 m.kind, .int .i64 m.fr, .int .i64 m.dst, .int .i64 m.slot, .int .i64 m.bal.rd, .int .i64 m.bal.nd, .int .i64 m.had.rd, .int .i64 m.had.nd, .string m.text] 78)).drewN n) (S := S) m.fr b (q * 15) (c := (a.z i s).c) (acc := d.acc) (l := d.ans) s14 ((OwnS.keepB z5 (fun _ => id) fun b _ => rfl)) hl
          rw [hsm] at this
          exact this
        have hans := hid hans0
        clear hno z5 h1 h2 hsm hl hans0
        go_enter Try.func70, Try.ntmps70
        go_upto_region 1 with fail
        go_quiet ((go_at_call 76; exact Calls.quiet_of_same (hans.out _)))
        go_wp2_with fail
        refine bodyPost_ret (v := .tuple #[]) (by simp [results, Try.results70, go_sem]) rfl ?_
        exact ⟨rfl, below_drewN hB.out _⟩
      · have hnq : ∀ W', (binOp .neq 35 (.agg #[.int .i64 d.bal.rd, .int .i64 d.bal.nd]) (.agg #[.int .i64 m.bal.rd, .int .i64 m.bal.nd])).run Try.prog W' = .ok (.bool true) W' := fun W' => by rw [run_neqBal, decide_eq_false h2]; rfl
        clear hno z5 h1 h2 hl
        go_enter Try.func70, Try.ntmps70
        go_upto_region 1 with fail
        go_quiet (fail)
        go_wp2_with fail
        refine bodyPost_ret (v := .tuple #[]) (by simp [results, Try.results70, go_sem]) rfl ?_
        exact ⟨rfl, below_drewN hB.out _⟩
    · have h1' : d.acc = false := by simpa using h1
      rw [h1'] at s10
      clear hno z5 h1 h1' hl
      go_enter Try.func70, Try.ntmps70
      go_upto_region 1 with fail
      go_quiet (fail)
      go_wp2_with fail
      refine bodyPost_ret (v := .tuple #[]) (by simp [results, Try.results70, go_sem]) rfl ?_
      exact ⟨rfl, below_drewN hB.out _⟩
end

end Go.Proofs.Ytbgopicpdpkccaa


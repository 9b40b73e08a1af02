/- Texts of the proof, joined: GAsk, GDel, GKinds. -/
import Derived.Test.YtbgopicpdpkccaaJ04
import Derived.Laws.EntriesVeiled
namespace Go.Proofs.Ytbgopicpdpkccaa
open Go.RowKit
set_option linter.unusedVariables false
set_option linter.unusedSimpArgs false

/-- what a node tells of what it learned, from a slot on -/
def Gr.tell (G0 : Gr) (m : Ml) : Nat → Int → Gr → Gr
  | 0, _, G => G
  | f + 1, s, G => if (G0.st m.dst s).is then G0.tell m f (s + 1) (G.send ⟨5, m.dst, m.fr, s, bal0, bal0, (G0.st m.dst s).text⟩) else G
def Gr.ask (G : Gr) (m : Ml) : Gr := G.tell m 8 m.slot G
theorem Gr.st_nds {G G' : Gr} (h : G'.nds = G.nds) (n s : Int) : G'.st n s = G.st n s := by
  unfold Gr.st Gr.at_ Gr.nd
  rw [h]
section
variable {S : Nat → Prop} {w w' : World} {g : Nat} {G : Gr}
set_option maxRecDepth 100000 in
set_option maxHeartbeats 2000000 in
theorem ask_any (m : Ml) (p : Option Addr) (h : GAt S w g G) (hs : 0 ≤ m.slot ∧ m.slot ≤ 1000) : Calls Try.prog 61 #[.pointer (some ⟨g, 0, none⟩), .pointer p, .agg #[.int .i64 m.kind, .int .i64 m.fr, .int .i64 m.dst, .int .i64 m.slot, .int .i64 m.bal.rd, .int .i64 m.bal.nd, .int .i64 m.had.rd, .int .i64 m.had.nd, .string m.text]] w fun e w' => e = .returned (.tuple #[]) ∧ GGo S w g (G.ask m) w' := by
  have hB : Below w.heap.size w (w.alloc (.cells #[.int .i64 m.kind, .int .i64 m.fr, .int .i64 m.dst, .int .i64 m.slot, .int .i64 m.bal.rd, .int .i64 m.bal.nd, .int .i64 m.had.rd, .int .i64 m.had.nd, .string m.text] 78)) := (Below.refl _ _).alloc (Nat.le_refl _) _
  have kb := Blk.new w 78 #[.int .i64 m.kind, .int .i64 m.fr, .int .i64 m.dst, .int .i64 m.slot, .int .i64 m.bal.rd, .int .i64 m.bal.nd, .int .i64 m.had.rd, .int .i64 m.had.nd, .string m.text]
  have hSlt := h.lt.1
  have h1 := h.below hB
  have hz1 : (w.alloc (.cells #[.int .i64 m.kind, .int .i64 m.fr, .int .i64 m.dst, .int .i64 m.slot, .int .i64 m.bal.rd, .int .i64 m.bal.nd, .int .i64 m.had.rd, .int .i64 m.had.nd, .string m.text] 78)).heap.size = w.heap.size + 1 := by simp
  have hw1 : IntKind.i64.wrap (m.slot + 8) = m.slot + 8 := IntWalk.i64_in _ (by omega)
  have x3 : (w.alloc (.cells #[.int .i64 m.kind, .int .i64 m.fr, .int .i64 m.dst, .int .i64 m.slot, .int .i64 m.bal.rd, .int .i64 m.bal.nd, .int .i64 m.had.rd, .int .i64 m.had.nd, .string m.text] 78)).cell? ⟨w.heap.size, 3, none⟩ = some (.int .i64 m.slot) := kb.cell 3
  have hz1 := hid hz1
  clear h
  go_enter Try.func61, Try.ntmps61
  go_wp2_with fail
  go_loopw [6] (fun v wr => ∃ (k : Nat) (S' : Nat → Prop) (G' : Gr), v = .int .i64 (m.slot + (k : Int)) ∧ k ≤ 8 ∧ GAt S' wr g G' ∧ G'.nds = G.nds ∧ G.tell m (8 - k) (m.slot + (k : Int)) G' = G.tell m 8 m.slot G ∧ (∀ j, S' j → S j ∨ w.heap.size + 1 ≤ j) ∧ Upd S w wr ∧ Blk wr w.heap.size 78 #[.int .i64 m.kind, .int .i64 m.fr, .int .i64 m.dst, .int .i64 m.slot, .int .i64 m.bal.rd, .int .i64 m.bal.nd, .int .i64 m.had.rd, .int .i64 m.had.nd, .string m.text]) (fun v _ => (m.slot + 8 - intOf v).toNat)
  case atStart => exact ⟨0, S, G, by simp, by omega, h1, rfl, by simp, fun _ h => .inl h, .of_below' hB _, kb⟩
  case round =>
    clear h1 kb x3
    obtain ⟨k, S', G', rfl, hk, q, hn0, ht0, hS, hu, kb⟩ := hrel
    have hnn := hid hn0
    have htt := hid ht0
    clear hn0 ht0
    have hql := q.lt.1
    have hwr : w.heap.size + 1 ≤ wr.heap.size := kb.lt
    have hSw : ∀ j, S' j → j < w.heap.size + 1 → S j := fun j hj hl => by
      rcases hS j hj with h | h
      · exact h
      · omega
    have hSne : ∀ j, S' j → j ≠ w.heap.size := fun j hj e => by
      rcases hS j hj with h | h
      · have := hSlt j h; omega
      · omega
    have x3 : wr.cell? ⟨w.heap.size, 3, none⟩ = some (.int .i64 m.slot) := kb.cell 3
    have x2 : wr.cell? ⟨w.heap.size, 2, none⟩ = some (.int .i64 m.dst) := kb.cell 2
    by_cases hlt : k < 8
    · have t1 : decide (m.slot + (k : Int) < m.slot + 8) = true := decide_eq_true (by omega)
      have hw2 : IntKind.i64.wrap (m.slot + (k : Int) + 1) = m.slot + (k : Int) + 1 := IntWalk.i64_in _ (by omega)
      have hst0 := Gr.st_nds hnn.out m.dst (m.slot + (k : Int))
      have hsc := state_any m.dst (m.slot + (k : Int)) q
      rw [hst0] at hsc
      have hsc := hid hsc
      obtain ⟨x, hx0⟩ : ∃ x, x = G.st m.dst (m.slot + (k : Int)) := ⟨_, rfl⟩
      rw [← hx0] at hsc
      have hx := hid hx0
      clear hst0 hx0
      go_wp2_with fail
      refine hsc.out.mono ?_
      rintro e w2 ⟨bp, rfl, hb2⟩
      have hY : Below w2.heap.size w2 (w2.alloc (.cells #[.int .i64 x.rd, .int .i64 x.prom.rd, .int .i64 x.prom.nd, .int .i64 x.accd.bal.rd, .int .i64 x.accd.bal.nd, .string x.accd.text, .bool x.is, .string x.text, .pointer bp] 74)) := (Below.refl _ _).alloc (Nat.le_refl _) _
      have hb3 := hb2.trans (hY.mono hb2.size)
      have ks := Blk.new w2 74 #[.int .i64 x.rd, .int .i64 x.prom.rd, .int .i64 x.prom.nd, .int .i64 x.accd.bal.rd, .int .i64 x.accd.bal.nd, .string x.accd.text, .bool x.is, .string x.text, .pointer bp]
      have q3 := q.below hb3
      have kb3 := kb.below_all hb3
      have hu3 := hu.trans (Upd.of_below' hb3 _) fun _ _ h => h
      have hz3 := hb3.size
      clear q kb hu hb2 hY hb3 x2 x3
      go_upto_region 5 with fail
      generalize w2.alloc (.cells #[.int .i64 x.rd, .int .i64 x.prom.rd, .int .i64 x.prom.nd, .int .i64 x.accd.bal.rd, .int .i64 x.accd.bal.nd, .string x.accd.text, .bool x.is, .string x.text, .pointer bp] 74) = w3 at *
      have s6 : w3.cell? ⟨w2.heap.size, 6, none⟩ = some (.bool x.is) := ks.cell 6
      have s7 : w3.cell? ⟨w2.heap.size, 7, none⟩ = some (.string x.text) := ks.cell 7
      have e0 : w3.cell? ⟨w.heap.size, 0, none⟩ = some (.int .i64 m.kind) := kb3.cell 0
      have e1 : w3.cell? ⟨w.heap.size, 1, none⟩ = some (.int .i64 m.fr) := kb3.cell 1
      have e2 : w3.cell? ⟨w.heap.size, 2, none⟩ = some (.int .i64 m.dst) := kb3.cell 2
      have e3 : w3.cell? ⟨w.heap.size, 3, none⟩ = some (.int .i64 m.slot) := kb3.cell 3
      have e4 : w3.cell? ⟨w.heap.size, 4, none⟩ = some (.int .i64 m.bal.rd) := kb3.cell 4
      have e5 : w3.cell? ⟨w.heap.size, 5, none⟩ = some (.int .i64 m.bal.nd) := kb3.cell 5
      have e6 : w3.cell? ⟨w.heap.size, 6, none⟩ = some (.int .i64 m.had.rd) := kb3.cell 6
      have e7 : w3.cell? ⟨w.heap.size, 7, none⟩ = some (.int .i64 m.had.nd) := kb3.cell 7
      have e8 : w3.cell? ⟨w.heap.size, 8, none⟩ = some (.string m.text) := kb3.cell 8
      cases hxi : x.is with
      | false =>
        rw [hxi] at s6
        have hfin : Hid (GGo S w g (G.ask m) w3) := hid ⟨S', by
          have e : G.ask m = G' := by
            unfold Gr.ask
            rw [← htt.out, show 8 - k = (7 - k) + 1 from by omega]
            unfold Gr.tell
            rw [← hx.out, hxi]; rfl
          rw [e]; exact q3, fun j hj => by
            rcases hS j hj with h | h
            · exact .inl h
            · exact .inr (by omega), hu3⟩
        clear q3 kb3 hu3 hxi
        go_wp2_with fail
        refine bodyPost_ret (v := .tuple #[]) (by simp [results, Try.results61, go_sem]) rfl ?_
        exact ⟨rfl, hfin.out⟩
      | true =>
        rw [hxi] at s6
        have hstep : Hid (G.tell m (8 - (k + 1)) (m.slot + ((k + 1 : Nat) : Int)) (G'.send ⟨5, m.dst, m.fr, m.slot + (k : Int), bal0, bal0, x.text⟩) = G.tell m 8 m.slot G) := hid (by
          rw [← htt.out, show 8 - k = (8 - (k + 1)) + 1 from by omega]
          conv => rhs; unfold Gr.tell
          rw [← hx.out, hxi, if_pos rfl, show m.slot + ((k + 1 : Nat) : Int) = m.slot + (k : Int) + 1 from by omega])
        clear hxi
        go_wp2_with fail
        refine (send_any ⟨5, m.dst, m.fr, m.slot + (k : Int), bal0, bal0, x.text⟩ q3).mono ?_
        rintro e w4 ⟨rfl, S4, h4, hS4, hu4⟩
        have kb4 := kb3.upd hu4 fun h => hSne _ h rfl
        have hu5 := hu3.trans hu4 fun j hj h => hSw j h (by omega)
        clear q3 kb3 hu3 hu4 s6 s7 e0 e1 e2 e3 e4 e5 e6 e7 e8
        go_wp2_with fail
        go_roundw
        case rel => exact ⟨k + 1, S4, _, by congr 1; omega, hlt, h4, by rw [Gr.send_nds]; exact hnn.out, hstep.out, fun j hj => by
          rcases hS4 j hj with h | h
          · exact hS j h
          · exact .inr (by omega), hu5, kb4⟩
        case measure => simp [intOf]; omega
    · obtain rfl : k = 8 := by omega
      have t1 : decide (m.slot + ((8 : Nat) : Int) < m.slot + 8) = false := decide_eq_false (by omega)
      have hfin : Hid (GGo S w g (G.ask m) wr) := hid ⟨S', by
        have e : G.ask m = G' := by
          unfold Gr.ask
          rw [← htt.out]; rfl
        rw [e]; exact q, fun j hj => by
          rcases hS j hj with h | h
          · exact .inl h
          · exact .inr (by omega), hu⟩
      clear q kb hu
      go_wp2_with fail
      go_end0
      exact ⟨rfl, hfin.out⟩
end

end Go.Proofs.Ytbgopicpdpkccaa

namespace Go.Proofs.Ytbgopicpdpkccaa
open Go.RowKit
set_option linter.unusedVariables false
set_option linter.unusedSimpArgs false

def writeAt (cs : Array Value) : Nat → List Value → Array Value
  | _, [] => cs
  | o, v :: r => writeAt (cs.setIfInBounds o v) (o + 1) r
theorem writeAt_size (vs : List Value) : ∀ (o : Nat) (cs : Array Value), (writeAt cs o vs).size = cs.size := by
  induction vs with
  | nil => intro o cs; rfl
  | cons v r ih => intro o cs; rw [writeAt, ih]; simp
theorem writeAt_get (vs : List Value) : ∀ (o : Nat) (cs : Array Value) (j : Nat), o + vs.length ≤ cs.size → (writeAt cs o vs)[j]? = if j < o then cs[j]? else if j < o + vs.length then vs[j - o]? else cs[j]? := by
  induction vs with
  | nil =>
    intro o cs j h
    simp only [writeAt, List.length_nil, Nat.add_zero]
    split
    · rfl
    · rfl
  | cons v r ih =>
    intro o cs j h
    simp only [List.length_cons] at h ⊢
    rw [writeAt, ih _ _ _ (by simp; omega)]
    by_cases h1 : j < o
    · rw [if_pos (by omega), if_pos h1]; simp [Array.getElem?_setIfInBounds]; omega
    · rw [if_neg h1]
      by_cases h2 : j = o
      · subst h2
        rw [if_pos (by omega), if_pos (by omega)]
        simp [Array.getElem?_setIfInBounds]; omega
      · rw [if_neg (by omega)]
        by_cases h3 : j < o + 1 + r.length
        · rw [if_pos h3, if_pos (by omega), show j - o = (j - (o + 1)) + 1 by omega]; simp
        · rw [if_neg h3, if_neg (by omega)]; simp [Array.getElem?_setIfInBounds]; omega
theorem Blk.setCells {g : Nat} {t : TypeId} (vs : List Value) : ∀ {w : World} {cs : Array Value} (o : Nat), Blk w g t cs → Blk (w.setCells g o vs) g t (writeAt cs o vs) := by
  induction vs with
  | nil => intro w cs o h; exact h
  | cons v r ih => intro w cs o h; exact ih (o + 1) (h.set_ o v)
theorem Upd.setCells {M : Nat → Prop} {w : World} {g : Nat} (vs : List Value) : ∀ {w' : World} (o : Nat), Upd M w w' → (g < w.heap.size → M g) → Upd M w (w'.setCells g o vs) := by
  induction vs with
  | nil => intro w' o h _; exact h
  | cons v r ih => intro w' o h hg; exact ih (o + 1) (h.setCell (p := ⟨g, o, none⟩) hg v) hg
def zmail : List Value := [.int .i64 0, .int .i64 0, .int .i64 0, .int .i64 0, .int .i64 0, .int .i64 0, .int .i64 0, .int .i64 0, .string ⟨#[]⟩]

theorem run_clear_mail (w : World) (g m k : Nat) (cs : Array Value) (ty : TypeId) (hk : Blk w g 78 cs) (hm : m * 9 + 9 ≤ cs.size) :
    (Builtin.clear_ #[58] ty #[.slice (some ⟨g, m * 9, none⟩) 1 k]).run Try.prog w = .ok (.tuple #[]) (w.setCells g (m * 9) zmail) := by
  have hz : (zeroValue 78).run Try.prog w = .ok (.agg #[.int .i64 0, .int .i64 0, .int .i64 0, .int .i64 0, .int .i64 0, .int .i64 0, .int .i64 0, .int .i64 0, .string ⟨#[]⟩]) w := by kernel_rfl
  have hzc : (Builtin.zeroCells (Value.agg #[.int .i64 0, .int .i64 0, .int .i64 0, .int .i64 0, .int .i64 0, .int .i64 0, .int .i64 0, .int .i64 0, .string ⟨#[]⟩]).cells 1).toList = zmail := by kernel_rfl
  have hst := run_storeCells_cells (P := Try.prog) g (m * 9) zmail 0 w (fun j hj => by
    have h7 : j < 9 := hj
    rw [hk.cell]; simp; omega) (fun j hj => hk.frozen _) (by
    intro v hv
    simp only [zmail, List.mem_cons, List.not_mem_nil, or_false] at hv
    rcases hv with h | h | h | h | h | h | h | h | h <;> subst h <;> rfl)
  simp only [Nat.add_zero] at hst
  simp only [Builtin.clear_, Sem.run_bind, run_underlying Try.underlying58, Result.andThen_ok, hz, hzc, hst, List.getElem?_toArray, List.getElem?_cons_zero]
  rfl

set_option maxRecDepth 100000 in
set_option maxHeartbeats 1000000 in
theorem delete_any (g c i : Nat) (rs : List Ml) (w : World) (h : w.ownsRow 0 78 9 (.slice (some ⟨g, 0, none⟩) rs.length c) rs.length (mcells rs)) (hi : i < rs.length) (hl : rs.length ≤ 1000000000) :
    Calls Try.prog 37 #[.slice (some ⟨g, 0, none⟩) rs.length c, .int .i64 i, .int .i64 ((i : Int) + 1)] w fun e w' =>
      e = .returned (.slice (some ⟨g, 0, none⟩) (rs.length - 1) c) ∧ w'.ownsRow 0 78 9 (.slice (some ⟨g, 0, none⟩) (rs.length - 1) c) (rs.length - 1) (mcells (rs.take i ++ rs.drop (i + 1))) ∧ Upd (fun k => k = g) w w' := by
  obtain ⟨ip, hip, hp0, hp1, hp2⟩ := info_parts info_mail
  obtain ⟨cur, hcap, hcm, hk, hcs, htk⟩ : ∃ cur, rs.length ≤ c ∧ c ≤ maxLen ∧ Blk w g 78 cur ∧ cur.size = c * 9 ∧ cur.toList.take (rs.length * 9) = mcells rs := by
    rcases h.2 with ⟨h0, _⟩ | ⟨g', cap', cur, e, _, hb, h1, h2, h3, h4⟩
    · cases h0
    · simp only [Value.slice.injEq, Option.some.injEq, Addr.mk.injEq, true_and, and_true] at e
      obtain ⟨rfl, rfl⟩ := e
      exact ⟨cur, h1, h2, hb, h3, h4⟩
  have hcell : ∀ j u, (mcells rs)[j]? = some u → cur[j]? = some u := fun j u hu => by
    have hj : j < (mcells rs).length := (List.getElem?_eq_some_iff.1 hu).1
    rw [mcells_len] at hj
    rw [← htk, List.getElem?_take, if_pos hj] at hu
    simpa using hu
  obtain ⟨m, hm⟩ : ∃ m, rs.length = m + 1 := ⟨rs.length - 1, by omega⟩
  have hpl := mcells_len rs
  have hdl : (mcells (rs.drop (i + 1))).length = (m - i) * 9 := by rw [mcells_len, List.length_drop, hm]; congr 1; omega
  rw [hm] at hi hl hcap hpl ⊢
  -- the cells that move to the left
  obtain ⟨B, hB, hsrc⟩ : ∃ B : Option Addr, B = (if c = i + 1 then some ⟨g, 0, none⟩ else some ⟨g, (i + 1) * 9, none⟩) ∧ ∃ b, B = some b ∧ ∀ j u, (mcells (rs.drop (i + 1)))[j]? = some u → w.drew.cell? (b.add j) = some u := by
    by_cases hcc : c = i + 1
    · refine ⟨_, rfl, ⟨g, 0, none⟩, by rw [if_pos hcc], fun j u hu => ?_⟩
      have : j < (m - i) * 9 := by rw [← hdl]; exact (List.getElem?_eq_some_iff.1 hu).1
      omega
    · refine ⟨_, rfl, ⟨g, (i + 1) * 9, none⟩, by rw [if_neg hcc], fun j u hu => ?_⟩
      rw [Addr.add_lit]
      refine (hk.cell _).trans (hcell _ _ ?_)
      have e : mcells rs = mcells (rs.take (i + 1)) ++ mcells (rs.drop (i + 1)) := by rw [← mcells_app, List.take_append_drop]
      rw [e, List.getElem?_append_right (by rw [mcells_len, List.length_take, hm]; omega), mcells_len, List.length_take, hm, Nat.min_eq_left (by omega), Nat.add_sub_cancel_left]
      exact hu
  obtain ⟨b, hBb, hsrc⟩ := hsrc
  obtain ⟨W1, hW1⟩ : ∃ W1, W1 = w.drew.setCells g (i * 9) (mcells (rs.drop (i + 1))) := ⟨_, rfl⟩
  have hk1 : Blk W1 g 78 (writeAt cur (i * 9) (mcells (rs.drop (i + 1)))) := by rw [hW1]; exact Blk.setCells _ _ hk.drew
  have hu1 : Upd (fun k => k = g) w W1 := by rw [hW1]; exact Upd.setCells _ _ (Upd.refl _ w).drew fun _ => rfl
  have hrunA : ∀ ty, (Builtin.append_ #[58, 58] ty #[.slice (some ⟨g, 0, none⟩) i c, .slice (some b) (m - i) (c - (i + 1))]).run Try.prog w.drew = .ok (.slice (some ⟨g, 0, none⟩) m c) W1 := fun ty => by
    have hr := run_append_room_cells (P := Try.prog) w.drew 58 ty 78 ip Try.underlying58 hip g 0 i c b (m - i) (c - (i + 1)) (mcells (rs.drop (i + 1))) (by rw [hp1]; exact hdl) hsrc (mcells_one _) (by omega)
      (fun j hj => by rw [hdl] at hj; rw [hp1, hk.drew.cell]; simp; omega) (fun j hj => hk.drew.frozen _)
    rw [hp1, Nat.zero_add, show i + (m - i) = m by omega] at hr
    rw [hW1]; exact hr
  have hrunC : ∀ ty, (Builtin.clear_ #[58] ty #[.slice (some ⟨g, m * 9, none⟩) 1 (c - m)]).run Try.prog W1 = .ok (.tuple #[]) (W1.setCells g (m * 9) zmail) := fun ty => run_clear_mail W1 g m _ _ ty hk1 (by rw [writeAt_size, hcs]; omega)
  have hfin : (W1.setCells g (m * 9) zmail).ownsRow 0 78 9 (.slice (some ⟨g, 0, none⟩) m c) m (mcells (rs.take i ++ rs.drop (i + 1))) := by
    have hz7 : zmail.length = 9 := rfl
    refine ⟨by rw [mcells_len]; simp [hm]; omega, .inr ⟨g, c, _, rfl, Nat.zero_le _, Blk.setCells zmail (m * 9) hk1, by omega, hcm, by rw [writeAt_size, writeAt_size, hcs], ?_⟩⟩
    apply List.ext_getElem?
    intro j
    have hs1 : i * 9 + (mcells (rs.drop (i + 1))).length ≤ cur.size := by rw [hdl, hcs]; omega
    have htl : (mcells (rs.take i)).length = i * 9 := by rw [mcells_len, List.length_take, hm, Nat.min_eq_left (by omega)]
    rw [List.getElem?_take, Array.getElem?_toList, writeAt_get _ _ _ _ (by rw [writeAt_size, hz7, hcs]; omega), writeAt_get _ _ _ _ hs1, mcells_app, hdl]
    by_cases hj : j < m * 9
    · rw [if_pos hj, if_pos hj]
      by_cases hj2 : j < i * 9
      · rw [if_pos hj2, List.getElem?_append_left (by rw [htl]; exact hj2)]
        have e : mcells rs = mcells (rs.take i) ++ mcells (rs.drop i) := by rw [← mcells_app, List.take_append_drop]
        have hlt : j < (mcells (rs.take i)).length := by rw [htl]; exact hj2
        rw [List.getElem?_eq_getElem hlt]
        exact hcell j _ (by rw [e, List.getElem?_append_left hlt, List.getElem?_eq_getElem hlt])
      · rw [if_neg hj2, if_pos (by omega), List.getElem?_append_right (by omega), htl]
    · rw [if_neg hj, List.getElem?_eq_none]
      rw [List.length_append, htl, hdl]; omega
  have hufin : Upd (fun k => k = g) w (W1.setCells g (m * 9) zmail) := Upd.setCells _ _ hu1 fun _ => rfl
  have hfin := hid hfin
  have hufin := hid hufin
  simp only [maxLen] at hcm
  have i1 : (i : Int) ≤ (m : Int) := by omega
  have i2 : (m : Int) + 1 ≤ (c : Int) := by omega
  have j1 : i ≤ c := by omega
  have j2 : (i : Int) + 1 ≤ (c : Int) := by omega
  have j3 : (i : Int) ≤ (c : Int) := by omega
  have j4 : (i : Int) ≤ (i : Int) + 1 := by omega
  have j5 : (0 : Int) ≤ (i : Int) + 1 := by omega
  have j6 : (i : Int) + 1 ≤ (m : Int) + 1 := by omega
  have j7 : (m : Int) ≤ (m : Int) + 1 := by omega
  have j8 : (m : Int) ≤ (c : Int) := by omega
  have hd1 : ((i : Int) == (i : Int) + 1) = false := by simp; omega
  have hcm2 : ¬ c = m := by omega
  have hci : ¬ c = i := by omega
  clear h hk hk1 hcs htk hcell hpl hdl hsrc hW1 hu1 hp0 hm hip
  subst hBb
  go_enter Try.func37, Try.ntmps37
  go_wp2_with fail
  by_cases hcc : c = i + 1
  · rw [if_pos hcc] at hB
    simp only [Option.some.injEq] at hB
    subst hB
    go_still_tail 6, (by kernel_rfl)
    change wpList _ _ _ _ _ w.drew
    subst hcc
    rw [Nat.sub_self] at hrunA
    refine wpList_append_of rfl (.tmp 22) (.tmp 25) 58 rfl _ _ rfl rfl _ _ (hrunA _) ?_
    go_wp2_with fail
    go_ret
    exact ⟨rfl, hfin.out, hufin.out⟩
  · rw [if_neg hcc] at hB
    simp only [Option.some.injEq] at hB
    subst hB
    go_still_tail 6, (by kernel_rfl)
    change wpList _ _ _ _ _ w.drew
    refine wpList_append_of rfl (.tmp 22) (.tmp 25) 58 rfl _ _ rfl rfl _ _ (hrunA _) ?_
    go_wp2_with fail
    go_ret
    exact ⟨rfl, hfin.out, hufin.out⟩

end Go.Proofs.Ytbgopicpdpkccaa

namespace Go.Proofs.Ytbgopicpdpkccaa
open Go.RowKit
set_option linter.unusedVariables false
set_option linter.unusedSimpArgs false

set_option maxRecDepth 100000 in
set_option maxHeartbeats 1000000 in
theorem kinds_any (g : Nat) (w : World) : Calls Try.prog 40 #[.pointer (some ⟨g, 0, none⟩)] w fun e w' => e = .returned (.agg #[.nilFunc, .func (Fn.func 56) #[.pointer (some ⟨g, 0, none⟩)] #[], .func (Fn.func 57) #[.pointer (some ⟨g, 0, none⟩)] #[], .func (Fn.func 58) #[.pointer (some ⟨g, 0, none⟩)] #[], .func (Fn.func 59) #[.pointer (some ⟨g, 0, none⟩)] #[], .func (Fn.func 60) #[.pointer (some ⟨g, 0, none⟩)] #[], .func (Fn.func 61) #[.pointer (some ⟨g, 0, none⟩)] #[]]) ∧ Below w.heap.size w w' := by
  have hmf : ∀ (fn : Fn) (first cap : Array Value) (w : World), (Instr.makeFunc fn first cap).run Try.prog w = .ok (.func fn first cap) w := fun _ _ _ _ => rfl
  have hB : Below w.heap.size w (w.alloc (.cells #[.nilFunc, .nilFunc, .nilFunc, .nilFunc, .nilFunc, .nilFunc, .nilFunc] 86)) := (Below.refl _ _).alloc (Nat.le_refl _) _
  have kr := Blk.new w 86 #[.nilFunc, .nilFunc, .nilFunc, .nilFunc, .nilFunc, .nilFunc, .nilFunc]
  have qz := fun j => kr.frozen j
  have z0 : (w.alloc (.cells #[.nilFunc, .nilFunc, .nilFunc, .nilFunc, .nilFunc, .nilFunc, .nilFunc] 86)).cell? ⟨w.heap.size, 0, none⟩ = some .nilFunc := kr.cell 0
  have z1 : (w.alloc (.cells #[.nilFunc, .nilFunc, .nilFunc, .nilFunc, .nilFunc, .nilFunc, .nilFunc] 86)).cell? ⟨w.heap.size, 1, none⟩ = some .nilFunc := kr.cell 1
  have z2 : (w.alloc (.cells #[.nilFunc, .nilFunc, .nilFunc, .nilFunc, .nilFunc, .nilFunc, .nilFunc] 86)).cell? ⟨w.heap.size, 2, none⟩ = some .nilFunc := kr.cell 2
  have z3 : (w.alloc (.cells #[.nilFunc, .nilFunc, .nilFunc, .nilFunc, .nilFunc, .nilFunc, .nilFunc] 86)).cell? ⟨w.heap.size, 3, none⟩ = some .nilFunc := kr.cell 3
  have z4 : (w.alloc (.cells #[.nilFunc, .nilFunc, .nilFunc, .nilFunc, .nilFunc, .nilFunc, .nilFunc] 86)).cell? ⟨w.heap.size, 4, none⟩ = some .nilFunc := kr.cell 4
  have z5 : (w.alloc (.cells #[.nilFunc, .nilFunc, .nilFunc, .nilFunc, .nilFunc, .nilFunc, .nilFunc] 86)).cell? ⟨w.heap.size, 5, none⟩ = some .nilFunc := kr.cell 5
  have z6 : (w.alloc (.cells #[.nilFunc, .nilFunc, .nilFunc, .nilFunc, .nilFunc, .nilFunc, .nilFunc] 86)).cell? ⟨w.heap.size, 6, none⟩ = some .nilFunc := kr.cell 6
  have hrl := kr.lt
  clear kr
  have hB := hid hB
  go_enter Try.func40, Try.ntmps40
  go_wp2_with fail
  refine bodyPost_ret (v := .agg #[.nilFunc, .func (Fn.func 56) #[.pointer (some ⟨g, 0, none⟩)] #[], .func (Fn.func 57) #[.pointer (some ⟨g, 0, none⟩)] #[], .func (Fn.func 58) #[.pointer (some ⟨g, 0, none⟩)] #[], .func (Fn.func 59) #[.pointer (some ⟨g, 0, none⟩)] #[], .func (Fn.func 60) #[.pointer (some ⟨g, 0, none⟩)] #[], .func (Fn.func 61) #[.pointer (some ⟨g, 0, none⟩)] #[]]) (by simp [results, Try.results40, go_sem, z0, z1, z2, z3, z4, z5, z6]) rfl ⟨rfl, ?_⟩
  exact (Below.refl _ _).alloc (Nat.le_refl _) _

end Go.Proofs.Ytbgopicpdpkccaa


/- Texts of the proof, joined: IPush, Dr, IMov, IGet, IRoom. -/
import Derived.Test.YtdmogoaaecdbaaaGreatDoorJ08
import Derived.Test.YtdmogoaaecdbaaaGreatDoorJ05
import Derived.Test.YtdmogoaaecdbaaaGreatDoorJ01
import Derived.Deep.RegionHeld3
import Derived.BigRegion
import Derived.StillTailTactics
namespace Go.Proofs.YtdmogoaaecdbaaaGreatDoor
open Go.RowKit
set_option linter.unusedVariables false
set_option linter.unusedSimpArgs false

theorem info_valI : (Tryz.prog.info? 55).map (fun i => (i.zero, i.size, i.bytes)) = some (some (.agg #[.int .i64 0, .int .i64 0, .string ⟨#[]⟩]), 3, 32) := by kernel_rfl
section
variable {S : Nat → Prop} {w w' : World} {g : Nat} {F : Fr} {m : Mc}
theorem vcells_rev (v : Vl) (r : List Vl) : vcells (v :: r).reverse = vcells r.reverse ++ [.int .i64 v.k, .int .i64 v.n, .string v.s] := by
  unfold vcells
  rw [List.reverse_cons, List.flatMap_append]
  rfl
theorem vcells_len (l : List Vl) : (vcells l).length = l.length * 3 := by
  unfold vcells
  induction l with
  | nil => rfl
  | cons x l ih => rw [List.flatMap_cons, List.length_append, ih, List.length_cons]; show 3 + _ = _; omega
theorem own_same {A : Option Addr} {n c n2 c2 : Nat} : (Value.slice A n c).ownBlock = (Value.slice A n2 c2).ownBlock := by cases A <;> rfl
/-- only the stack's header and numbers are written anew -/
theorem MIn.pops {a : Ad} {v : Vl} {r : List Vl} {W : World} (h : MIn S w g F { m with st := v :: r } a) (hu : Upd (fun q => q = g) w W) (hb : Blk W g 97 (mCells F { m with st := r } a)) : MIn S W g F { m with st := r } a := by
  have hp := own_pop (k := r.length) h.st (by simp) (by simp)
  have hx : (vcells (v :: r).reverse).take (r.length * 3) = vcells r.reverse := by
    rw [vcells_rev, List.take_append_of_le_length (by rw [vcells_len]; simp), List.take_of_length_le (by rw [vcells_len]; simp)]
  rw [hx] at hp
  have hp2 : OwnS S W 55 3 (.slice a.A1 r.length a.c1) r.length (vcells r.reverse) := hp.keepO fun q hq => by
    obtain ⟨cur, hc⟩ := own_blk hp hq
    exact hu.block q (Array.getElem?_eq_some_iff.1 hc).1 fun e => absurd (blk_ty (e ▸ hc) h.blk) (by decide)
  exact h.onSt hu (fun q _ e => .inl e) (fun q hq => hq) (fun q hq => .inl hq) (fun q hq => Nat.lt_of_lt_of_le (h.lt q hq) hu.size) (st' := r) (at' := m.at_) (fu' := m.fuel) (A' := a.A1) (c' := a.c1) hb hp2 ⟨h.ne.1, fun q hq => h.ne.2 q (own_same.trans hq)⟩
set_option maxRecDepth 100000 in
set_option maxHeartbeats 2000000 in
theorem pop_any (v : Vl) (r : List Vl) (h : MAt S w g F m) (hs : m.st = v :: r) (hn : r.length ≤ 1000) : Calls Tryz.prog 103 #[.pointer (some ⟨g, 0, none⟩)] w fun e w' => e = .returned (.agg #[.int .i64 v.k, .int .i64 v.n, .string v.s]) ∧ MGo S w g F { m with st := r } w' := by
  obtain ⟨a, h, ha⟩ := h
  have hm : m = { m with st := v :: r } := by rw [← hs]
  rw [hm] at h
  have hrow : Rd S w 3 a.A1 (v :: r).reverse.length (vcells (v :: r).reverse) := by rw [List.length_reverse]; exact h.st.rd
  obtain ⟨b, o, hA, _, y0, y1, y2⟩ := hrow.val_at (k := r.length) (by simp)
  have hv : (v :: r).reverse[r.length]'(by simp) = v := by simp
  rw [hv] at y0 y1 y2
  have hcap : (v :: r).length ≤ a.c1 := by obtain ⟨_, _, e, h1, _⟩ := own_form h.st.1; injection e with _ _ e; rw [e]; exact h1
  have hB0 : Below w.heap.size w (w.alloc (.cells #[.int .i64 0, .int .i64 0, .string ⟨#[]⟩] 55)) := (Below.refl _ _).alloc (Nat.le_refl _) _
  have kb := hid (Blk.new w 55 #[.int .i64 0, .int .i64 0, .string ⟨#[]⟩])
  obtain ⟨n1, hn1⟩ : ∃ n1, Hid (n1 = (v :: r).length) := ⟨_, hid rfl⟩
  have hn1' : n1 = r.length + 1 := hn1.out
  obtain ⟨A1, c1, A2, c2, A3, c3, A4, c4, rm, wm, rs⟩ := a
  obtain rfl : A1 = _ := hA
  have X5 : ∀ W, Below w.heap.size w W → W.cell? ⟨g, 5, none⟩ = some (.slice (some ⟨b, o, none⟩) n1 c1) := fun W hW => by rw [hn1.out]; exact (h.blk.below_all hW).cell 5
  have i1 : IntKind.i64.wrap ((n1 : Int) - 1) = (r.length : Int) := by rw [IntKind.wrap_i64]; omega
  have i2 : (r.length : Int) < (n1 : Int) := by omega
  have i3 : r.length < n1 := by omega
  have i4 : (r.length : Int) ≤ (c1 : Int) := by simp at hcap; omega
  have i5 : r.length ≤ c1 := by simp at hcap; omega
  have H := hid h
  have hB := hid hB0
  have hY := hid (fun W (hW : Below w.heap.size w W) => (show W.cell? ⟨b, o + r.length * 3, none⟩ = some (.int .i64 v.k) ∧ W.cell? ⟨b, o + r.length * 3 + 1, none⟩ = some (.int .i64 v.n) ∧ W.cell? ⟨b, o + r.length * 3 + 2, none⟩ = some (.string v.s) from by
    obtain ⟨b', o', e, _, z0, z1, z2⟩ := (hrow.below_all hW).val_at (k := r.length) (by simp)
    injection e with e
    injection e with e1 e2
    subst e1 e2
    rw [hv] at z0 z1 z2
    exact ⟨z0, z1, z2⟩))
  have x5 := X5 _ hB0
  obtain ⟨y0, y1, y2⟩ := hY.out _ hB0
  have hA5 := hid X5
  clear hrow hv hcap hB0 X5 hn hs hn1' h hm
  go_enter Tryz.func103, Tryz.ntmps103
  go_upto_region 1 with fail
  have hs1 : Hid ((w.alloc (.cells #[.int .i64 0, .int .i64 0, .string ⟨#[]⟩] 55)).heap.size = w.heap.size + 1) := hid (by simp)
  generalize w.alloc (.cells #[.int .i64 0, .int .i64 0, .string ⟨#[]⟩] 55) = w1 at *
  go_upto_region 3 with fail
  have hB2 : Hid (Below w.heap.size w (w1.alloc (.cells #[.int .i64 v.k, .int .i64 v.n, .string v.s] 55))) := hid (hB.out.alloc hB.out.size _)
  have k2 := hid (kb.out.alloc (.cells #[.int .i64 v.k, .int .i64 v.n, .string v.s] 55))
  have kv := hid (Blk.new w1 55 #[.int .i64 v.k, .int .i64 v.n, .string v.s])
  have hs2 : Hid ((w1.alloc (.cells #[.int .i64 v.k, .int .i64 v.n, .string v.s] 55)).heap.size = w.heap.size + 2) := hid (by simp; have := hs1.out; omega)
  clear x5 y0 y1 y2
  have x5 := hA5.out _ hB2.out
  generalize w1.alloc (.cells #[.int .i64 v.k, .int .i64 v.n, .string v.s] 55) = w2 at *
  have hg1 : ¬ (g = w.heap.size) := by have := H.out.lt g H.out.inS.1; omega
  have hg2 : ¬ (g = w1.heap.size) := by have := H.out.lt g H.out.inS.1; have := hB.out.size; omega
  have hw1 : Hid (w1.heap.size = w.heap.size + 1) := hs1
  generalize w1.heap.size = m1 at *
  have hne : ¬ (w.heap.size = m1) := by have := hw1.out; omega
  have fg := H.out.blk.below_all hB2.out |>.frozen 5
  have U1 : Hid (Upd (fun q => q = g) w (w2.setCell ⟨g, 5, none⟩ (.slice (some ⟨b, o, none⟩) r.length c1))) := hid ((Upd.of_below' hB2.out (fun q => q = g)).setCell (p := ⟨g, 5, none⟩) (fun _ => rfl) _)
  have g3 : Hid (Blk (w2.setCell ⟨g, 5, none⟩ (.slice (some ⟨b, o, none⟩) r.length c1)) g 97 (mCells F { m with st := r } ⟨some ⟨b, o, none⟩, c1, A2, c2, A3, c3, A4, c4, rm, wm, rs⟩)) := hid ((H.out.blk.below_all hB2.out).set_ 5 _)
  have k3 := hid (k2.out.far (p := ⟨g, 5, none⟩) (fun e => hg1 e.symm) (.slice (some ⟨b, o, none⟩) r.length c1))
  have v3 := hid (kv.out.far (p := ⟨g, 5, none⟩) (fun e => hg2 e.symm) (.slice (some ⟨b, o, none⟩) r.length c1))
  go_upto_region 4 with fail
  generalize w2.setCell ⟨g, 5, none⟩ (.slice (some ⟨b, o, none⟩) r.length c1) = w3 at *
  have z0 : w3.cell? ⟨m1, 0, none⟩ = some (.int .i64 v.k) := v3.out.cell 0
  have z1 : w3.cell? ⟨m1, 1, none⟩ = some (.int .i64 v.n) := v3.out.cell 1
  have z2 : w3.cell? ⟨m1, 2, none⟩ = some (.string v.s) := v3.out.cell 2
  have u0 : w3.cell? ⟨w.heap.size, 0, none⟩ = some (.int .i64 0) := k3.out.cell 0
  have u1 : w3.cell? ⟨w.heap.size, 1, none⟩ = some (.int .i64 0) := k3.out.cell 1
  have u2 : w3.cell? ⟨w.heap.size, 2, none⟩ = some (.string ⟨#[]⟩) := k3.out.cell 2
  have fz := fun q => k3.out.frozen q
  go_wp2_with fail
  refine bodyPost_ret (v := .agg #[.int .i64 v.k, .int .i64 v.n, .string v.s]) ?_ rfl ⟨rfl, ?_⟩
  · exact results_cell_row (P := Tryz.prog) rfl _ _ w.heap.size 55 _ (0, 0) _ rfl (show Blk _ _ _ #[.int .i64 v.k, .int .i64 v.n, .string v.s] from by simpa using ((k3.out.set_ 0 _).set_ 1 _).set_ 2 _) Tryz.underlying55 rfl (by kernel_rfl)
  · have hlt := H.out.lt g H.out.inS.1
    have U4 := ((U1.out.setCell (p := ⟨w.heap.size, 0, none⟩) (fun h => absurd h (by simp)) (.int .i64 v.k)).setCell (p := ⟨w.heap.size, 1, none⟩) (fun h => absurd h (by simp)) (.int .i64 v.n)).setCell (p := ⟨w.heap.size, 2, none⟩) (fun h => absurd h (by simp)) (.string v.s)
    have g4 := ((g3.out.far (p := ⟨w.heap.size, 0, none⟩) hg1 (.int .i64 v.k)).far (p := ⟨w.heap.size, 1, none⟩) hg1 (.int .i64 v.n)).far (p := ⟨w.heap.size, 2, none⟩) hg1 (.string v.s)
    have M4 := H.out.pops U4 g4
    refine ⟨S, ⟨_, M4, ha⟩, fun q hq => .inl hq, fun q hq => hq, ?_⟩
    exact ⟨U4.os, U4.tape, U4.output, U4.size, fun k hk hS => U4.block k hk fun e => hS (e ▸ H.out.inS.1)⟩
theorem own_keepI {base : Nat} {e : TypeId} {size n : Nat} {v : Value} {xs : List Value} (h : w.ownsRow base e size v n xs) (hk : ∀ q, v.ownBlock = some q → w'.heap[q]? = w.heap[q]?) : w'.ownsRow base e size v n xs := by
  obtain ⟨h1, h2⟩ := h
  refine ⟨h1, ?_⟩
  rcases h2 with h0 | ⟨q, cap, cur, hv, hb, hh, hr⟩
  · exact .inl h0
  · subst hv
    exact .inr ⟨q, cap, cur, rfl, hb, (hk q rfl).trans hh, hr⟩
theorem MIn.pushed {a : Ad} {v : Vl} {A3 : Option Addr} {c3 : Nat} {w1 w3 : World} (h : MIn S w g F m a) (hb : Below w.heap.size w w1) (hu : Upd (fun q => (Value.slice a.A1 m.st.length a.c1).ownBlock = some q) w1 w3) (ho : w3.ownsRow 0 55 3 (Value.slice A3 (m.st.length + 1) c3) (m.st.length + 1) (vcells m.st.reverse ++ [.int .i64 v.k, .int .i64 v.n, .string v.s])) (hat : (Value.slice A3 (m.st.length + 1) c3).ownBlock = (Value.slice a.A1 m.st.length a.c1).ownBlock ∨ ∃ k, w1.heap.size ≤ k ∧ (Value.slice A3 (m.st.length + 1) c3).ownBlock = some k) {W5 : World} (h5 : Upd (fun q => w.heap.size ≤ q ∧ q < w1.heap.size) (w3.setCell ⟨g, 5, none⟩ (.slice A3 (m.st.length + 1) c3)) W5) :
    ∃ S', MIn S' W5 g F { m with st := v :: m.st, at_ := m.at_, fuel := m.fuel } { a with A1 := A3, c1 := c3 } ∧ (∀ q, S' q → S q ∨ w1.heap.size ≤ q) ∧ (∀ q, S q → S' q) ∧ Upd S w W5 := by
  have hs1 := hb.size
  have hgl := h.lt g h.inS.1
  have h1 := h.keep hb
  have hgo : ¬ (Value.slice a.A1 m.st.length a.c1).ownBlock = some g := fun e => by
    obtain ⟨cur, hc⟩ := own_blk h.st e
    exact absurd (blk_ty hc h.blk) (by decide)
  have g3 : Blk w3 g 97 (mCells F m a) := h1.blk.upd hu hgo
  have hng : ∀ q, (Value.slice A3 (m.st.length + 1) c3).ownBlock = some q → q ≠ g := fun q e e2 => by
    rcases hat with h3 | ⟨k, hk, h3⟩
    · exact hgo (by rw [← h3, e, e2])
    · rw [h3] at e; injection e with e; omega
  have hlt : ∀ q, (Value.slice A3 (m.st.length + 1) c3).ownBlock = some q → q < w3.heap.size := fun q e => (ho.lt q e).2
  have hl2 : (Value.slice A3 (v :: m.st).length c3) = (Value.slice A3 (m.st.length + 1) c3) := by simp
  have hs5 : w3.heap.size ≤ W5.heap.size := by have := h5.size; simpa using this
  have U : Upd (fun q => q = g ∨ (Value.slice a.A1 m.st.length a.c1).ownBlock = some q) w W5 := by
    refine Upd.trans ?_ h5 fun b hb e => absurd e.1 (by omega)
    refine Upd.setCell (p := ⟨g, 5, none⟩) ?_ (fun _ => .inl rfl) _
    exact (Upd.of_below' hb (fun q => q = g ∨ (Value.slice a.A1 m.st.length a.c1).ownBlock = some q)).trans hu fun b _ e => .inr e
  have hs3 := hu.size
  refine ⟨fun q => S q ∨ (Value.slice A3 (m.st.length + 1) c3).ownBlock = some q, h.onSt U (fun q _ e => e) (fun q hq => .inl hq) (fun q hq => ?_) (fun q hq => ?_) ?_ ?_ ⟨h.ne.1, fun q hq => by
      rw [hl2] at hq
      rcases hat with e | ⟨k, hk, e⟩
      · exact h.ne.2 q (e ▸ hq)
      · rw [e] at hq
        injection hq with hq
        intro e2
        obtain ⟨cur, hc⟩ := own_blk h.out e2
        have := (Array.getElem?_eq_some_iff.1 hc).1
        omega⟩, fun q hq => ?_, fun q hq => .inl hq, ?_⟩
  · rcases hq with hq | hq
    · exact .inl hq
    · rcases hat with e | ⟨k, hk, e⟩
      · exact .inl (h.st.2 q (e ▸ hq))
      · rw [e] at hq; injection hq with hq; right; omega
  · rcases hq with hq | hq
    · have := h.lt q hq; omega
    · have := hlt q hq; omega
  · have := (g3.set_ 5 (.slice A3 (m.st.length + 1) c3)).upd h5 (fun e => by omega)
    simpa [mCells] using this
  · rw [hl2]
    refine ⟨?_, fun q hq => .inr hq⟩
    have hx : (vcells m.st.reverse ++ [.int .i64 v.k, .int .i64 v.n, .string v.s]) = vcells (v :: m.st).reverse := (vcells_rev v m.st).symm
    rw [show (v :: m.st).length = m.st.length + 1 from by simp, ← hx]
    exact own_keepI (own_keepI ho fun q hq => Below.heap_setCell w3 _ _ q fun e => hng q hq e) fun q hq => by
      refine h5.block q (by have := hlt q hq; simpa using this) fun e => ?_
      rcases hat with e3 | ⟨k, hk, e3⟩
      · have := h.lt q (h.st.2 q (e3 ▸ hq)); omega
      · rw [e3] at hq; injection hq with hq; omega
  · rcases hq with hq | hq
    · exact .inl hq
    · rcases hat with e | ⟨k, hk, e⟩
      · exact .inl (h.st.2 q (e ▸ hq))
      · rw [e] at hq; injection hq with hq; right; omega
  · exact ⟨U.os, U.tape, U.output, U.size, fun k hk hS => U.block k hk fun e => by
      rcases e with e | e
      · exact hS (e ▸ h.inS.1)
      · exact hS (h.st.2 k e)⟩
theorem MIn.stepped {a : Ad} {x : Nat} {A3 : Option Addr} {c3 : Nat} {w1 w3 : World} (h : MIn S w g F m a) (hb : Below w.heap.size w w1) (hu : Upd (fun q => (Value.slice a.A2 m.steps.length a.c2).ownBlock = some q) w1 w3) (ho : w3.ownsRow 0 3 1 (Value.slice A3 (m.steps.length + 1) c3) (m.steps.length + 1) (stepCells m.steps ++ [.int .i64 (x : Nat)])) (hat : (Value.slice A3 (m.steps.length + 1) c3).ownBlock = (Value.slice a.A2 m.steps.length a.c2).ownBlock ∨ ∃ k, w1.heap.size ≤ k ∧ (Value.slice A3 (m.steps.length + 1) c3).ownBlock = some k) {W5 : World} (h5 : Upd (fun q => w.heap.size ≤ q ∧ q < w1.heap.size) (w3.setCell ⟨g, 8, none⟩ (.slice A3 (m.steps.length + 1) c3)) W5) :
    ∃ S', MIn S' W5 g F { m with steps := m.steps ++ [x] } { a with A2 := A3, c2 := c3 } ∧ (∀ q, S' q → S q ∨ w1.heap.size ≤ q) ∧ (∀ q, S q → S' q) ∧ Upd S w W5 := by
  have hs1 := hb.size
  have hgl := h.lt g h.inS.1
  have h1 := h.keep hb
  have hgo : ¬ (Value.slice a.A2 m.steps.length a.c2).ownBlock = some g := fun e => by
    obtain ⟨cur, hc⟩ := own_blk h.steps e
    exact absurd (blk_ty hc h.blk) (by decide)
  have g3 : Blk w3 g 97 (mCells F m a) := h1.blk.upd hu hgo
  have hng : ∀ q, (Value.slice A3 (m.steps.length + 1) c3).ownBlock = some q → q ≠ g := fun q e e2 => by
    rcases hat with h3 | ⟨k, hk, h3⟩
    · exact hgo (by rw [← h3, e, e2])
    · rw [h3] at e; injection e with e; omega
  have hlt : ∀ q, (Value.slice A3 (m.steps.length + 1) c3).ownBlock = some q → q < w3.heap.size := fun q e => (ho.lt q e).2
  have hl2 : (Value.slice A3 (m.steps ++ [x]).length c3) = (Value.slice A3 (m.steps.length + 1) c3) := by simp
  have hs5 : w3.heap.size ≤ W5.heap.size := by have := h5.size; simpa using this
  have U : Upd (fun q => q = g ∨ (Value.slice a.A2 m.steps.length a.c2).ownBlock = some q) w W5 := by
    refine Upd.trans ?_ h5 fun b hb e => absurd e.1 (by omega)
    refine Upd.setCell (p := ⟨g, 8, none⟩) ?_ (fun _ => .inl rfl) _
    exact (Upd.of_below' hb (fun q => q = g ∨ (Value.slice a.A2 m.steps.length a.c2).ownBlock = some q)).trans hu fun b _ e => .inr e
  have hs3 := hu.size
  refine ⟨fun q => S q ∨ (Value.slice A3 (m.steps.length + 1) c3).ownBlock = some q, h.onSteps U (fun q _ e => e) (fun q hq => .inl hq) (fun q hq => ?_) (fun q hq => ?_) ?_ ?_, fun q hq => ?_, fun q hq => .inl hq, ?_⟩
  · rcases hq with hq | hq
    · exact .inl hq
    · rcases hat with e | ⟨k, hk, e⟩
      · exact .inl (h.steps.2 q (e ▸ hq))
      · rw [e] at hq; injection hq with hq; right; omega
  · rcases hq with hq | hq
    · have := h.lt q hq; omega
    · have := hlt q hq; omega
  · have := (g3.set_ 8 (.slice A3 (m.steps.length + 1) c3)).upd h5 (fun e => by omega)
    simpa [mCells] using this
  · rw [hl2]
    refine ⟨?_, fun q hq => .inr hq⟩
    have hx : (stepCells m.steps ++ [.int .i64 (x : Nat)]) = stepCells (m.steps ++ [x]) := by unfold stepCells; simp
    rw [show (m.steps ++ [x]).length = m.steps.length + 1 from by simp, ← hx]
    exact own_keepI (own_keepI ho fun q hq => Below.heap_setCell w3 _ _ q fun e => hng q hq e) fun q hq => by
      refine h5.block q (by have := hlt q hq; simpa using this) fun e => ?_
      rcases hat with e3 | ⟨k, hk, e3⟩
      · have := h.lt q (h.steps.2 q (e3 ▸ hq)); omega
      · rw [e3] at hq; injection hq with hq; omega
  · rcases hq with hq | hq
    · exact .inl hq
    · rcases hat with e | ⟨k, hk, e⟩
      · exact .inl (h.steps.2 q (e ▸ hq))
      · rw [e] at hq; injection hq with hq; right; omega
  · exact ⟨U.os, U.tape, U.output, U.size, fun k hk hS => U.block k hk fun e => by
      rcases e with e | e
      · exact hS (e ▸ h.inS.1)
      · exact hS (h.steps.2 k e)⟩
theorem MIn.emitted {a : Ad} {v : Vl} {A3 : Option Addr} {c3 : Nat} {w1 w3 : World} (h : MIn S w g F m a) (hb : Below w.heap.size w w1) (hu : Upd (fun q => (Value.slice a.A3 m.out.length a.c3).ownBlock = some q) w1 w3) (ho : w3.ownsRow 0 55 3 (Value.slice A3 (m.out.length + 1) c3) (m.out.length + 1) (vcells m.out ++ [.int .i64 v.k, .int .i64 v.n, .string v.s])) (hat : (Value.slice A3 (m.out.length + 1) c3).ownBlock = (Value.slice a.A3 m.out.length a.c3).ownBlock ∨ ∃ k, w1.heap.size ≤ k ∧ (Value.slice A3 (m.out.length + 1) c3).ownBlock = some k) {W5 : World} (h5 : Upd (fun q => w.heap.size ≤ q ∧ q < w1.heap.size) (w3.setCell ⟨g, 9, none⟩ (.slice A3 (m.out.length + 1) c3)) W5) :
    ∃ S', MIn S' W5 g F { m with out := m.out ++ [v] } { a with A3 := A3, c3 := c3 } ∧ (∀ q, S' q → S q ∨ w1.heap.size ≤ q) ∧ (∀ q, S q → S' q) ∧ Upd S w W5 := by
  have hs1 := hb.size
  have hgl := h.lt g h.inS.1
  have h1 := h.keep hb
  have hgo : ¬ (Value.slice a.A3 m.out.length a.c3).ownBlock = some g := fun e => by
    obtain ⟨cur, hc⟩ := own_blk h.out e
    exact absurd (blk_ty hc h.blk) (by decide)
  have g3 : Blk w3 g 97 (mCells F m a) := h1.blk.upd hu hgo
  have hng : ∀ q, (Value.slice A3 (m.out.length + 1) c3).ownBlock = some q → q ≠ g := fun q e e2 => by
    rcases hat with h3 | ⟨k, hk, h3⟩
    · exact hgo (by rw [← h3, e, e2])
    · rw [h3] at e; injection e with e; omega
  have hlt : ∀ q, (Value.slice A3 (m.out.length + 1) c3).ownBlock = some q → q < w3.heap.size := fun q e => (ho.lt q e).2
  have hl2 : (Value.slice A3 (m.out ++ [v]).length c3) = (Value.slice A3 (m.out.length + 1) c3) := by simp
  have hs5 : w3.heap.size ≤ W5.heap.size := by have := h5.size; simpa using this
  have U : Upd (fun q => q = g ∨ (Value.slice a.A3 m.out.length a.c3).ownBlock = some q) w W5 := by
    refine Upd.trans ?_ h5 fun b hb e => absurd e.1 (by omega)
    refine Upd.setCell (p := ⟨g, 9, none⟩) ?_ (fun _ => .inl rfl) _
    exact (Upd.of_below' hb (fun q => q = g ∨ (Value.slice a.A3 m.out.length a.c3).ownBlock = some q)).trans hu fun b _ e => .inr e
  have hs3 := hu.size
  refine ⟨fun q => S q ∨ (Value.slice A3 (m.out.length + 1) c3).ownBlock = some q, h.onOut U (fun q _ e => e) (fun q hq => .inl hq) (fun q hq => ?_) (fun q hq => ?_) ?_ ?_ ⟨h.ne.1, fun q hq => by
      rw [hl2]
      intro e2
      rcases hat with e | ⟨k, hk, e⟩
      · exact h.ne.2 q hq (e ▸ e2)
      · rw [e] at e2
        injection e2 with e2
        obtain ⟨cur, hc⟩ := own_blk h.st hq
        have := (Array.getElem?_eq_some_iff.1 hc).1
        omega⟩, fun q hq => ?_, fun q hq => .inl hq, ?_⟩
  · rcases hq with hq | hq
    · exact .inl hq
    · rcases hat with e | ⟨k, hk, e⟩
      · exact .inl (h.out.2 q (e ▸ hq))
      · rw [e] at hq; injection hq with hq; right; omega
  · rcases hq with hq | hq
    · have := h.lt q hq; omega
    · have := hlt q hq; omega
  · have := (g3.set_ 9 (.slice A3 (m.out.length + 1) c3)).upd h5 (fun e => by omega)
    simpa [mCells] using this
  · rw [hl2]
    refine ⟨?_, fun q hq => .inr hq⟩
    have hx : (vcells m.out ++ [.int .i64 v.k, .int .i64 v.n, .string v.s]) = vcells (m.out ++ [v]) := by unfold vcells; simp [Vl.cells]
    rw [show (m.out ++ [v]).length = m.out.length + 1 from by simp, ← hx]
    exact own_keepI (own_keepI ho fun q hq => Below.heap_setCell w3 _ _ q fun e => hng q hq e) fun q hq => by
      refine h5.block q (by have := hlt q hq; simpa using this) fun e => ?_
      rcases hat with e3 | ⟨k, hk, e3⟩
      · have := h.lt q (h.out.2 q (e3 ▸ hq)); omega
      · rw [e3] at hq; injection hq with hq; omega
  · rcases hq with hq | hq
    · exact .inl hq
    · rcases hat with e | ⟨k, hk, e⟩
      · exact .inl (h.out.2 q (e ▸ hq))
      · rw [e] at hq; injection hq with hq; right; omega
  · exact ⟨U.os, U.tape, U.output, U.size, fun k hk hS => U.block k hk fun e => by
      rcases e with e | e
      · exact hS (e ▸ h.inS.1)
      · exact hS (h.out.2 k e)⟩
set_option maxRecDepth 100000 in
set_option maxHeartbeats 2000000 in
theorem push_any (v : Vl) (h : MAt S w g F m) (hn : m.st.length ≤ 1000) : Calls Tryz.prog 139 #[.pointer (some ⟨g, 0, none⟩), .agg #[.int .i64 v.k, .int .i64 v.n, .string v.s]] w fun e w' => e = .returned (.tuple #[]) ∧ MGo S w g F { m with st := v :: m.st } w' := by
  obtain ⟨a, h, ha⟩ := h
  have hB0 : Below w.heap.size w (w.alloc (.cells #[.int .i64 v.k, .int .i64 v.n, .string v.s] 55)) := (Below.refl _ _).alloc (Nat.le_refl _) _
  have kb := hid (Blk.new w 55 #[.int .i64 v.k, .int .i64 v.n, .string v.s])
  have H1 := hid (h.keep hB0)
  have H := hid h
  have hB := hid hB0
  have hsz : Hid ((w.alloc (.cells #[.int .i64 v.k, .int .i64 v.n, .string v.s] 55)).heap.size = w.heap.size + 1) := hid (by simp)
  obtain ⟨i0, hi0, hz0, hz1, hz2⟩ := info_parts info_valI
  have hnn := hid hn
  clear h hB0 hn
  go_enter Tryz.func139, Tryz.ntmps139
  go_upto_region 1 with fail
  generalize w.alloc (.cells #[.int .i64 v.k, .int .i64 v.n, .string v.s] 55) = w1 at *
  have hgo : Hid (¬ (Value.slice a.A1 m.st.length a.c1).ownBlock = some g) := hid fun e => by
    obtain ⟨cur, hc⟩ := own_blk H.out.st e
    exact absurd (blk_ty hc H.out.blk) (by decide)
  have hbo : Hid (¬ (Value.slice a.A1 m.st.length a.c1).ownBlock = some w.heap.size) := hid fun e => by
    have := H.out.lt _ (H.out.st.2 _ e)
    omega
  have hkeep : Hid (∀ w', Upd (fun q => (Value.slice a.A1 m.st.length a.c1).ownBlock = some q) w1 w' → w'.cell? ⟨g, 5, none⟩ = some (.slice a.A1 m.st.length a.c1) ∧ w'.cell? ⟨w.heap.size, 0, none⟩ = some (.int .i64 v.k) ∧ w'.cell? ⟨w.heap.size, 1, none⟩ = some (.int .i64 v.n) ∧ w'.cell? ⟨w.heap.size, 2, none⟩ = some (.string v.s)) := hid fun w' hu => ⟨(H1.out.blk.upd hu hgo.out).cell 5, (kb.out.upd hu hbo.out).cell 0, (kb.out.upd hu hbo.out).cell 1, (kb.out.upd hu hbo.out).cell 2⟩
  have hHeld : w1.drew.cell? ⟨g, 5, none⟩ = some (.slice a.A1 m.st.length a.c1) ∧ w1.drew.cell? ⟨w.heap.size, 0, none⟩ = some (.int .i64 v.k) ∧ w1.drew.cell? ⟨w.heap.size, 1, none⟩ = some (.int .i64 v.n) ∧ w1.drew.cell? ⟨w.heap.size, 2, none⟩ = some (.string v.s) := ⟨H1.out.blk.drew.cell 5, kb.out.drew.cell 0, kb.out.drew.cell 1, kb.out.drew.cell 2⟩
  refine wp_region_heldE (S := fun w' => w'.cell? ⟨g, 5, none⟩ = some (.slice a.A1 m.st.length a.c1) ∧ w'.cell? ⟨w.heap.size, 0, none⟩ = some (.int .i64 v.k) ∧ w'.cell? ⟨w.heap.size, 1, none⟩ = some (.int .i64 v.n) ∧ w'.cell? ⟨w.heap.size, 2, none⟩ = some (.string v.s)) 10 (by kernel_rfl) ?_
  refine wpAnyE_take [8, 9, 10] (i := 0) (v := ?v501) rfl (by kernel_rfl) (by kernel_rfl) (by kernel_rfl) (by rfl) (by kernel_rfl) (by kernel_rfl) (fun _ _ _ h => h) (Or.inl ⟨by rfl, ?hy501⟩) (hHeld) ?rest501
  case hy501 => intro w hSw; (try dsimp only at hSw); go_simp; try with_reducible rfl
  (try simp only [Act.put, List.setIfInBounds_toArray, List.set_cons_zero, List.set_cons_succ, List.getElem_toArray, List.getElem_cons_zero, List.getElem_cons_succ])
  refine wpAnyE_take [2, 3, 4, 7, 8, 9, 10] (i := 1) (v := ?v502) rfl (by kernel_rfl) (by kernel_rfl) (by kernel_rfl) (by rfl) (by kernel_rfl) (by kernel_rfl) (fun _ _ _ h => h) (Or.inl ⟨by rfl, ?hy502⟩) (hHeld) ?rest502
  case hy502 => intro w hSw; (try dsimp only at hSw); go_simp; try with_reducible rfl
  (try simp only [Act.put, List.setIfInBounds_toArray, List.set_cons_zero, List.set_cons_succ, List.getElem_toArray, List.getElem_cons_zero, List.getElem_cons_succ])
  refine wpAnyE_take [3, 4, 7, 8, 9, 10] (i := 2) (v := ?v503) rfl (by kernel_rfl) (by kernel_rfl) (by kernel_rfl) (by rfl) (by kernel_rfl) (by kernel_rfl) (fun _ _ _ h => h) (Or.inl ⟨by rfl, ?hy503⟩) (hHeld) ?rest503
  case hy503 => intro w hSw; (try dsimp only at hSw); go_simp; try with_reducible rfl
  (try simp only [Act.put, List.setIfInBounds_toArray, List.set_cons_zero, List.set_cons_succ, List.getElem_toArray, List.getElem_cons_zero, List.getElem_cons_succ])
  refine wpAnyE_take [4, 7, 8, 9, 10] (i := 3) (v := ?v504) rfl (by kernel_rfl) (by kernel_rfl) (by kernel_rfl) (by rfl) (by kernel_rfl) (by kernel_rfl) (fun _ _ _ h => h) (Or.inl ⟨by rfl, ?hy504⟩) (hHeld) ?rest504
  case hy504 => intro w hSw; (try dsimp only at hSw); go_simp; try with_reducible rfl
  (try simp only [Act.put, List.setIfInBounds_toArray, List.set_cons_zero, List.set_cons_succ, List.getElem_toArray, List.getElem_cons_zero, List.getElem_cons_succ])
  refine wpAnyE_take [7, 8, 9, 10] (i := 4) (v := ?v505) rfl (by kernel_rfl) (by kernel_rfl) (by kernel_rfl) (by rfl) (by kernel_rfl) (by kernel_rfl) (fun _ _ _ h => h) (Or.inl ⟨by rfl, ?hy505⟩) (hHeld) ?rest505
  case hy505 => intro w hSw; (try dsimp only at hSw); go_simp; try with_reducible rfl
  (try simp only [Act.put, List.setIfInBounds_toArray, List.set_cons_zero, List.set_cons_succ, List.getElem_toArray, List.getElem_cons_zero, List.getElem_cons_succ])
  refine wpAnyE_take [6, 7, 8, 9, 10] (i := 5) (v := ?v506) rfl (by kernel_rfl) (by kernel_rfl) (by kernel_rfl) (by rfl) (by kernel_rfl) (by kernel_rfl) (fun _ _ _ h => h) (Or.inl ⟨by rfl, ?hy506⟩) (hHeld) ?rest506
  case hy506 => intro w hSw; (try dsimp only at hSw); go_simp; try with_reducible rfl
  (try simp only [Act.put, List.setIfInBounds_toArray, List.set_cons_zero, List.set_cons_succ, List.getElem_toArray, List.getElem_cons_zero, List.getElem_cons_succ])
  refine wpAnyE_ready (rs := [6]) (by kernel_rfl) (by simp) ?_
  refine AllReadyE.cons rfl (fun K hK => ?_) AllReadyE.nil
  go_simp
  refine hK.out _ _ (fun _ => ⟨(H1.out.blk.drew.alloc _).cell 5, (kb.out.drew.alloc _).cell 0, (kb.out.drew.alloc _).cell 1, (kb.out.drew.alloc _).cell 2⟩) ?_
  clear hK K
  (try simp only [Act.put, List.setIfInBounds_toArray, List.set_cons_zero, List.set_cons_succ, List.getElem_toArray, List.getElem_cons_zero, List.getElem_cons_succ])
  refine wpAnyE_ready (rs := [7]) (by kernel_rfl) (by simp) ?_
  refine AllReadyE.cons rfl (fun K hK => ?_) AllReadyE.nil
  refine step_append_rd _ rfl (.tmp 8) (.tmp 10) 23 rfl 0 55 i0 _ 3 32 Tryz.underlying23 hi0 hz0 hz1 hz2 rfl (by omega) (.slice a.A1 m.st.length a.c1) m.st.length (vcells m.st.reverse) rfl ?_ (fun q => q = w1.heap.size) (some ⟨w1.heap.size, 0, none⟩) 1 1 #[.int .i64 v.k, .int .i64 v.n, .string v.s].toList rfl ?_ ?_ ?_ ?_ ?_ (m.st.length + 1) rfl (vcells m.st.reverse ++ #[.int .i64 v.k, .int .i64 v.n, .string v.s].toList) rfl ?_
  · exact (H1.out.st.1.drew).alloc _
  · exact Rd.new w1.drew 55 3 1 #[.int .i64 v.k, .int .i64 v.n, .string v.s] w1.heap.size rfl rfl
  · intro v hv; simp at hv; (first | (rcases hv with rfl | rfl | rfl <;> rfl) | (rcases hv with rfl; rfl))
  · have := hnn.out; simp only [maxLen]; omega
  · have := hnn.out; omega
  · exact Nat.zero_le _
  intro A3 c3 w3 hown3 hg3 hat3
  have hu9 : Hid (Upd (fun q => (Value.slice a.A1 m.st.length a.c1).ownBlock = some q) w1 w3) := hid (((Upd.refl _ w1).drew.alloc _).grown hg3 fun q hq _ => hq)
  have hO3 := hid hown3
  have hat9 : Hid ((Value.slice A3 (m.st.length + 1) c3).ownBlock = (Value.slice a.A1 m.st.length a.c1).ownBlock ∨ ∃ k, w1.heap.size ≤ k ∧ (Value.slice A3 (m.st.length + 1) c3).ownBlock = some k) := hid (by
    rcases hat3 with e | e
    · exact .inl e
    · exact .inr ⟨_, by simp, e⟩)
  clear hg3 hat3 hown3
  have r4 : w3.cell? ⟨g, 5, none⟩ = some (.slice a.A1 m.st.length a.c1) ∧ w3.cell? ⟨w.heap.size, 0, none⟩ = some (.int .i64 v.k) ∧ w3.cell? ⟨w.heap.size, 1, none⟩ = some (.int .i64 v.n) ∧ w3.cell? ⟨w.heap.size, 2, none⟩ = some (.string v.s) := hkeep.out _ hu9.out
  have q4 : w3.frozen? ⟨g, 5, none⟩ = false := (H1.out.blk.upd hu9.out hgo.out).frozen 5
  have r7 := r4.1
  refine hK.out _ _ (fun _ => r4) ?_
  clear hK K
  (try simp only [Act.put, List.setIfInBounds_toArray, List.set_cons_zero, List.set_cons_succ, List.getElem_toArray, List.getElem_cons_zero, List.getElem_cons_succ])
  refine wpAnyE_take [9, 10] (i := 8) (v := ?v507) rfl (by kernel_rfl) (by kernel_rfl) (by kernel_rfl) (by rfl) (by kernel_rfl) (by kernel_rfl) (fun _ _ _ h => h) (Or.inl ⟨by rfl, ?hy507⟩) (r4) ?rest507
  case hy507 => intro w hSw; (try dsimp only at hSw); go_simp; try with_reducible rfl
  (try simp only [Act.put, List.setIfInBounds_toArray, List.set_cons_zero, List.set_cons_succ, List.getElem_toArray, List.getElem_cons_zero, List.getElem_cons_succ])
  refine wpAnyE_take [10] (i := 9) (v := ?v508) rfl (by kernel_rfl) (by kernel_rfl) (by kernel_rfl) (by rfl) (by kernel_rfl) (by kernel_rfl) (fun _ _ _ h => h) (Or.inl ⟨by rfl, ?hy508⟩) (r4) ?rest508
  case hy508 => intro w hSw; (try dsimp only at hSw); go_simp; try with_reducible rfl
  (try simp only [Act.put, List.setIfInBounds_toArray, List.set_cons_zero, List.set_cons_succ, List.getElem_toArray, List.getElem_cons_zero, List.getElem_cons_succ])
  refine wpAnyE_ready (rs := [10]) (by kernel_rfl) (by simp) ?_
  refine AllReadyE.cons rfl (fun K hK => ?_) AllReadyE.nil
  go_simp
  refine hK.out _ _ (fun h => absurd rfl h) ?_
  clear hK K
  (try simp only [Act.put, List.setIfInBounds_toArray, List.set_cons_zero, List.set_cons_succ, List.getElem_toArray, List.getElem_cons_zero, List.getElem_cons_succ])
  refine wpAnyE_done (by kernel_rfl) ?_ _
  go_wp2_with fail
  refine ⟨rfl, .tuple #[], by simp [results, Tryz.results139, go_sem], rfl, ?_⟩
  obtain ⟨S', h1, h2, h3, h4⟩ := H.out.pushed hB.out hu9.out hO3.out hat9.out (Upd.refl _ _)
  exact ⟨S', ⟨_, h1, ha⟩, fun q hq => (h2 q hq).imp id (fun e => Nat.le_trans hB.out.size e), h3, h4⟩
end
end Go.Proofs.YtdmogoaaecdbaaaGreatDoor

namespace Go.Proofs.YtdmogoaaecdbaaaGreatDoor
open Go.RowKit
set_option linter.unusedVariables false

end Go.Proofs.YtdmogoaaecdbaaaGreatDoor

namespace Go.Proofs.YtdmogoaaecdbaaaGreatDoor
open Go.RowKit
set_option linter.unusedVariables false
set_option linter.unusedSimpArgs false

section
variable {S : Nat → Prop} {w w' w1 : World} {g : Nat} {F : Fr} {m m' : Mc}
theorem MGo.pre (h : MGo S w1 g F m' w') (hb : Below w.heap.size w w1) (hS : ∀ q, S q → q < w.heap.size) : MGo S w g F m' w' := by
  obtain ⟨S', ha, h1, h2, hu⟩ := h
  refine ⟨S', ha, fun q hq => ?_, h2, (Upd.of_below' hb S).trans hu fun _ _ e => e⟩
  rcases h1 q hq with e | e
  · exact .inl e
  · right; have := hb.size; omega
/-- a value of the stack, by its place from the top -/
theorem MIn.stk {a : Ad} (h : MIn S w g F m a) {k j : Nat} (hk : k + j + 1 = m.st.length) : ∃ b o, a.A1 = some ⟨b, o, none⟩ ∧ ∀ W, Below w.heap.size w W → W.cell? ⟨b, o + j * 3, none⟩ = some (.int .i64 (m.st.getD k vl0).k) ∧ W.cell? ⟨b, o + j * 3 + 1, none⟩ = some (.int .i64 (m.st.getD k vl0).n) ∧ W.cell? ⟨b, o + j * 3 + 2, none⟩ = some (.string (m.st.getD k vl0).s) := by
  have hrow : Rd S w 3 a.A1 m.st.reverse.length (vcells m.st.reverse) := by rw [List.length_reverse]; exact h.st.rd
  have hj : j < m.st.reverse.length := by rw [List.length_reverse]; omega
  have hv : m.st.reverse[j]'hj = m.st.getD k vl0 := by
    rw [List.getElem_reverse, List.getD_eq_getElem?_getD, List.getElem?_eq_getElem (show k < m.st.length by omega)]
    simp only [Option.getD_some]
    congr 1
    omega
  obtain ⟨b, o, hA, _⟩ := hrow.val_at hj
  refine ⟨b, o, hA, fun W hW => ?_⟩
  obtain ⟨b', o', e, _, z0, z1, z2⟩ := (hrow.below_all hW).val_at hj
  rw [hA] at e
  injection e with e
  injection e with e1 e2
  subst e1 e2
  rw [hv] at z0 z1 z2
  exact ⟨z0, z1, z2⟩
theorem row_at {T : Nat → Prop} {A : Option Addr} {l : List Vl} (h : Rd T w 3 A l.length (vcells l)) {j : Nat} (hj : j < l.length) : ∃ b o, A = some ⟨b, o, none⟩ ∧ ∀ W, Below w.heap.size w W → W.cell? ⟨b, o + j * 3, none⟩ = some (.int .i64 (l.getD j vl0).k) ∧ W.cell? ⟨b, o + j * 3 + 1, none⟩ = some (.int .i64 (l.getD j vl0).n) ∧ W.cell? ⟨b, o + j * 3 + 2, none⟩ = some (.string (l.getD j vl0).s) := by
  have hv : l[j]'hj = l.getD j vl0 := by rw [List.getD_eq_getElem?_getD, List.getElem?_eq_getElem hj]; rfl
  obtain ⟨b, o, hA, _⟩ := h.val_at hj
  refine ⟨b, o, hA, fun W hW => ?_⟩
  obtain ⟨b', o', e, _, z0, z1, z2⟩ := (h.below_all hW).val_at hj
  rw [hA] at e
  injection e with e
  injection e with e1 e2
  subst e1 e2
  rw [hv] at z0 z1 z2
  exact ⟨z0, z1, z2⟩
theorem own_set {base e size n c q j : Nat} {xs : List Value} (h : w.ownsRow base e size (.slice (some ⟨q, 0, none⟩) n c) n xs) (x : Value) : (w.setCell ⟨q, j, none⟩ x).ownsRow base e size (.slice (some ⟨q, 0, none⟩) n c) n (xs.set j x) := by
  obtain ⟨h1, h2⟩ := h
  refine ⟨by rw [List.length_set]; exact h1, ?_⟩
  rcases h2 with ⟨hv, _⟩ | ⟨q', cap, cur, hv, hb, hh, h4, h5, h6, h7⟩
  · cases hv
  · simp only [Value.slice.injEq, Option.some.injEq, Addr.mk.injEq, true_and, and_true] at hv
    obtain ⟨rfl, rfl⟩ := hv
    have hk : Blk w q e cur := hh
    refine .inr ⟨q, c, _, rfl, hb, hk.set_ j x, h4, h5, by simpa using h6, ?_⟩
    rw [← h7]
    simp [List.take_set]
theorem set3 (l m : List Value) (a b c x y z : Value) (n : Nat) (hn : n = l.length) : (((l ++ a :: b :: c :: m).set n x).set (n + 1) y).set (n + 2) z = l ++ x :: y :: z :: m := by
  subst hn
  induction l with
  | nil => rfl
  | cons k l ih => simp
/-- the two topmost changed about -/
theorem MIn.swapped {a : Ad} {v u : Vl} {r : List Vl} {b o p1 p2 : Nat} (h : MIn S w g F m a) (hA : a.A1 = some ⟨b, o, none⟩) (hs : m.st = v :: u :: r) (hp1 : p1 = m.st.length - 1) (hp2 : p2 = m.st.length - 2) (ha : a.rs = m.reads) :
    MGo S w g F { m with st := u :: v :: r } ((((((w.setCell ⟨b, o + p1 * 3, none⟩ (.int .i64 u.k)).setCell ⟨b, o + p1 * 3 + 1, none⟩ (.int .i64 u.n)).setCell ⟨b, o + p1 * 3 + 2, none⟩ (.string u.s)).setCell ⟨b, o + p2 * 3, none⟩ (.int .i64 v.k)).setCell ⟨b, o + p2 * 3 + 1, none⟩ (.int .i64 v.n)).setCell ⟨b, o + p2 * 3 + 2, none⟩ (.string v.s)).drew := by
  have e1 : p1 = r.length + 1 := by rw [hp1, hs]; rfl
  have e2 : p2 = r.length := by rw [hp2, hs]; rfl
  have hst := h.st
  have ho : o = 0 := by
    rcases hst.1.2 with ⟨hv, _⟩ | ⟨q, cap, cur, hv, _⟩
    · rw [hA] at hv; cases hv
    · rw [hA] at hv
      simp only [Value.slice.injEq, Option.some.injEq, Addr.mk.injEq, true_and, and_true] at hv
      exact hv.1.2
  subst ho
  have hsb : S b := hst.2 b (by rw [hA]; rfl)
  obtain ⟨cur, hcur⟩ := own_blk (q := b) hst (by rw [hA]; rfl)
  have hbg : ¬ b = g := fun e => absurd (blk_ty (e ▸ hcur) h.blk) (by decide)
  have U : Upd (fun q => q = b) w ((((((w.setCell ⟨b, 0 + p1 * 3, none⟩ (.int .i64 u.k)).setCell ⟨b, 0 + p1 * 3 + 1, none⟩ (.int .i64 u.n)).setCell ⟨b, 0 + p1 * 3 + 2, none⟩ (.string u.s)).setCell ⟨b, 0 + p2 * 3, none⟩ (.int .i64 v.k)).setCell ⟨b, 0 + p2 * 3 + 1, none⟩ (.int .i64 v.n)).setCell ⟨b, 0 + p2 * 3 + 2, none⟩ (.string v.s)).drew := ((((((Upd.refl (fun q => q = b) w).setCell (p := ⟨b, 0 + p1 * 3, none⟩) (fun _ => rfl) _).setCell (p := ⟨b, 0 + p1 * 3 + 1, none⟩) (fun _ => rfl) _).setCell (p := ⟨b, 0 + p1 * 3 + 2, none⟩) (fun _ => rfl) _).setCell (p := ⟨b, 0 + p2 * 3, none⟩) (fun _ => rfl) _).setCell (p := ⟨b, 0 + p2 * 3 + 1, none⟩) (fun _ => rfl) _).setCell (p := ⟨b, 0 + p2 * 3 + 2, none⟩) (fun _ => rfl) _ |>.drew
  have hrow := hst.1
  rw [hA] at hrow
  have h6 := (((((own_set (j := 0 + p1 * 3) hrow (.int .i64 u.k)) |> (own_set (j := 0 + p1 * 3 + 1) · (.int .i64 u.n))) |> (own_set (j := 0 + p1 * 3 + 2) · (.string u.s))) |> (own_set (j := 0 + p2 * 3) · (.int .i64 v.k))) |> (own_set (j := 0 + p2 * 3 + 1) · (.int .i64 v.n))) |> (own_set (j := 0 + p2 * 3 + 2) · (.string v.s))
  have h6 := h6.drew
  generalize ((((((w.setCell ⟨b, 0 + p1 * 3, none⟩ (.int .i64 u.k)).setCell ⟨b, 0 + p1 * 3 + 1, none⟩ (.int .i64 u.n)).setCell ⟨b, 0 + p1 * 3 + 2, none⟩ (.string u.s)).setCell ⟨b, 0 + p2 * 3, none⟩ (.int .i64 v.k)).setCell ⟨b, 0 + p2 * 3 + 1, none⟩ (.int .i64 v.n)).setCell ⟨b, 0 + p2 * 3 + 2, none⟩ (.string v.s)).drew = W at U h6 ⊢
  have hx : ((((((vcells m.st.reverse).set (0 + p1 * 3) (.int .i64 u.k)).set (0 + p1 * 3 + 1) (.int .i64 u.n)).set (0 + p1 * 3 + 2) (.string u.s)).set (0 + p2 * 3) (.int .i64 v.k)).set (0 + p2 * 3 + 1) (.int .i64 v.n)).set (0 + p2 * 3 + 2) (.string v.s) = vcells (u :: v :: r).reverse := by
    have l1 : 0 + p1 * 3 = (vcells r.reverse ++ [Value.int .i64 u.k, .int .i64 u.n, .string u.s]).length := by rw [List.length_append, vcells_len, List.length_reverse, e1]; simp; omega
    have l2 : 0 + p2 * 3 = (vcells r.reverse).length := by rw [vcells_len, List.length_reverse, e2]; omega
    rw [hs, vcells_rev, vcells_rev, vcells_rev, vcells_rev]
    rw [set3 (vcells r.reverse ++ [Value.int .i64 u.k, .int .i64 u.n, .string u.s]) [] (.int .i64 v.k) (.int .i64 v.n) (.string v.s) _ _ _ _ l1]
    rw [List.append_assoc, List.append_assoc]
    show ((((vcells r.reverse ++ Value.int .i64 u.k :: .int .i64 u.n :: .string u.s :: [.int .i64 u.k, .int .i64 u.n, .string u.s]).set _ _).set _ _).set _ _) = _
    rw [set3 (vcells r.reverse) _ _ _ _ _ _ _ _ l2]
    rfl
  rw [hx] at h6
  have hl : m.st.length = (u :: v :: r).length := by rw [hs]; rfl
  have hO : OwnS S W 55 3 (.slice a.A1 (u :: v :: r).length a.c1) (u :: v :: r).length (vcells (u :: v :: r).reverse) := by
    rw [hA, ← hl]
    exact ⟨h6, fun q hq => by injection hq with hq; rw [← hq]; exact hsb⟩
  refine ⟨S, ⟨a, h.onSt U (fun q _ e => .inr (by rw [hA, e]; rfl)) (fun q hq => hq) (fun q hq => .inl hq) (fun q hq => Nat.lt_of_lt_of_le (h.lt q hq) U.size) (st' := u :: v :: r) (at' := m.at_) (fu' := m.fuel) (A' := a.A1) (c' := a.c1) ?_ hO ⟨h.ne.1, fun q hq => h.ne.2 q (own_same.trans hq)⟩, ha⟩, fun q hq => .inl hq, fun q hq => hq, ?_⟩
  · have := h.blk.upd U (fun e => hbg e.symm)
    have e : mCells F m a = mCells F { m with st := u :: v :: r } a := by unfold mCells; rw [hl]
    rw [e] at this
    exact this
  · exact ⟨U.os, U.tape, U.output, U.size, fun k hk hS => U.block k hk fun e => hS (e ▸ hsb)⟩
set_option maxRecDepth 100000 in
set_option maxHeartbeats 4000000 in
theorem moves3 (n : Int) (h : MAt S w g F m) (hn : m.st.length ≤ 100) (hd : 1 ≤ m.st.length) : Calls Tryz.prog 102 #[.pointer (some ⟨g, 0, none⟩), .agg #[.int .i64 3, .int .i64 n]] w fun e w' => e = .returned (.tuple #[]) ∧ MGo S w g F (movP F.p F.args m ⟨3, n⟩) w' := by
  have hlt := hid h.lt
  obtain ⟨a, h, ha⟩ := h
  have hB0 : Below w.heap.size w (w.alloc (.cells #[.int .i64 3, .int .i64 n] 69)) := (Below.refl _ _).alloc (Nat.le_refl _) _
  have kI := hid (Blk.new w 69 #[.int .i64 3, .int .i64 n])
  have H := hid (h.keep hB0)
  have hB := hid hB0
  have hnn := hid hn
  obtain ⟨n1, hn1⟩ : ∃ n1, Hid (n1 = m.st.length) := ⟨_, hid rfl⟩
  have hd1 : (m.st.length - 1) < m.st.length := by omega
  obtain ⟨p1, hp1⟩ : ∃ p1, Hid (p1 = m.st.length - 1) := ⟨_, hid rfl⟩
  obtain ⟨b, o, hA, hY0⟩ := H.out.stk (k := 0) (j := p1) (by have := hp1.out; omega)
  have hY := hid hY0
  have i1 : IntKind.i64.wrap ((n1 : Int) - 1) = (p1 : Int) := by rw [IntKind.wrap_i64]; have := hp1.out; have := hn1.out; omega
  have i2 : (p1 : Int) < (n1 : Int) := by have := hp1.out; have := hn1.out; omega
  have i3 : p1 < n1 := by omega
  clear hd1 hY0 hd
  have hC := hid (fun W (hW : Below (w.alloc (.cells #[.int .i64 3, .int .i64 n] 69)).heap.size (w.alloc (.cells #[.int .i64 3, .int .i64 n] 69)) W) => (show W.cell? ⟨w.heap.size, 0, none⟩ = some (.int .i64 3) ∧ W.cell? ⟨w.heap.size, 1, none⟩ = some (.int .i64 n) ∧ W.cell? ⟨g, 5, none⟩ = some (.slice a.A1 n1 a.c1) ∧ W.cell? ⟨g, 1, none⟩ = some (.slice F.Ac F.p.cs.length F.cc) ∧ W.cell? ⟨g, 3, none⟩ = some (.slice F.Aa F.args.length F.ca) from by
    have hb := H.out.blk.below_all hW
    have hi := kI.out.below_all hW
    exact ⟨hi.cell 0, hi.cell 1, by rw [hn1.out]; exact hb.cell 5, hb.cell 1, hb.cell 3⟩))
  clear h hB0 hn
  go_enter Tryz.func102, Tryz.ntmps102
  go_upto_region 1 with fail
  generalize w.alloc (.cells #[.int .i64 3, .int .i64 n] 69) = w1 at *
  obtain ⟨c0, c1, x5, x1, x3⟩ := hC.out _ (Below.refl _ _)
  rw [hA] at x5
  obtain ⟨y0, y1, y2⟩ := hY.out _ (Below.refl _ _)
  have hv : Hid (m.st.headD vl0 = m.st.getD 0 vl0) := hid (by cases m.st <;> rfl)
  generalize m.st.getD 0 vl0 = v at *
  go_wp2_with fail
  refine (push_any v ⟨a, H.out, ha⟩ (by have := hnn.out; omega)).mono ?_
  rintro e w2 ⟨rfl, hgo⟩
  have hgo := hid (hgo.pre hB.out hlt.out)
  go_wp2_with fail
  refine ⟨rfl, .tuple #[], by simp [results, Tryz.results102, go_sem], rfl, ?_⟩
  have e : movP F.p F.args m ⟨3, n⟩ = { m with st := v :: m.st } := by unfold movP; rw [← hv.out]; rfl
  rw [e]
  exact hgo.out
set_option maxRecDepth 100000 in
set_option maxHeartbeats 4000000 in
theorem moves6 (n : Int) (h : MAt S w g F m) (hn : m.st.length ≤ 100) (hd : 2 ≤ m.st.length) : Calls Tryz.prog 102 #[.pointer (some ⟨g, 0, none⟩), .agg #[.int .i64 6, .int .i64 n]] w fun e w' => e = .returned (.tuple #[]) ∧ MGo S w g F (movP F.p F.args m ⟨6, n⟩) w' := by
  have hlt := hid h.lt
  obtain ⟨a, h, ha⟩ := h
  have hB0 : Below w.heap.size w (w.alloc (.cells #[.int .i64 6, .int .i64 n] 69)) := (Below.refl _ _).alloc (Nat.le_refl _) _
  have kI := hid (Blk.new w 69 #[.int .i64 6, .int .i64 n])
  have H := hid (h.keep hB0)
  have hB := hid hB0
  have hnn := hid hn
  obtain ⟨n1, hn1⟩ : ∃ n1, Hid (n1 = m.st.length) := ⟨_, hid rfl⟩
  obtain ⟨p1, hp1⟩ : ∃ p1, Hid (p1 = m.st.length - 2) := ⟨_, hid rfl⟩
  obtain ⟨b, o, hA, hY0⟩ := H.out.stk (k := 1) (j := p1) (by have := hp1.out; omega)
  have hY := hid hY0
  have i1 : IntKind.i64.wrap ((n1 : Int) - 2) = (p1 : Int) := by rw [IntKind.wrap_i64]; have := hp1.out; have := hn1.out; omega
  have i2 : (p1 : Int) < (n1 : Int) := by have := hp1.out; have := hn1.out; omega
  have i3 : p1 < n1 := by omega
  clear hY0 hd
  have hC := hid (fun W (hW : Below (w.alloc (.cells #[.int .i64 6, .int .i64 n] 69)).heap.size (w.alloc (.cells #[.int .i64 6, .int .i64 n] 69)) W) => (show W.cell? ⟨w.heap.size, 0, none⟩ = some (.int .i64 6) ∧ W.cell? ⟨w.heap.size, 1, none⟩ = some (.int .i64 n) ∧ W.cell? ⟨g, 5, none⟩ = some (.slice a.A1 n1 a.c1) ∧ W.cell? ⟨g, 1, none⟩ = some (.slice F.Ac F.p.cs.length F.cc) ∧ W.cell? ⟨g, 3, none⟩ = some (.slice F.Aa F.args.length F.ca) from by
    have hb := H.out.blk.below_all hW
    have hi := kI.out.below_all hW
    exact ⟨hi.cell 0, hi.cell 1, by rw [hn1.out]; exact hb.cell 5, hb.cell 1, hb.cell 3⟩))
  clear h hB0 hn
  go_enter Tryz.func102, Tryz.ntmps102
  go_upto_region 1 with fail
  generalize w.alloc (.cells #[.int .i64 6, .int .i64 n] 69) = w1 at *
  obtain ⟨c0, c1, x5, x1, x3⟩ := hC.out _ (Below.refl _ _)
  rw [hA] at x5
  obtain ⟨y0, y1, y2⟩ := hY.out _ (Below.refl _ _)
  have hv : Hid (movP F.p F.args m ⟨6, n⟩ = { m with st := m.st.getD 1 vl0 :: m.st }) := hid rfl
  generalize m.st.getD 1 vl0 = v at *
  go_wp2_with fail
  refine (push_any v ⟨a, H.out, ha⟩ (by have := hnn.out; omega)).mono ?_
  rintro e w2 ⟨rfl, hgo⟩
  have hgo := hid (hgo.pre hB.out hlt.out)
  go_wp2_with fail
  refine ⟨rfl, .tuple #[], by simp [results, Tryz.results102, go_sem], rfl, ?_⟩
  rw [hv.out]
  exact hgo.out
set_option maxRecDepth 100000 in
set_option maxHeartbeats 4000000 in
theorem moves4 (n : Int) (h : MAt S w g F m) (hn : m.st.length ≤ 100) (hd : 1 ≤ m.st.length) : Calls Tryz.prog 102 #[.pointer (some ⟨g, 0, none⟩), .agg #[.int .i64 4, .int .i64 n]] w fun e w' => e = .returned (.tuple #[]) ∧ MGo S w g F (movP F.p F.args m ⟨4, n⟩) w' := by
  have hlt := hid h.lt
  obtain ⟨a, h, ha⟩ := h
  have hB0 : Below w.heap.size w (w.alloc (.cells #[.int .i64 4, .int .i64 n] 69)) := (Below.refl _ _).alloc (Nat.le_refl _) _
  have kI := hid (Blk.new w 69 #[.int .i64 4, .int .i64 n])
  have H := hid (h.keep hB0)
  have hB := hid hB0
  have hnn := hid hn
  obtain ⟨n1, hn1⟩ : ∃ n1, Hid (n1 = m.st.length) := ⟨_, hid rfl⟩
  have hC := hid (fun W (hW : Below (w.alloc (.cells #[.int .i64 4, .int .i64 n] 69)).heap.size (w.alloc (.cells #[.int .i64 4, .int .i64 n] 69)) W) => (show W.cell? ⟨w.heap.size, 0, none⟩ = some (.int .i64 4) ∧ W.cell? ⟨w.heap.size, 1, none⟩ = some (.int .i64 n) ∧ W.cell? ⟨g, 5, none⟩ = some (.slice a.A1 n1 a.c1) ∧ W.cell? ⟨g, 1, none⟩ = some (.slice F.Ac F.p.cs.length F.cc) ∧ W.cell? ⟨g, 3, none⟩ = some (.slice F.Aa F.args.length F.ca) from by
    have hb := H.out.blk.below_all hW
    have hi := kI.out.below_all hW
    exact ⟨hi.cell 0, hi.cell 1, by rw [hn1.out]; exact hb.cell 5, hb.cell 1, hb.cell 3⟩))
  clear h hB0 hn
  go_enter Tryz.func102, Tryz.ntmps102
  go_upto_region 1 with fail
  generalize w.alloc (.cells #[.int .i64 4, .int .i64 n] 69) = w1 at *
  obtain ⟨c0, c1, x5, x1, x3⟩ := hC.out _ (Below.refl _ _)
  obtain ⟨v, r, hs⟩ : ∃ v r, Hid (m.st = v :: r) := by
    cases hm : m.st with
    | nil => rw [hm] at hd; simp at hd
    | cons v r => exact ⟨v, r, hid rfl⟩
  have hpop := hid (pop_any v r ⟨a, H.out, ha⟩ hs.out (by have := hnn.out; rw [hs.out] at this; simp at this; omega))
  clear hd
  go_wp2_with fail
  refine hpop.out.mono ?_
  rintro e w2 ⟨rfl, hgo⟩
  have hgo := hid (hgo.pre hB.out hlt.out)
  go_wp2_with fail
  refine ⟨rfl, .tuple #[], by simp [results, Tryz.results102, go_sem], rfl, ?_⟩
  have e : movP F.p F.args m ⟨4, n⟩ = { m with st := r } := by
    show { m with st := m.st.tail } = _
    rw [hs.out]; rfl
  rw [e]
  exact hgo.out
set_option maxRecDepth 100000 in
set_option maxHeartbeats 4000000 in
theorem moves1 (n : Int) (h : MAt S w g F m) (hn : m.st.length ≤ 100) (hd : 0 ≤ n ∧ n < F.p.cs.length) : Calls Tryz.prog 102 #[.pointer (some ⟨g, 0, none⟩), .agg #[.int .i64 1, .int .i64 n]] w fun e w' => e = .returned (.tuple #[]) ∧ MGo S w g F (movP F.p F.args m ⟨1, n⟩) w' := by
  have hlt := hid h.lt
  obtain ⟨a, h, ha⟩ := h
  have hB0 : Below w.heap.size w (w.alloc (.cells #[.int .i64 1, .int .i64 n] 69)) := (Below.refl _ _).alloc (Nat.le_refl _) _
  have kI := hid (Blk.new w 69 #[.int .i64 1, .int .i64 n])
  have H := hid (h.keep hB0)
  have hB := hid hB0
  have hnn := hid hn
  obtain ⟨n1, hn1⟩ : ∃ n1, Hid (n1 = m.st.length) := ⟨_, hid rfl⟩
  obtain ⟨p1, hp1⟩ : ∃ p1 : Nat, Hid (n = p1) := ⟨n.toNat, hid (by omega)⟩
  obtain ⟨b, o, hA, hY0⟩ := row_at H.out.code.c (j := p1) (by have := hp1.out; omega)
  have hY := hid hY0
  have i2 : (p1 : Int) < (F.p.cs.length : Int) := by have := hp1.out; omega
  have i3 : p1 < F.p.cs.length := by omega
  have hv : Hid (movP F.p F.args m ⟨1, n⟩ = { m with st := F.p.cs.getD p1 vl0 :: m.st }) := hid (by rw [hp1.out]; rfl)
  clear hY0 hd
  have hC := hid (fun W (hW : Below (w.alloc (.cells #[.int .i64 1, .int .i64 n] 69)).heap.size (w.alloc (.cells #[.int .i64 1, .int .i64 n] 69)) W) => (show W.cell? ⟨w.heap.size, 0, none⟩ = some (.int .i64 1) ∧ W.cell? ⟨w.heap.size, 1, none⟩ = some (.int .i64 n) ∧ W.cell? ⟨g, 5, none⟩ = some (.slice a.A1 n1 a.c1) ∧ W.cell? ⟨g, 1, none⟩ = some (.slice F.Ac F.p.cs.length F.cc) ∧ W.cell? ⟨g, 3, none⟩ = some (.slice F.Aa F.args.length F.ca) from by
    have hb := H.out.blk.below_all hW
    have hi := kI.out.below_all hW
    exact ⟨hi.cell 0, hi.cell 1, by rw [hn1.out]; exact hb.cell 5, hb.cell 1, hb.cell 3⟩))
  clear h hB0 hn
  go_enter Tryz.func102, Tryz.ntmps102
  go_upto_region 1 with fail
  generalize w.alloc (.cells #[.int .i64 1, .int .i64 n] 69) = w1 at *
  obtain ⟨c0, c1, x5, x1, x3⟩ := hC.out _ (Below.refl _ _)
  rw [hp1.out] at c1
  generalize hvv : F.p.cs.getD p1 vl0 = v at *
  have hvv := hid hvv
  go_upto_region 4 with fail
  rw [hA] at x1
  obtain ⟨y0, y1, y2⟩ := hY.out _ (Below.refl _ _)
  go_still_tail 10, (by kernel_rfl)
  change wpList _ _ _ _ _ w1.drew
  have hD := hid ((Below.refl w1.heap.size w1).drew)
  go_wp2_with fail
  refine (push_any v ⟨a, H.out.keep hD.out, ha⟩ (by have := hnn.out; omega)).mono ?_
  rintro e w2 ⟨rfl, hgo⟩
  have hgo := hid ((hgo.pre hD.out H.out.lt).pre hB.out hlt.out)
  go_wp2_with fail
  refine ⟨rfl, .tuple #[], by simp [results, Tryz.results102, go_sem], rfl, ?_⟩
  rw [hv.out]
  exact hgo.out
set_option maxRecDepth 100000 in
set_option maxHeartbeats 4000000 in
theorem moves2 (n : Int) (h : MAt S w g F m) (hn : m.st.length ≤ 100) (hd : 0 ≤ n ∧ n < F.args.length) : Calls Tryz.prog 102 #[.pointer (some ⟨g, 0, none⟩), .agg #[.int .i64 2, .int .i64 n]] w fun e w' => e = .returned (.tuple #[]) ∧ MGo S w g F (movP F.p F.args m ⟨2, n⟩) w' := by
  have hlt := hid h.lt
  obtain ⟨a, h, ha⟩ := h
  have hB0 : Below w.heap.size w (w.alloc (.cells #[.int .i64 2, .int .i64 n] 69)) := (Below.refl _ _).alloc (Nat.le_refl _) _
  have kI := hid (Blk.new w 69 #[.int .i64 2, .int .i64 n])
  have H := hid (h.keep hB0)
  have hB := hid hB0
  have hnn := hid hn
  obtain ⟨n1, hn1⟩ : ∃ n1, Hid (n1 = m.st.length) := ⟨_, hid rfl⟩
  obtain ⟨p1, hp1⟩ : ∃ p1 : Nat, Hid (n = p1) := ⟨n.toNat, hid (by omega)⟩
  obtain ⟨b, o, hA, hY0⟩ := row_at H.out.args (j := p1) (by have := hp1.out; omega)
  have hY := hid hY0
  have i2 : (p1 : Int) < (F.args.length : Int) := by have := hp1.out; omega
  have i3 : p1 < F.args.length := by omega
  have hv : Hid (movP F.p F.args m ⟨2, n⟩ = { m with st := F.args.getD p1 vl0 :: m.st }) := hid (by rw [hp1.out]; rfl)
  clear hY0 hd
  have hC := hid (fun W (hW : Below (w.alloc (.cells #[.int .i64 2, .int .i64 n] 69)).heap.size (w.alloc (.cells #[.int .i64 2, .int .i64 n] 69)) W) => (show W.cell? ⟨w.heap.size, 0, none⟩ = some (.int .i64 2) ∧ W.cell? ⟨w.heap.size, 1, none⟩ = some (.int .i64 n) ∧ W.cell? ⟨g, 5, none⟩ = some (.slice a.A1 n1 a.c1) ∧ W.cell? ⟨g, 1, none⟩ = some (.slice F.Ac F.p.cs.length F.cc) ∧ W.cell? ⟨g, 3, none⟩ = some (.slice F.Aa F.args.length F.ca) from by
    have hb := H.out.blk.below_all hW
    have hi := kI.out.below_all hW
    exact ⟨hi.cell 0, hi.cell 1, by rw [hn1.out]; exact hb.cell 5, hb.cell 1, hb.cell 3⟩))
  clear h hB0 hn
  go_enter Tryz.func102, Tryz.ntmps102
  go_upto_region 1 with fail
  generalize w.alloc (.cells #[.int .i64 2, .int .i64 n] 69) = w1 at *
  obtain ⟨c0, c1, x5, x1, x3⟩ := hC.out _ (Below.refl _ _)
  rw [hp1.out] at c1
  generalize hvv : F.args.getD p1 vl0 = v at *
  have hvv := hid hvv
  go_upto_region 6 with fail
  rw [hA] at x3
  obtain ⟨y0, y1, y2⟩ := hY.out _ (Below.refl _ _)
  go_still_tail 9, (by kernel_rfl)
  change wpList _ _ _ _ _ w1.drew
  have hD := hid ((Below.refl w1.heap.size w1).drew)
  go_wp2_with fail
  refine (push_any v ⟨a, H.out.keep hD.out, ha⟩ (by have := hnn.out; omega)).mono ?_
  rintro e w2 ⟨rfl, hgo⟩
  have hgo := hid ((hgo.pre hD.out H.out.lt).pre hB.out hlt.out)
  go_wp2_with fail
  refine ⟨rfl, .tuple #[], by simp [results, Tryz.results102, go_sem], rfl, ?_⟩
  rw [hv.out]
  exact hgo.out
set_option maxRecDepth 100000 in
set_option maxHeartbeats 4000000 in
theorem moves5 (n : Int) (h : MAt S w g F m) (hn : m.st.length ≤ 100) (hd : 2 ≤ m.st.length) : Calls Tryz.prog 102 #[.pointer (some ⟨g, 0, none⟩), .agg #[.int .i64 5, .int .i64 n]] w fun e w' => e = .returned (.tuple #[]) ∧ MGo S w g F (movP F.p F.args m ⟨5, n⟩) w' := by
  have hlt := hid h.lt
  obtain ⟨a, h, ha⟩ := h
  have hB0 : Below w.heap.size w (w.alloc (.cells #[.int .i64 5, .int .i64 n] 69)) := (Below.refl _ _).alloc (Nat.le_refl _) _
  have kI := hid (Blk.new w 69 #[.int .i64 5, .int .i64 n])
  have H := hid (h.keep hB0)
  have hB := hid hB0
  have hnn := hid hn
  obtain ⟨n1, hn1⟩ : ∃ n1, Hid (n1 = m.st.length) := ⟨_, hid rfl⟩
  obtain ⟨p1, hp1⟩ : ∃ p1, Hid (p1 = m.st.length - 1) := ⟨_, hid rfl⟩
  obtain ⟨p2, hp2⟩ : ∃ p2, Hid (p2 = m.st.length - 2) := ⟨_, hid rfl⟩
  obtain ⟨b, o, hA, hY0⟩ := H.out.stk (k := 0) (j := p1) (by have := hp1.out; omega)
  obtain ⟨b', o', hA', hZ0⟩ := H.out.stk (k := 1) (j := p2) (by have := hp2.out; omega)
  rw [hA] at hA'
  injection hA' with hA'
  injection hA' with hA1 hA2
  subst hA1 hA2
  have hY := hid hY0
  have hZ := hid hZ0
  have i1 : IntKind.i64.wrap ((n1 : Int) - 1) = (p1 : Int) := by rw [IntKind.wrap_i64]; have := hp1.out; have := hn1.out; omega
  have i2 : (p1 : Int) < (n1 : Int) := by have := hp1.out; have := hn1.out; omega
  have i3 : p1 < n1 := by omega
  have j1 : IntKind.i64.wrap ((n1 : Int) - 2) = (p2 : Int) := by rw [IntKind.wrap_i64]; have := hp2.out; have := hn1.out; omega
  have j2 : (p2 : Int) < (n1 : Int) := by have := hp2.out; have := hn1.out; omega
  have j3 : p2 < n1 := by omega
  have hd9 := hid hd
  clear hY0 hZ0 hd
  have hC := hid (fun W (hW : Below (w.alloc (.cells #[.int .i64 5, .int .i64 n] 69)).heap.size (w.alloc (.cells #[.int .i64 5, .int .i64 n] 69)) W) => (show W.cell? ⟨w.heap.size, 0, none⟩ = some (.int .i64 5) ∧ W.cell? ⟨w.heap.size, 1, none⟩ = some (.int .i64 n) ∧ W.cell? ⟨g, 5, none⟩ = some (.slice a.A1 n1 a.c1) ∧ W.cell? ⟨g, 1, none⟩ = some (.slice F.Ac F.p.cs.length F.cc) ∧ W.cell? ⟨g, 3, none⟩ = some (.slice F.Aa F.args.length F.ca) from by
    have hb := H.out.blk.below_all hW
    have hi := kI.out.below_all hW
    exact ⟨hi.cell 0, hi.cell 1, by rw [hn1.out]; exact hb.cell 5, hb.cell 1, hb.cell 3⟩))
  clear h hB0 hn
  go_enter Tryz.func102, Tryz.ntmps102
  go_upto_region 1 with fail
  generalize w.alloc (.cells #[.int .i64 5, .int .i64 n] 69) = w1 at *
  obtain ⟨c0, c1, x5, x1, x3⟩ := hC.out _ (Below.refl _ _)
  rw [hA] at x5
  obtain ⟨y0, y1, y2⟩ := hY.out _ (Below.refl _ _)
  obtain ⟨z0, z1, z2⟩ := hZ.out _ (Below.refl _ _)
  obtain ⟨r, hsv⟩ : ∃ r, Hid (m.st = m.st.getD 0 vl0 :: m.st.getD 1 vl0 :: r) := by
    have h9 := hd9.out
    cases hm : m.st with
    | nil => rw [hm] at h9; simp at h9
    | cons x l =>
      cases l with
      | nil => rw [hm] at h9; simp at h9
      | cons y l => exact ⟨l, hid rfl⟩
  have hmv : Hid (movP F.p F.args m ⟨5, n⟩ = { m with st := m.st.getD 1 vl0 :: m.st.getD 0 vl0 :: r }) := hid (by
    have h9 := hsv.out
    unfold movP
    rw [if_neg (by show ¬ (5 : Int) = 1; decide), if_neg (by show ¬ (5 : Int) = 2; decide), if_neg (by show ¬ (5 : Int) = 3; decide), if_neg (by show ¬ (5 : Int) = 4; decide), if_pos rfl]
    generalize m.st.getD 0 vl0 = v at *
    generalize m.st.getD 1 vl0 = u at *
    rw [h9])
  generalize m.st.getD 0 vl0 = v at *
  generalize m.st.getD 1 vl0 = u at *
  obtain ⟨cur, hcur⟩ := own_blk (q := b) H.out.st (by rw [hA]; rfl)
  have fz := fun q => hcur.frozen q
  have n00 : ¬ (o + p1 * 3 = o + p2 * 3) := by have := hp1.out; have := hp2.out; have := hn1.out; have := hd9.out; omega
  have n00x : ¬ (o + p2 * 3 = o + p1 * 3) := fun e => n00 e.symm
  have n01 : ¬ (o + p1 * 3 = o + p2 * 3 + 1) := by have := hp1.out; have := hp2.out; have := hn1.out; have := hd9.out; omega
  have n01x : ¬ (o + p2 * 3 + 1 = o + p1 * 3) := fun e => n01 e.symm
  have n02 : ¬ (o + p1 * 3 = o + p2 * 3 + 2) := by have := hp1.out; have := hp2.out; have := hn1.out; have := hd9.out; omega
  have n02x : ¬ (o + p2 * 3 + 2 = o + p1 * 3) := fun e => n02 e.symm
  have n10 : ¬ (o + p1 * 3 + 1 = o + p2 * 3) := by have := hp1.out; have := hp2.out; have := hn1.out; have := hd9.out; omega
  have n10x : ¬ (o + p2 * 3 = o + p1 * 3 + 1) := fun e => n10 e.symm
  have n11 : ¬ (o + p1 * 3 + 1 = o + p2 * 3 + 1) := by have := hp1.out; have := hp2.out; have := hn1.out; have := hd9.out; omega
  have n11x : ¬ (o + p2 * 3 + 1 = o + p1 * 3 + 1) := fun e => n11 e.symm
  have n12 : ¬ (o + p1 * 3 + 1 = o + p2 * 3 + 2) := by have := hp1.out; have := hp2.out; have := hn1.out; have := hd9.out; omega
  have n12x : ¬ (o + p2 * 3 + 2 = o + p1 * 3 + 1) := fun e => n12 e.symm
  have n20 : ¬ (o + p1 * 3 + 2 = o + p2 * 3) := by have := hp1.out; have := hp2.out; have := hn1.out; have := hd9.out; omega
  have n20x : ¬ (o + p2 * 3 = o + p1 * 3 + 2) := fun e => n20 e.symm
  have n21 : ¬ (o + p1 * 3 + 2 = o + p2 * 3 + 1) := by have := hp1.out; have := hp2.out; have := hn1.out; have := hd9.out; omega
  have n21x : ¬ (o + p2 * 3 + 1 = o + p1 * 3 + 2) := fun e => n21 e.symm
  have n22 : ¬ (o + p1 * 3 + 2 = o + p2 * 3 + 2) := by have := hp1.out; have := hp2.out; have := hn1.out; have := hd9.out; omega
  have n22x : ¬ (o + p2 * 3 + 2 = o + p1 * 3 + 2) := fun e => n22 e.symm
  go_upto_region 12 with fail
  go_region
  have hsw := hid (H.out.swapped hA hsv.out hp1.out hp2.out)
  go_wp2_with fail
  refine ⟨rfl, .tuple #[], by simp [results, Tryz.results102, go_sem], rfl, ?_⟩
  rw [hmv.out]
  exact (hsw.out ha).pre hB.out hlt.out
end
end Go.Proofs.YtdmogoaaecdbaaaGreatDoor

namespace Go.Proofs.YtdmogoaaecdbaaaGreatDoor
open Go.RowKit
set_option linter.unusedVariables false
set_option linter.unusedSimpArgs false

theorem info_strI : (Tryz.prog.info? 9).map (fun i => (i.zero, i.size, i.bytes)) = some (some (.string ⟨#[]⟩), 1, 16) := by kernel_rfl
/-- what the source answers -/
def rawV (src : List Kv) (k : ByteArray) : Vl := match src.find? fun x => decide (x.1 = k) with | some x => x.2 | none => vl0
theorem srcV_raw (src : List Kv) (k : ByteArray) : srcV src k = if (rawV src k).ok = true then rawV src k else vl0 := by
  unfold srcV rawV
  cases src.find? fun x => decide (x.1 = k) <;> rfl
theorem find_here {α : Type} {p : α → Bool} : ∀ {l : List α} {i : Nat} (hi : i < l.length), (∀ j (hj : j < i), p (l[j]'(by omega)) = false) → p l[i] = true → l.find? p = some l[i]
  | x :: l, 0, _, _, h => by simpa using List.find?_cons_of_pos (l := l) h
  | x :: l, i + 1, hi, h0, h => by
    rw [List.find?_cons_of_neg (by have := h0 0 (by omega); simpa using this)]
    exact find_here (l := l) (i := i) (by simpa using hi) (fun j hj => by have := h0 (j + 1) (by omega); simpa using this) (by simpa using h)
theorem srcCells_at {l : List Kv} {k : Nat} (hk : k < l.length) : (srcCells l)[k * 4]? = some (.string l[k].1) ∧ (srcCells l)[k * 4 + 1]? = some (.int .i64 l[k].2.k) ∧ (srcCells l)[k * 4 + 2]? = some (.int .i64 l[k].2.n) ∧ (srcCells l)[k * 4 + 3]? = some (.string l[k].2.s) := by
  have g := fun j (hj : j < 4) u (hu : ([Value.string l[k].1, .int .i64 l[k].2.k, .int .i64 l[k].2.n, .string l[k].2.s])[j]? = some u) => (show (srcCells l)[k * 4 + j]? = some u from by
    unfold srcCells
    rw [flat_at (fun x : Kv => [Value.string x.1, .int .i64 x.2.k, .int .i64 x.2.n, .string x.2.s]) 4 (fun _ => rfl) l k j hk hj]; exact hu)
  exact ⟨g 0 (by omega) _ rfl, g 1 (by omega) _ rfl, g 2 (by omega) _ rfl, g 3 (by omega) _ rfl⟩
section
variable {S : Nat → Prop} {w w' w1 : World} {g : Nat} {F : Fr} {m m' : Mc}
theorem MIn.askd {a : Ad} {k : ByteArray} {A3 : Option Addr} {c3 : Nat} {w1 w3 : World} (h : MIn S w g F m a) (hb : Below w.heap.size w w1) (hu : Upd (fun q => (Value.slice a.A4 m.reads.length a.c4).ownBlock = some q) w1 w3) (ho : w3.ownsRow 0 9 1 (Value.slice A3 (m.reads.length + 1) c3) (m.reads.length + 1) (strs m.reads ++ [.string k])) (hat : (Value.slice A3 (m.reads.length + 1) c3).ownBlock = (Value.slice a.A4 m.reads.length a.c4).ownBlock ∨ ∃ k9, w1.heap.size ≤ k9 ∧ (Value.slice A3 (m.reads.length + 1) c3).ownBlock = some k9) {W5 : World} (h5 : Upd (fun q => w.heap.size ≤ q ∧ q < w1.heap.size) (w3.setCell ⟨F.sb, 1, none⟩ (.slice A3 (m.reads.length + 1) c3)) W5) :
    ∃ S', MIn S' W5 g F { m with reads := m.reads ++ [k] } { a with A4 := A3, c4 := c3 } ∧ (∀ q, S' q → S q ∨ w1.heap.size ≤ q) ∧ (∀ q, S q → S' q) ∧ Upd S w W5 := by
  have hs1 := hb.size
  have hgl := h.lt F.sb h.inS.2.1
  have h1 := h.keep hb
  have hgo : ¬ (Value.slice a.A4 m.reads.length a.c4).ownBlock = some F.sb := fun e => by
    obtain ⟨cur, hc⟩ := own_blk h.asked e
    exact absurd (blk_ty hc h.sblk) (by decide)
  have g3 : Blk w3 F.sb 50 (sCells F m a) := h1.sblk.upd hu hgo
  have hng : ∀ q, (Value.slice A3 (m.reads.length + 1) c3).ownBlock = some q → q ≠ F.sb := fun q e e2 => by
    rcases hat with h3 | ⟨k9, hk, h3⟩
    · exact hgo (by rw [← h3, e, e2])
    · rw [h3] at e; injection e with e; omega
  have hlt : ∀ q, (Value.slice A3 (m.reads.length + 1) c3).ownBlock = some q → q < w3.heap.size := fun q e => (ho.lt q e).2
  have hl2 : (Value.slice A3 (m.reads ++ [k]).length c3) = (Value.slice A3 (m.reads.length + 1) c3) := by simp
  have hs5 : w3.heap.size ≤ W5.heap.size := by have := h5.size; simpa using this
  have U : Upd (fun q => q = F.sb ∨ (Value.slice a.A4 m.reads.length a.c4).ownBlock = some q) w W5 := by
    refine Upd.trans ?_ h5 fun b hb e => absurd e.1 (by omega)
    refine Upd.setCell (p := ⟨F.sb, 1, none⟩) ?_ (fun _ => .inl rfl) _
    exact (Upd.of_below' hb (fun q => q = F.sb ∨ (Value.slice a.A4 m.reads.length a.c4).ownBlock = some q)).trans hu fun b _ e => .inr e
  have hs3 := hu.size
  refine ⟨fun q => S q ∨ (Value.slice A3 (m.reads.length + 1) c3).ownBlock = some q, h.onAsk U (fun q _ e => e) (fun q hq => .inl hq) (fun q hq => ?_) (fun q hq => ?_) ?_ ?_, fun q hq => ?_, fun q hq => .inl hq, ?_⟩
  · rcases hq with hq | hq
    · exact .inl hq
    · rcases hat with e | ⟨k9, hk, e⟩
      · exact .inl (h.asked.2 q (e ▸ hq))
      · rw [e] at hq; injection hq with hq; right; omega
  · rcases hq with hq | hq
    · have := h.lt q hq; omega
    · have := hlt q hq; omega
  · have := (g3.set_ 1 (.slice A3 (m.reads.length + 1) c3)).upd h5 (fun e => by omega)
    simpa [sCells] using this
  · rw [hl2]
    refine ⟨?_, fun q hq => .inr hq⟩
    have hx : (strs m.reads ++ [.string k]) = strs (m.reads ++ [k]) := by unfold strs; simp
    rw [show (m.reads ++ [k]).length = m.reads.length + 1 from by simp, ← hx]
    exact own_keepI (own_keepI ho fun q hq => Below.heap_setCell w3 _ _ q fun e => hng q hq e) fun q hq => by
      refine h5.block q (by have := hlt q hq; simpa using this) fun e => ?_
      rcases hat with e3 | ⟨k, hk, e3⟩
      · have := h.lt q (h.asked.2 q (e3 ▸ hq)); omega
      · rw [e3] at hq; injection hq with hq; omega
  · rcases hq with hq | hq
    · exact .inl hq
    · rcases hat with e | ⟨k9, hk, e⟩
      · exact .inl (h.asked.2 q (e ▸ hq))
      · rw [e] at hq; injection hq with hq; right; omega
  · exact ⟨U.os, U.tape, U.output, U.size, fun k9 hk hS => U.block k9 hk fun e => by
      rcases e with e | e
      · exact hS (e ▸ h.inS.2.1)
      · exact hS (h.asked.2 k9 e)⟩
set_option maxRecDepth 100000 in
set_option maxHeartbeats 4000000 in
theorem iget_any {a : Ad} (k : ByteArray) (h : MIn S w g F m a) (hn : m.reads.length ≤ 1000000) (hl : F.src.length ≤ 1000000) : Calls Tryz.prog 24 #[.pointer (some ⟨F.sb, 0, none⟩), .string k] w fun e w' => e = .returned (.agg #[.int .i64 (rawV F.src k).k, .int .i64 (rawV F.src k).n, .string (rawV F.src k).s]) ∧ ∃ S' a', MIn S' w' g F { m with reads := m.reads ++ [k] } a' ∧ a'.rs = a.rs ∧ (∀ q, S' q → S q ∨ w.heap.size ≤ q) ∧ (∀ q, S q → S' q) ∧ Upd S w w' := by
  have hB0 : Below w.heap.size w (w.alloc (.cells #[.int .i64 0, .int .i64 0, .string ⟨#[]⟩] 55)) := (Below.refl _ _).alloc (Nat.le_refl _) _
  have kr := hid (Blk.new w 55 #[.int .i64 0, .int .i64 0, .string ⟨#[]⟩])
  have H1 := hid (h.keep hB0)
  have H := hid h
  have hB := hid hB0
  have hnn := hid hn
  have hll := hid hl
  obtain ⟨i0, hi0, hz0, hz1, hz2⟩ := info_parts info_strI
  clear h hB0 hn hl
  go_enter Tryz.func24, Tryz.ntmps24
  go_upto_region 1 with fail
  have hs1 : Hid ((w.alloc (.cells #[.int .i64 0, .int .i64 0, .string ⟨#[]⟩] 55)).heap.size = w.heap.size + 1) := hid (by simp)
  generalize w.alloc (.cells #[.int .i64 0, .int .i64 0, .string ⟨#[]⟩] 55) = w1 at *
  have hgo : Hid (¬ (Value.slice a.A4 m.reads.length a.c4).ownBlock = some F.sb) := hid fun e => by
    obtain ⟨cur, hc⟩ := own_blk H.out.asked e
    exact absurd (blk_ty hc H.out.sblk) (by decide)
  have hro : Hid (¬ (Value.slice a.A4 m.reads.length a.c4).ownBlock = some w.heap.size) := hid fun e => by
    have := H.out.lt _ (H.out.asked.2 _ e)
    omega
  have x1 : w1.cell? ⟨F.sb, 1, none⟩ = some (.slice a.A4 m.reads.length a.c4) := H1.out.sblk.cell 1
  go_wp2_with (
    at_builtin
    refine wpList_append_rd _ rfl (.tmp 10) (.tmp 12) 25 rfl 0 9 i0 _ 1 16 Tryz.underlying25 hi0 hz0 hz1 hz2 rfl (by omega) (.slice a.A4 m.reads.length a.c4) m.reads.length (strs m.reads) rfl (H1.out.asked.1.alloc _) (fun b => b = w1.heap.size) (some ⟨w1.heap.size, 0, none⟩) 1 1 #[.string k].toList rfl (Rd.new w1 9 1 1 #[.string k] w1.heap.size rfl rfl) (by intro v hv; simp at hv; rcases hv with rfl; rfl) (by have := hnn.out; simp only [maxLen]; omega) (by have := hnn.out; omega) (Nat.zero_le _) ?_
    intro v3 w3 hown3 hg3 hat3
    obtain ⟨A3, c3, rfl, hc3, _⟩ := own_form hown3
    have hu9 : Hid (Upd (fun q => (Value.slice a.A4 m.reads.length a.c4).ownBlock = some q) w1 w3) := hid (((Upd.refl _ w1).alloc _).grown hg3 fun q hq _ => hq)
    have hO3 := hid hown3
    have hat9 : Hid ((Value.slice A3 (m.reads.length + 1) c3).ownBlock = (Value.slice a.A4 m.reads.length a.c4).ownBlock ∨ ∃ k9, w1.heap.size ≤ k9 ∧ (Value.slice A3 (m.reads.length + 1) c3).ownBlock = some k9) := hid (by
      rcases hat3 with e | e
      · exact .inl e
      · exact .inr ⟨_, by simp, e⟩)
    have r4 : w3.cell? ⟨F.sb, 1, none⟩ = some (.slice a.A4 m.reads.length a.c4) := (H1.out.sblk.upd hu9.out hgo.out).cell 1
    have q4 : w3.frozen? ⟨F.sb, 1, none⟩ = false := (H1.out.sblk.upd hu9.out hgo.out).frozen 1
    have kr3 := hid (kr.out.upd hu9.out hro.out)
    clear hg3 hat3 hown3)
  have hfin : Hid (∀ u0 u1 u2 : Value, ∃ S' a', MIn S' ((((w3.setCell ⟨F.sb, 1, none⟩ (.slice A3 (m.reads.length + 1) c3)).setCell ⟨w.heap.size, 0, none⟩ u0).setCell ⟨w.heap.size, 1, none⟩ u1).setCell ⟨w.heap.size, 2, none⟩ u2) g F { m with reads := m.reads ++ [k] } a' ∧ a'.rs = a.rs ∧ (∀ q, S' q → S q ∨ w.heap.size ≤ q) ∧ (∀ q, S q → S' q) ∧ Upd S w ((((w3.setCell ⟨F.sb, 1, none⟩ (.slice A3 (m.reads.length + 1) c3)).setCell ⟨w.heap.size, 0, none⟩ u0).setCell ⟨w.heap.size, 1, none⟩ u1).setCell ⟨w.heap.size, 2, none⟩ u2)) := hid fun u0 u1 u2 => by
    obtain ⟨S', h1, h2, h3, h4⟩ := H.out.askd (k := k) hB.out hu9.out hO3.out hat9.out ((((Upd.refl (fun q => w.heap.size ≤ q ∧ q < w1.heap.size) (w3.setCell ⟨F.sb, 1, none⟩ (.slice A3 (m.reads.length + 1) c3))).setCell (p := ⟨w.heap.size, 0, none⟩) (fun _ => ⟨Nat.le_refl _, by show w.heap.size < w1.heap.size; have := hs1.out; omega⟩) u0).setCell (p := ⟨w.heap.size, 1, none⟩) (fun _ => ⟨Nat.le_refl _, by show w.heap.size < w1.heap.size; have := hs1.out; omega⟩) u1).setCell (p := ⟨w.heap.size, 2, none⟩) (fun _ => ⟨Nat.le_refl _, by show w.heap.size < w1.heap.size; have := hs1.out; omega⟩) u2)
    exact ⟨S', _, h1, rfl, fun q hq => (h2 q hq).imp id (fun e => Nat.le_trans hB.out.size e), h3, h4⟩
  obtain ⟨S', hM, _, _, _⟩ := H.out.askd (k := k) hB.out hu9.out hO3.out hat9.out (Upd.refl _ _)
  have hM := hid hM
  have hsr : ¬ (F.sb = w.heap.size) := by have := H.out.lt _ H.out.inS.2.1; omega
  have kr4 := hid (kr3.out.far (p := ⟨F.sb, 1, none⟩) (fun e => hsr e.symm) (.slice A3 (m.reads.length + 1) c3))
  clear r4 q4 kr3 kr x1 H1 hu9 hO3 hat9 hsr hgo hro
  generalize (w3.setCell ⟨F.sb, 1, none⟩ (.slice A3 (m.reads.length + 1) c3)) = w4 at *
  have z0 := kr4.out.cell 0
  have z1 := kr4.out.cell 1
  have z2 := kr4.out.cell 2
  simp only [List.getElem?_toArray, List.getElem?_cons_zero, List.getElem?_cons_succ] at z0 z1 z2
  have fz := fun q => kr4.out.frozen q
  have x0 : w4.cell? ⟨F.sb, 0, none⟩ = some (.slice F.Al F.src.length F.cl) := hM.out.sblk.cell 0
  go_upto_region 3 with fail
  go_loopw [5] (fun v wr => ∃ i : Nat, v = .int .i64 i ∧ wr = w4 ∧ i ≤ F.src.length ∧ ∀ j (hj : j < i) (hj2 : j < F.src.length), F.src[j].1 ≠ k) (fun v _ => F.src.length - (intOf v).toNat)
  case atStart => exact ⟨0, rfl, rfl, Nat.zero_le _, fun j hj => by omega⟩
  case round =>
    obtain ⟨i, rfl, hwr, hil, hno0⟩ := hrel
    obtain rfl := hwr.symm
    have hno := hid hno0
    clear hno0
    by_cases hlt : i < F.src.length
    · have i1 : (i : Int) < (F.src.length : Int) := by omega
      have i2 : IntKind.i64.wrap ((i : Int) + 1) = (i : Int) + 1 := by rw [IntKind.wrap_i64]; have := hll.out; omega
      obtain ⟨c1, c2, c3, c4⟩ := srcCells_at hlt
      obtain ⟨b9, o9, hA9, _, _, hc⟩ := hM.out.src.at_ hlt
      have y0 := hc _ _ c1
      have y1 := hc _ _ c2
      have y2 := hc _ _ c3
      have y3 := hc _ _ c4
      simp only [← Nat.add_assoc] at y1 y2 y3
      clear hc c1 c2 c3 c4
      rw [hA9] at x0
      have hfd := hid (fun (h : F.src[i].1 = k) => find_here (p := fun x : Kv => decide (x.1 = k)) hlt (fun j hj => decide_eq_false (hno.out j hj (by omega))) (decide_eq_true h))
      have hno2 := hid (fun (h : F.src[i].1 ≠ k) j (hj : j < i + 1) (hj2 : j < F.src.length) => (show F.src[j].1 ≠ k from by
        by_cases e : j = i
        · subst e; exact h
        · exact hno.out j (by omega) hj2))
      generalize F.src[i] = x at *
      have hlt9 := hid hlt
      clear hlt hil
      by_cases he : x.1 = k
      · have t0 : (x.1.toList == k.toList) = true := by rw [bytes_dec]; exact decide_eq_true he
        have t2 : decide (x.1 = k) = true := decide_eq_true he
        have hres : Hid (rawV F.src k = x.2) := hid (by unfold rawV; rw [hfd.out he])
        have he := hid he
        go_wp2_with fail
        refine bodyPost_ret (v := .agg #[.int .i64 x.2.k, .int .i64 x.2.n, .string x.2.s]) ?_ rfl ⟨by rw [hres.out], ?_⟩
        · exact results_cell_row (P := Tryz.prog) rfl _ _ w.heap.size 55 _ (0, 0) _ rfl (show Blk _ _ _ #[.int .i64 x.2.k, .int .i64 x.2.n, .string x.2.s] from by simpa using ((kr4.out.set_ 0 _).set_ 1 _).set_ 2 _) Tryz.underlying55 rfl (by kernel_rfl)
        · exact hfin.out _ _ _
      · have t0 : (x.1.toList == k.toList) = false := by rw [bytes_dec]; exact decide_eq_false he
        have t2 : decide (x.1 = k) = false := decide_eq_false he
        have he := hid he
        go_wp2_with fail
        go_roundw
        case rel => exact ⟨i + 1, by go_num, by first | exact rfl | trivial, hlt9.out, hno2.out he.out⟩
        case measure => simp [intOf]; have := hlt9.out; omega
    · obtain rfl : i = F.src.length := by omega
      have hres : Hid (rawV F.src k = vl0) := hid (by
        unfold rawV
        rw [List.find?_eq_none.2]
        intro x hx
        obtain ⟨j, hj, e⟩ := List.mem_iff_getElem.1 hx
        have := hno.out j hj hj
        rw [e] at this
        simpa using this)
      go_wp2_with fail
      refine bodyPost_ret (v := .agg #[.int .i64 0, .int .i64 0, .string ⟨#[]⟩]) ?_ rfl ⟨by rw [hres.out]; rfl, ?_⟩
      · exact results_cell_row (P := Tryz.prog) rfl _ _ w.heap.size 55 _ (0, 0) _ rfl (show Blk _ _ _ #[.int .i64 0, .int .i64 0, .string ⟨#[]⟩] from by simpa using ((kr4.out.set_ 0 _).set_ 1 _).set_ 2 _) Tryz.underlying55 rfl (by kernel_rfl)
      · exact hfin.out _ _ _
end
end Go.Proofs.YtdmogoaaecdbaaaGreatDoor

namespace Go.Proofs.YtdmogoaaecdbaaaGreatDoor
open Go.RowKit
set_option linter.unusedVariables false
set_option linter.unusedSimpArgs false

section
variable {P : Program} {k e t : TypeId} {κ : Type} [DecidableEq κ] {E : KeyEnc P k κ} {w : World} {b : Nat} {D : κ → Option Value}
theorem MapF.lookup_ok (h : MapF E w b D) (ht : P.underlying t = some (.map k e)) {z : Value} (hz : ∀ w, (zeroValue e).run P w = .ok z w) (x : κ) :
    (Instr.lookup t (.map (some b)) (E.enc x) true).run P w = .ok (.tuple #[(D x).getD z, .bool (D x).isSome]) w := by
  obtain ⟨l, h, h2⟩ := h
  rw [h.lookup_ok ht hz x, h2]
theorem MapIs.keys_perm {l : List (κ × Value)} (h : MapIs E w b l) (hd : ∀ x, getK x l = D x) {ks : List κ} (hn : ks.Nodup) (hk : ∀ x, x ∈ ks ↔ (D x).isSome = true) : (l.map (·.1)).Perm ks :=
  (List.perm_ext_iff_of_nodup h.nodup hn).2 fun x => by
    rw [hk, ← hd]
    constructor
    · intro hx
      obtain ⟨p, hp, rfl⟩ := List.mem_map.1 hx
      rw [(getK_mem h.nodup).2 (show (p.1, p.2) ∈ l from hp)]; rfl
    · intro hx
      obtain ⟨v, hv⟩ := Option.isSome_iff_exists.1 hx
      exact List.mem_map.2 ⟨_, (getK_mem h.nodup).1 hv, rfl⟩
end
theorem zeroI (w : World) : (zeroValue 3).run Tryz.prog w = .ok (.int .i64 0) w := by kernel_rfl
theorem zeroW (w : World) : (zeroValue 57).run Tryz.prog w = .ok (.agg #[.string ⟨#[]⟩, .bool false, .int .i64 0, .int .i64 0, .string ⟨#[]⟩]) w := by kernel_rfl
theorem memB_count {k : ByteArray} {rs : List ByteArray} : (memB k rs = true → 0 < cntK k rs) ∧ (memB k rs = false → cntK k rs = 0) := by
  constructor
  · intro h; exact List.countP_pos_iff.2 ⟨k, memB_iff.1 h, by simp⟩
  · intro h; exact List.countP_eq_zero.2 fun j hj e => by rw [memB_iff.2 (of_decide_eq_true e ▸ hj)] at h; cases h
theorem drd_val (rs : List ByteArray) (k : ByteArray) : (Drd rs k).getD (.int .i64 0) = .int .i64 (cntK k rs : Nat) := by
  unfold Drd
  cases h : memB k rs with
  | true => rfl
  | false => rw [memB_count.2 h]; rfl
section
variable {S : Nat → Prop} {w w' w1 : World} {g : Nat} {F : Fr} {m m' : Mc} {a : Ad}
theorem MIn.lkR (h : MIn S w g F m a) (k : ByteArray) {W : World} (hW : Below w.heap.size w W) : (Instr.lookup 94 (.map (some a.rm)) (.string k) false).run Tryz.prog W = .ok (.int .i64 (cntK k a.rs : Nat)) W := by
  have h1 := (h.rm.below hW).lookup Tryz.underlying94 zeroI k
  rw [drd_val] at h1
  exact h1
theorem MIn.lkW (h : MIn S w g F m a) (k : ByteArray) {W : World} (hW : Below w.heap.size w W) : (Instr.lookup 95 (.map (some a.wm)) (.string k) true).run Tryz.prog W = .ok (.tuple #[(Dwr m.writes k).getD (.agg #[.string ⟨#[]⟩, .bool false, .int .i64 0, .int .i64 0, .string ⟨#[]⟩]), .bool (Dwr m.writes k).isSome]) W := (h.wm.below hW).lookup_ok Tryz.underlying95 zeroW k
theorem MIn.lenR (h : MIn S w g F m a) (ty : TypeId) {W : World} (hW : Below w.heap.size w W) : (Builtin.len_ #[94] ty #[.map (some a.rm)]).run Tryz.prog W = .ok (.int .i64 (uniq a.rs).length) W := (h.rm.below hW).len Tryz.underlying94 ty (uniq a.rs) (uniq_nodup _) fun x => by
  rw [uniq_mem, ← memB_iff]
  unfold Drd
  cases memB x a.rs <;> simp
theorem dwr_some (ws : List Wr) (x : ByteArray) : (Dwr ws x).isSome = hasW x ws := by
  unfold Dwr
  cases h : getW x ws with
  | none => rw [getW_none.1 h]; rfl
  | some y =>
    have := getW_some h
    rw [hasW_mem.2 (List.mem_map.2 ⟨y, this.1, this.2⟩)]
    rfl
theorem MIn.lenW (h : MIn S w g F m a) (hn : (m.writes.map (·.key)).Nodup) (ty : TypeId) {W : World} (hW : Below w.heap.size w W) : (Builtin.len_ #[95] ty #[.map (some a.wm)]).run Tryz.prog W = .ok (.int .i64 m.writes.length) W := by
  have h1 := (h.wm.below hW).len Tryz.underlying95 ty (m.writes.map (·.key)) hn fun x => by rw [dwr_some]; exact hasW_mem.symm
  rw [List.length_map] at h1
  exact h1
/-- what room comes to -/
def roomEnd (b : Bool) : Ending := if b = true then .returned (.tuple #[]) else .panicked [{ v := .iface 92 (.agg #[.int .i64 78, .int .i64 0]), recovered := false }]
set_option maxRecDepth 100000 in
set_option maxHeartbeats 2000000 in
/-- a key that is written, or read -/
theorem room_has (k : ByteArray) (h : MIn S w g F m a) (hr : hasW k m.writes = true) : Calls Tryz.prog 179 #[.pointer (some ⟨g, 0, none⟩), .string k] w fun e w' => e = .returned (.tuple #[]) ∧ Below w.heap.size w w' := by
  obtain ⟨x, hx⟩ : ∃ x, getW k m.writes = some x := by
    cases hg : getW k m.writes with
    | some x => exact ⟨x, rfl⟩
    | none => rw [getW_none.1 hg] at hr; cases hr
  have hB0 : Below w.heap.size w (w.alloc (.cells #[.string x.key, .bool x.gone, .int .i64 x.v.k, .int .i64 x.v.n, .string x.v.s] 57)) := (Below.refl _ _).alloc (Nat.le_refl _) _
  have hB := hid hB0
  have H := hid h
  have x11 : w.cell? ⟨g, 11, none⟩ = some (.map (some a.wm)) := h.blk.cell 11
  have lw := h.lkW k (Below.refl _ _)
  have e1 : Dwr m.writes k = some (wrV x) := by unfold Dwr; rw [hx]; rfl
  rw [e1] at lw
  replace lw : _ = Result.ok (Value.tuple #[.agg #[.string x.key, .bool x.gone, .int .i64 x.v.k, .int .i64 x.v.n, .string x.v.s], .bool true]) w := lw
  clear e1 hx hr
  clear hB0 h
  go_enter Tryz.func179, Tryz.ntmps179
  go_upto_region 1 with fail
  have x10 : (w.alloc (.cells #[.string x.key, .bool x.gone, .int .i64 x.v.k, .int .i64 x.v.n, .string x.v.s] 57)).cell? ⟨g, 10, none⟩ = some (.map (some a.rm)) := (H.out.blk.below_all hB.out).cell 10
  have lr := H.out.lkR k hB.out
  generalize w.alloc (.cells #[.string x.key, .bool x.gone, .int .i64 x.v.k, .int .i64 x.v.n, .string x.v.s] 57) = w1 at *
  cases hm : memB k a.rs with
  | true =>
    have t1 : decide ((0 : Int) < ((cntK k a.rs : Nat) : Int)) = true := decide_eq_true (by have := memB_count.1 hm; omega)
    have t1n : decide (0 < cntK k a.rs) = true := decide_eq_true (memB_count.1 hm)
    clear hm
    go_wp2_with fail
    refine bodyPost_ret (v := .tuple #[]) (by simp [results, Tryz.results179, go_sem]) rfl ⟨?_, hB.out⟩
    rfl
  | false =>
    rw [memB_count.2 hm] at lr
    clear hm
    go_wp2_with fail
    refine bodyPost_ret (v := .tuple #[]) (by simp [results, Tryz.results179, go_sem]) rfl ⟨?_, hB.out⟩
    rfl
set_option maxRecDepth 100000 in
set_option maxHeartbeats 2000000 in
theorem room_read_ (k : ByteArray) (h : MIn S w g F m a) (hw : hasW k m.writes = false) (hm : memB k a.rs = true) : Calls Tryz.prog 179 #[.pointer (some ⟨g, 0, none⟩), .string k] w fun e w' => e = .returned (.tuple #[]) ∧ Below w.heap.size w w' := by
  have hB0 : Below w.heap.size w (w.alloc (.cells #[.string ⟨#[]⟩, .bool false, .int .i64 0, .int .i64 0, .string ⟨#[]⟩] 57)) := (Below.refl _ _).alloc (Nat.le_refl _) _
  have hB := hid hB0
  have H := hid h
  have x11 : w.cell? ⟨g, 11, none⟩ = some (.map (some a.wm)) := h.blk.cell 11
  have lw := h.lkW k (Below.refl _ _)
  have e1 : Dwr m.writes k = none := by unfold Dwr; rw [getW_none.2 hw]; rfl
  rw [e1] at lw
  replace lw : _ = Result.ok (Value.tuple #[.agg #[.string ⟨#[]⟩, .bool false, .int .i64 0, .int .i64 0, .string ⟨#[]⟩], .bool false]) w := lw
  clear e1 hw
  clear hB0 h
  go_enter Tryz.func179, Tryz.ntmps179
  go_upto_region 1 with fail
  have x10 : (w.alloc (.cells #[.string ⟨#[]⟩, .bool false, .int .i64 0, .int .i64 0, .string ⟨#[]⟩] 57)).cell? ⟨g, 10, none⟩ = some (.map (some a.rm)) := (H.out.blk.below_all hB.out).cell 10
  have lr := H.out.lkR k hB.out
  generalize w.alloc (.cells #[.string ⟨#[]⟩, .bool false, .int .i64 0, .int .i64 0, .string ⟨#[]⟩] 57) = w1 at *
  have t1 : decide ((0 : Int) < ((cntK k a.rs : Nat) : Int)) = true := decide_eq_true (by have := memB_count.1 hm; omega)
  have t1n : decide (0 < cntK k a.rs) = true := decide_eq_true (memB_count.1 hm)
  clear hm
  go_wp2_with fail
  refine bodyPost_ret (v := .tuple #[]) (by simp [results, Tryz.results179, go_sem]) rfl ⟨?_, hB.out⟩
  rfl
theorem done_keys {es : Array MapEntry} {l : List (ByteArray × Value)} {ks out : List ByteArray} (hpr : pairs es.toList = encs strE l) (hp : (l.map (·.1)).Perm ks) (hd : ((pairs es.toList).map (·.1)).Perm (out.map Value.string)) : out.Perm ks := by
  rw [hpr] at hd
  have e : (encs strE l).map (·.1) = (l.map (·.1)).map Value.string := by unfold encs; rw [List.map_map, List.map_map]; rfl
  rw [e] at hd
  have h1 := hd.symm.trans (hp.map Value.string)
  have hinj : Function.Injective Value.string := fun a b h => by injection h
  exact encs_inj.perm_of_map hinj h1
theorem done_leI {κ : Type} [DecidableEq κ] {P : Program} {k : TypeId} {E : KeyEnc P k κ} {es : Array MapEntry} {seen : Array Nat} {l : List (κ × Value)} (hpr : pairs es.toList = encs E l) : (doneOf es seen).length ≤ l.length := by
  have h1 : (pairs es.toList).length = l.length := by rw [hpr]; simp [encs]
  have h2 : (doneOf es seen).length ≤ (pairs es.toList).length := by unfold doneOf pairs; simp only [List.length_map]; exact List.length_filter_le _ _
  omega
theorem filt_len {l m : List ByteArray} (p : ByteArray → Bool) (h : l.Perm m) : (l.filter p).length = (m.filter p).length := (h.filter p).length_eq
set_option maxRecDepth 100000 in
set_option maxHeartbeats 4000000 in
/-- a key more -/
theorem room_new (k : ByteArray) (h : MIn S w g F m a) (hw : hasW k m.writes = false) (hm : memB k a.rs = false) (hn : (m.writes.map (·.key)).Nodup) (hwl : m.writes.length ≤ 1000) (hrl : (uniq a.rs).length ≤ 1000) : Calls Tryz.prog 179 #[.pointer (some ⟨g, 0, none⟩), .string k] w fun e w' => e = roomEnd (decide (cntRW a.rs m.writes < 64)) ∧ Below w.heap.size w w' := by
  have hkn := hid hn
  have hwl9 := hid hwl
  have hrl9 := hid hrl
  clear hn hwl hrl
  have hB0 : Below w.heap.size w (w.alloc (.cells #[.string ⟨#[]⟩, .bool false, .int .i64 0, .int .i64 0, .string ⟨#[]⟩] 57)) := (Below.refl _ _).alloc (Nat.le_refl _) _
  have hB := hid hB0
  have H := hid h
  have x11 : w.cell? ⟨g, 11, none⟩ = some (.map (some a.wm)) := h.blk.cell 11
  have lw := h.lkW k (Below.refl _ _)
  have e1 : Dwr m.writes k = none := by unfold Dwr; rw [getW_none.2 hw]; rfl
  rw [e1] at lw
  replace lw : _ = Result.ok (Value.tuple #[.agg #[.string ⟨#[]⟩, .bool false, .int .i64 0, .int .i64 0, .string ⟨#[]⟩], .bool false]) w := lw
  clear e1 hw
  clear hB0 h
  go_enter Tryz.func179, Tryz.ntmps179
  go_upto_region 1 with fail
  have x10 : (w.alloc (.cells #[.string ⟨#[]⟩, .bool false, .int .i64 0, .int .i64 0, .string ⟨#[]⟩] 57)).cell? ⟨g, 10, none⟩ = some (.map (some a.rm)) := (H.out.blk.below_all hB.out).cell 10
  have lr := H.out.lkR k hB.out
  generalize w.alloc (.cells #[.string ⟨#[]⟩, .bool false, .int .i64 0, .int .i64 0, .string ⟨#[]⟩] 57) = w1 at *
  rw [memB_count.2 hm] at lr
  clear hm
  have hln := fun ty => H.out.lenR ty hB.out
  have x11 : w1.cell? ⟨g, 11, none⟩ = some (.map (some a.wm)) := (H.out.blk.below_all hB.out).cell 11
  obtain ⟨l, hml, hd⟩ := H.out.wm.below hB.out
  obtain ⟨es, clock, hes, hpr, hst⟩ := id hml
  have hrg := run_range_map (P := Tryz.prog) w1 95 9 57 a.wm es clock Tryz.underlying95 hes
  have hkp := hid (hml.keys_perm hd hkn.out fun x => by rw [dwr_some]; exact hasW_mem.symm)
  have hP := hid hpr
  have hS := hid hst
  have hE := hid hes
  have hvl := hid hml.lt
  have hlt1 := hid (Nat.le_refl w1.heap.size)
  clear hml hd hpr hst hes
  go_wp2_with fail
  go_loopw [6] (fun v wr => ∃ (seen : Array Nat) (c0 : Nat) (out : List ByteArray), v = .int .i64 (((uniq a.rs).length + (out.filter fun j => !memB j a.rs).length : Nat) : Int) ∧ wr.heap[w1.heap.size]? = some (.mapIter (some a.wm) clock seen c0) ∧ clock ≤ c0 ∧ Below w1.heap.size w1 wr ∧ ((doneOf es seen).map (·.1)).Perm (out.map Value.string)) (fun _ wr => (leftOf es (wr.iterSeen w1.heap.size)).size)
  case atStart => exact ⟨#[], clock, [], by simp, heap_alloc_new _ _, Nat.le_refl _, (Below.refl _ _).alloc (Nat.le_refl _) _, by rw [done_none]; exact List.Perm.nil⟩
  case round =>
    clear hrg hln
    obtain ⟨seen, c0, out, rfl, hr, hc0, hB0, hdone⟩ := hrel
    have hesr := (hB0.block _ hvl.out).trans hE.out
    have hseen0 := hid (seen_of hr)
    have hB1 := hid hB0
    rcases range_step (P := Tryz.prog) hr hesr hS.out hc0 with ⟨h0, hnx⟩ | ⟨e, wn, he, hns, hsh, hun, hszn, hrn, hesn, hnx, hent⟩
    · have hperm := hid (done_keys hP.out hkp.out (by rw [← done_all h0]; exact hdone))
      have hcn : Hid ((uniq a.rs).length + (out.filter fun j => !memB j a.rs).length = cntRW a.rs m.writes) := hid (by unfold cntRW; rw [filt_len _ hperm.out])
      obtain ⟨N, hNe⟩ : ∃ N, Hid (N = cntRW a.rs m.writes) := ⟨_, hid rfl⟩
      rw [hcn.out, ← hNe.out]
      have hfb := hid (hB.out.trans (hB1.out.mono hB.out.size))
      clear hr hesr hdone h0 hB0
      by_cases hN : N < 64
      · have t2 : decide ((N : Int) < 64) = true := decide_eq_true (by omega)
        have t2n : decide (N < 64) = true := decide_eq_true hN
        have hN := hid hN
        go_wp2_with fail
        refine (needs_t _ _).mono ?_
        rintro e wq ⟨rfl, hwq⟩
        obtain rfl := hwq.symm
        go_wp2_with fail
        refine ⟨rfl, .tuple #[], by simp [results, Tryz.results179, go_sem], ?_, hfb.out⟩
        unfold roomEnd
        rw [if_pos (decide_eq_true (by rw [← hNe.out]; exact hN.out))]
      · have t2 : decide ((N : Int) < 64) = false := decide_eq_false (by omega)
        have t2n : decide (N < 64) = false := decide_eq_false hN
        have hN := hid hN
        go_wp2_with fail
        refine (needs_f _ _ (by decide)).mono ?_
        rintro e wq ⟨rfl, hwq⟩
        obtain rfl := hwq.symm
        go_wp2_with fail
        refine ⟨rfl, ?_, hfb.out⟩
        unfold roomEnd
        rw [if_neg (by rw [← hNe.out]; simpa using hN.out)]
    · obtain ⟨p, hp, hek, hev⟩ := done_list (E := strE) (w := w1) (b := a.wm) (clock := clock) hP.out he
      obtain ⟨y, hy⟩ : ∃ y, y = p.1 := ⟨_, rfl⟩
      have hek : e.key = .string y := by rw [hek, hy]; rfl
      have hpush := hid ((List.Perm.map (fun x : Value × Value => x.1) (done_push hS.out.2.1 he hns)).trans (List.Perm.cons e.key hdone))
      have hBn : Below w1.heap.size w1 wn := hB0.trans (hun.below (B := w1.heap.size) hB0.size fun k hk e => by omega)
      have hHB := hid hBn
      have hHr := hid hrn
      have hsh' := hid hsh
      have hevv : ∃ ev, e.val = ev := ⟨_, rfl⟩
      obtain ⟨ev, hevv⟩ := hevv
      rw [hek, hevv] at hnx hent
      rw [hek] at hpush
      have lr : (Instr.lookup 94 (.map (some a.rm)) (.string y) false).run Tryz.prog wn = .ok (.int .i64 (cntK y a.rs : Nat)) wn := H.out.lkR y (hB.out.trans (hHB.out.mono hB.out.size))
      have x10 : wn.cell? ⟨g, 10, none⟩ = some (.map (some a.rm)) := (H.out.blk.below_all (hB.out.trans (hHB.out.mono hB.out.size))).cell 10
      have hol : Hid ((uniq a.rs).length + (out.filter fun j => !memB j a.rs).length < 1000000) := hid (by
        have h1 := hdone.length_eq
        rw [List.length_map, List.length_map] at h1
        have h2 := done_leI (E := strE) (seen := seen) hP.out
        have h3 := hkp.out.length_eq
        rw [List.length_map, List.length_map] at h3
        have h4 := List.length_filter_le (fun j => !memB j a.rs) out
        have := hwl9.out; have := hrl9.out
        omega)
      clear hp hevv hev hy hek hB0 hdone hr hesr hun hrn hesn hBn he hns hsh hszn
      obtain ⟨N, hN⟩ : ∃ N, Hid (N = (uniq a.rs).length + (out.filter fun j => !memB j a.rs).length) := ⟨_, hid rfl⟩
      rw [← hN.out] at hol ⊢
      cases hmy : memB y a.rs with
      | true =>
        have t1 : (((cntK y a.rs : Nat) : Int) == 0) = false := by have := memB_count.1 hmy; simp; omega
        have hmy := hid hmy
        go_wp2_with fail
        go_roundw
        case rel => exact ⟨seen.push e.born, clock, out ++ [y], by rw [hN.out, List.filter_append]; simp [hmy.out], hHr.out, Nat.le_refl _, hHB.out, by rw [List.map_append]; exact hpush.out.trans (List.perm_append_comm (l₁ := [Value.string y]) (l₂ := out.map Value.string))⟩
        case measure =>
          rw [seen_of hHr.out, hseen0.out]
          exact hsh'.out
      | false =>
        rw [memB_count.2 hmy] at lr
        have hmy := hid hmy
        have i2 : IntKind.i64.wrap ((N : Int) + 1) = (N : Int) + 1 := by rw [IntKind.wrap_i64]; have := hol.out; omega
        have hNl : (N : Int) ≤ 1000000 := by have := hol.out; omega
        go_wp2_with fail
        go_roundw
        case rel => exact ⟨seen.push e.born, clock, out ++ [y], by rw [List.filter_append, List.length_append, ← Nat.add_assoc, ← hN.out]; simp [hmy.out], hHr.out, Nat.le_refl _, hHB.out, by rw [List.map_append]; exact hpush.out.trans (List.perm_append_comm (l₁ := [Value.string y]) (l₂ := out.map Value.string))⟩
        case measure =>
          rw [seen_of hHr.out, hseen0.out]
          exact hsh'.out
/-- room -/
theorem room_any (k : ByteArray) (h : MIn S w g F m a) (ha : a.rs = m.reads) (ho : m.Ok0) : Calls Tryz.prog 179 #[.pointer (some ⟨g, 0, none⟩), .string k] w fun e w' => e = roomEnd (roomB m k) ∧ Below w.heap.size w w' := by
  cases hw : hasW k m.writes with
  | true =>
    have e : roomB m k = true := by unfold roomB; rw [hw]; simp
    rw [e]
    exact room_has k h hw
  | false =>
    cases hm : memB k a.rs with
    | true =>
      have e : roomB m k = true := by unfold roomB; rw [← ha, hm]; rfl
      rw [e]
      exact room_read_ k h hw hm
    | false =>
      have e : roomB m k = decide (cntRW a.rs m.writes < 64) := by unfold roomB; rw [← ha, hm, hw]; rfl
      rw [e]
      have := ho.rw_
      have h2 := ho.wl
      refine room_new k h hw hm ho.wn (by omega) ?_
      rw [ha]
      unfold cntRW at this
      omega
end
end Go.Proofs.YtdmogoaaecdbaaaGreatDoor


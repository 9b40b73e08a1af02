/- Texts of the proof, joined: IStep. -/
import Derived.Test.YtdmogoaaecdbaaaGreatDoorJ14
namespace Go.Proofs.YtdmogoaaecdbaaaGreatDoor
open Go.RowKit
set_option linter.unusedVariables false
set_option linter.unusedSimpArgs false

section
variable {S S2 : Nat → Prop} {w w' w5 : World} {g : Nat} {F : Fr} {m m' : Mc}
theorem moves_any (i : Is) (h : MAt S w g F m) (hn : m.st.length ≤ 100) (h1 : 1 ≤ i.op) (h6 : i.op ≤ 6) (hm : 0 ≤ i.n ∧ i.n < F.p.most i.op) (hl : F.p.args = F.args.length) (ht : takes i.op ≤ m.st.length) : Calls Tryz.prog 102 #[.pointer (some ⟨g, 0, none⟩), .agg #[.int .i64 i.op, .int .i64 i.n]] w fun e w' => e = .returned (.tuple #[]) ∧ MGo S w g F (movP F.p F.args m i) w' := by
  obtain ⟨op, n⟩ := i
  simp only at h1 h6 hm ht ⊢
  by_cases o1 : op = 1
  · subst o1; exact moves1 n h hn hm
  by_cases o2 : op = 2
  · subst o2
    have hm2 : 0 ≤ n ∧ n < F.p.args := hm
    rw [hl] at hm2
    exact moves2 n h hn hm2
  by_cases o3 : op = 3
  · subst o3
    have ht : (1 : Int) ≤ m.st.length := ht
    exact moves3 n h hn (by omega)
  by_cases o4 : op = 4
  · subst o4
    have ht : (1 : Int) ≤ m.st.length := ht
    exact moves4 n h hn (by omega)
  by_cases o5 : op = 5
  · subst o5
    have ht : (2 : Int) ≤ m.st.length := ht
    exact moves5 n h hn (by omega)
  obtain rfl : op = 6 := by omega
  have ht : (2 : Int) ≤ m.st.length := ht
  exact moves6 n h hn (by omega)
theorem MIn.num {a : Ad} {n f : Nat} (h : MIn S w g F m a) (hu : Upd (fun q => q = g) w w') (hb : Blk w' g 97 (mCells F { m with st := m.st, at_ := n, fuel := f } a)) : MIn S w' g F { m with st := m.st, at_ := n, fuel := f } a :=
  h.onSt hu (fun q _ e => .inl e) (fun q hq => hq) (fun q hq => .inl hq) (fun q hq => Nat.lt_of_lt_of_le (h.lt q hq) hu.size) (st' := m.st) (at' := n) (fu' := f) (A' := a.A1) (c' := a.c1) hb (h.st.keepO fun q hq => by
    obtain ⟨cur, hc⟩ := own_blk h.st hq
    exact hu.block q (Array.getElem?_eq_some_iff.1 hc).1 fun e => absurd (blk_ty (e ▸ hc) h.blk) (by decide)) h.ne
theorem upd_g (h : MAt S w g F m) (hu : Upd (fun q => q = g) w w') : Upd S w w' := by
  obtain ⟨a, h, _⟩ := h
  exact ⟨hu.os, hu.tape, hu.output, hu.size, fun k hk hS => hu.block k hk fun e => hS (e ▸ h.inS.1)⟩
theorem MAt.setAt (h : MAt S w g F m) (n : Nat) : MGo S w g F { m with at_ := n } (w.setCell ⟨g, 6, none⟩ (.int .i64 (n : Nat))) := by
  have hu : Upd (fun q => q = g) w (w.setCell ⟨g, 6, none⟩ (.int .i64 (n : Nat))) := (Upd.refl (fun q => q = g) w).setCell (p := ⟨g, 6, none⟩) (fun _ => rfl) _
  have hx := upd_g h hu
  obtain ⟨a, h, ha⟩ := h
  refine ⟨S, ⟨a, h.num (n := n) (f := m.fuel) hu ?_, ha⟩, fun q hq => .inl hq, fun q hq => hq, hx⟩
  have := h.blk.set_ 6 (.int .i64 (n : Nat))
  simpa [mCells] using this
theorem MAt.at_cell (h : MAt S w g F m) : w.cell? ⟨g, 6, none⟩ = some (.int .i64 (m.at_ : Nat)) ∧ w.frozen? ⟨g, 6, none⟩ = false := by
  obtain ⟨a, h, _⟩ := h
  exact ⟨h.blk.cell 6, h.blk.frozen 6⟩
/-- what an instruction comes to -/
def StepPost (S : Nat → Prop) (w : World) (g : Nat) (F : Fr) (r : (Er × Mc) ⊕ Mc) (e : Ending) (w' : World) : Prop := match r with
  | .inr m' => e = .returned (.tuple #[]) ∧ MGo S w g F m' w'
  | .inl x => e = .panicked [{ v := .iface 92 (.agg #[.int .i64 x.1.1, .int .i64 x.1.2]), recovered := false }] ∧ ∃ st', MGo S w g F { x.2 with st := st' } w'
set_option maxRecDepth 100000 in
set_option maxHeartbeats 2000000 in
theorem step_dry (h : MAt S w g F m) (hf : m.fuel = 0) : Calls Tryz.prog 72 #[.pointer (some ⟨g, 0, none⟩)] w (StepPost S w g F (stepP F.p F.args F.src m)) := by
  have hr : stepP F.p F.args F.src m = .inl ((73, 0), m) := by unfold stepP; rw [if_pos hf]
  rw [hr]
  have hH := hid h
  have x7 : w.cell? ⟨g, 7, none⟩ = some (.int .i64 0) := by
    obtain ⟨a, h, _⟩ := h
    have := h.blk.cell 7
    have e : (mCells F m a)[7]? = some (.int .i64 (m.fuel : Nat)) := rfl
    rw [e, hf] at this
    exact this
  clear hr h hf
  go_enter Tryz.func72, Tryz.ntmps72
  go_wp2_with fail
  refine (needs_f _ _ (by decide)).mono ?_
  rintro e wq ⟨rfl, hwq⟩
  obtain rfl := hwq.symm
  go_wp2_with fail
  exact ⟨rfl, rfl, m.st, hH.out.go (Below.refl _ _)⟩
theorem tick_ok {d : Nat → Int} (G : Good F.p F.args F.src d) (hk : m.Ok F.p d) (hf : m.fuel ≠ 0) : m.tick.Ok0 ∧ m.tick.reads.length < m.tick.steps.length ∧ takes (F.p.code.getD m.at_ is0).op ≤ (m.tick.st.length : Int) ∧ m.tick.st.length ≤ 32 ∧ 1 ≤ (F.p.code.getD m.at_ is0).op ∧ (F.p.code.getD m.at_ is0).op ≤ 31 ∧ 0 ≤ (F.p.code.getD m.at_ is0).n ∧ (F.p.code.getD m.at_ is0).n < F.p.most (F.p.code.getD m.at_ is0).op := by
  have hnx := G.nx m.at_ hk.at_
  obtain ⟨g1, g2, g3⟩ := G.ins m.at_ hk.at_
  unfold isOp at g1
  simp only [Bool.and_eq_true, decide_eq_true_eq] at g1
  have hd := hk.dep
  have hr := G.rng m.at_
  refine ⟨?_, ?_, ?_, ?_, g1.1, g1.2, g2, g3⟩
  · obtain ⟨a1, a2, a3, a4, a5, a6, a7, a8, a9⟩ := hk.o
    refine ⟨a1, a2, a3, a4, a5, a6, a7, ?_, ?_⟩
    · show m.reads.length ≤ (m.steps ++ [m.at_]).length
      rw [List.length_append, List.length_singleton]; omega
    · show (m.steps ++ [m.at_]).length + (m.fuel - 1) ≤ 1000000
      rw [List.length_append, List.length_singleton]; omega
  · show m.reads.length < (m.steps ++ [m.at_]).length
    have := hk.o.rn
    rw [List.length_append, List.length_singleton]; omega
  · rcases hnx with e | e
    · omega
    · rw [hd] at e; exact e.2.1
  · show m.st.length ≤ 32
    rcases hr with e | e <;> omega
theorem two_ops {op : Int} (h1 : 1 ≤ op) (h31 : op ≤ 31) (h6 : ¬ op ≤ 6) (ht : takes op = 2) : op = 13 ∨ op = 14 ∨ op = 24 ∨ op = 22 ∨ op = 16 ∨ op = 17 ∨ (7 ≤ op ∧ op ≤ 11) := by
  unfold takes at ht
  split at ht
  · cases ht
  split at ht
  · omega
  · cases ht
theorem one_ops {op : Int} (h1 : 1 ≤ op) (h31 : op ≤ 31) (h6 : ¬ op ≤ 6) (h18 : ¬ op = 18) (h19 : ¬ op = 19) (h31' : ¬ op = 31) (ht : ¬ takes op = 2) : op = 12 ∨ op = 15 ∨ op = 20 ∨ op = 21 ∨ op = 23 ∨ op = 25 ∨ op = 26 ∨ op = 27 ∨ op = 28 ∨ op = 29 ∨ op = 30 := by
  by_cases h : op = 7 ∨ op = 8 ∨ op = 9 ∨ op = 10 ∨ op = 11 ∨ op = 13 ∨ op = 14 ∨ op = 16 ∨ op = 17 ∨ op = 22 ∨ op = 24
  · refine absurd ?_ ht
    unfold takes
    rw [if_neg (by omega), if_pos (by omega)]
  · omega
theorem one_takes {op : Int} (h1 : 1 ≤ op) (h31 : op ≤ 31) (h6 : ¬ op ≤ 6) (h18 : ¬ op = 18) (h19 : ¬ op = 19) (h31' : ¬ op = 31) (ht : ¬ takes op = 2) : takes op = 1 := by
  have := one_ops h1 h31 h6 h18 h19 h31' ht
  unfold takes
  rw [if_pos (by omega)]
set_option maxRecDepth 100000 in
set_option maxHeartbeats 4000000 in
theorem stepA {d : Nat → Int} (h : MAt S w g F m) (G : Good F.p F.args F.src d) (hk : m.Ok F.p d) (hf : m.fuel ≠ 0) (h6 : (F.p.code.getD m.at_ is0).op ≤ 6) : Calls Tryz.prog 72 #[.pointer (some ⟨g, 0, none⟩)] w (StepPost S w g F (stepP F.p F.args F.src m)) := by
  obtain ⟨i, hi⟩ : ∃ i, Hid (i = F.p.code.getD m.at_ is0) := ⟨_, hid rfl⟩
  obtain ⟨res, hres⟩ : ∃ res, Hid (stepP F.p F.args F.src m = res) := ⟨_, hid rfl⟩
  have hr : Hid (stepP F.p F.args F.src m = if i.op = 31 then .inl ((0, 0), m.tick) else match onP F.p F.args F.src m.tick i with | .ok m' => .inr m' | .error e => .inl (e, m.tick)) := hid (by unfold stepP; rw [if_neg hf, hi.out]; rfl)
  rw [hres.out]
  rw [← hi.out] at h6
  have hkt : Hid (m.tick.Ok0 ∧ m.tick.reads.length < m.tick.steps.length ∧ takes i.op ≤ (m.tick.st.length : Int) ∧ m.tick.st.length ≤ 32 ∧ 1 ≤ i.op ∧ i.op ≤ 31 ∧ 0 ≤ i.n ∧ i.n < F.p.most i.op) := hid (by rw [hi.out]; exact tick_ok G hk hf)
  have hat := hid hk.at_
  have hcl := hid G.n.2
  have hga := hid G.args.1
  have hnn : Hid (m.steps.length ≤ 1000000) := hid (by have := hk.o.fu; omega)
  have hco := hid (show ∃ b o, F.Ai = some ⟨b, o, none⟩ ∧ True from by
    obtain ⟨a, h, _⟩ := h
    obtain ⟨b, o, e, _⟩ := h.code.i.ins_at hk.at_
    exact ⟨b, o, e, trivial⟩)
  have hex := hid h6
  clear h6
  obtain ⟨i0, hi0, hz0, hz1, hz2⟩ := info_parts info_int
  have hlt := hid h.lt
  have hHH := hid h
  obtain ⟨a, h, ha⟩ := h
  have ha := hid ha
  have x7 : w.cell? ⟨g, 7, none⟩ = some (.int .i64 (m.fuel : Nat)) := h.blk.cell 7
  have fz7 := h.blk.frozen 7
  have t0 : decide ((0 : Int) < (m.fuel : Int)) = true := decide_eq_true (by omega)
  have t0n : decide (0 < m.fuel) = true := decide_eq_true (by omega)
  have i1 : IntKind.i64.wrap ((m.fuel : Int) - 1) = ((m.fuel - 1 : Nat) : Int) := by rw [IntKind.wrap_i64]; have := hk.o.fu; omega
  obtain ⟨f1, hf1⟩ : ∃ f1, Hid (m.fuel - 1 = f1) := ⟨_, hid rfl⟩
  have H := hid h
  rw [hf1.out] at i1
  have hu1 := hid ((Upd.refl (fun q => q = g) w).setCell (p := ⟨g, 7, none⟩) (fun _ => rfl) (.int .i64 (f1 : Nat)))
  have H1 : Hid (MIn S (w.setCell ⟨g, 7, none⟩ (.int .i64 (f1 : Nat))) g F { m with st := m.st, at_ := m.at_, fuel := m.fuel - 1 } a) := hid (h.num hu1.out (by rw [hf1.out]; have := h.blk.set_ 7 (.int .i64 (f1 : Nat)); simpa [mCells] using this))
  have hU1 : Hid (Upd S w (w.setCell ⟨g, 7, none⟩ (.int .i64 (f1 : Nat)))) := hid (upd_g hHH.out hu1.out)
  have hs1 : Hid ((w.setCell ⟨g, 7, none⟩ (.int .i64 (f1 : Nat))).heap.size = w.heap.size) := hid (by simp)
  clear h hk hf G hu1
  go_enter Tryz.func72, Tryz.ntmps72
  go_wp2_with fail
  refine (needs_t _ _).mono ?_
  rintro e wq ⟨rfl, hwq⟩
  obtain rfl := hwq.symm
  go_upto_region 2 with fail
  generalize w.setCell ⟨g, 7, none⟩ (.int .i64 (f1 : Nat)) = w1 at *
  clear t0 t0n i1 x7 fz7
  have hgo : Hid (¬ (Value.slice a.A2 m.steps.length a.c2).ownBlock = some g) := hid fun e => by
    obtain ⟨cur, hc⟩ := own_blk H1.out.steps e
    exact absurd (blk_ty hc H1.out.blk) (by decide)
  have hkeep : Hid (∀ w', Upd (fun q => (Value.slice a.A2 m.steps.length a.c2).ownBlock = some q) w1 w' → w'.cell? ⟨g, 8, none⟩ = some (.slice a.A2 m.steps.length a.c2) ∧ w'.cell? ⟨g, 6, none⟩ = some (.int .i64 (m.at_ : Nat))) := hid fun w' hu => ⟨(H1.out.blk.upd hu hgo.out).cell 8, (H1.out.blk.upd hu hgo.out).cell 6⟩
  have hHeld : w1.drew.cell? ⟨g, 8, none⟩ = some (.slice a.A2 m.steps.length a.c2) ∧ w1.drew.cell? ⟨g, 6, none⟩ = some (.int .i64 (m.at_ : Nat)) := ⟨H1.out.blk.drew.cell 8, H1.out.blk.drew.cell 6⟩
  refine wp_region_heldE (S := fun w' => w'.cell? ⟨g, 8, none⟩ = some (.slice a.A2 m.steps.length a.c2) ∧ w'.cell? ⟨g, 6, none⟩ = some (.int .i64 (m.at_ : Nat))) 13 (by kernel_rfl) ?_
  refine wpAnyE_take [11, 12, 13] (i := 0) (v := ?v9) rfl (by kernel_rfl) (by kernel_rfl) (by kernel_rfl) (by rfl) (by kernel_rfl) (by kernel_rfl) (fun _ _ _ h => h) (Or.inl ⟨by rfl, ?hy9⟩) (hHeld) ?rest9
  case hy9 => intro w hSw; (try dsimp only at hSw); go_simp; try with_reducible rfl
  (try simp only [Act.put, List.setIfInBounds_toArray, List.set_cons_zero, List.set_cons_succ, List.getElem_toArray, List.getElem_cons_zero, List.getElem_cons_succ])
  refine wpAnyE_take [2, 3, 4, 10, 11, 12, 13] (i := 1) (v := ?v10) rfl (by kernel_rfl) (by kernel_rfl) (by kernel_rfl) (by rfl) (by kernel_rfl) (by kernel_rfl) (fun _ _ _ h => h) (Or.inl ⟨by rfl, ?hy10⟩) (hHeld) ?rest10
  case hy10 => intro w hSw; (try dsimp only at hSw); go_simp; try with_reducible rfl
  (try simp only [Act.put, List.setIfInBounds_toArray, List.set_cons_zero, List.set_cons_succ, List.getElem_toArray, List.getElem_cons_zero, List.getElem_cons_succ])
  refine wpAnyE_take [3, 4, 10, 11, 12, 13] (i := 2) (v := ?v11) rfl (by kernel_rfl) (by kernel_rfl) (by kernel_rfl) (by rfl) (by kernel_rfl) (by kernel_rfl) (fun _ _ _ h => h) (Or.inl ⟨by rfl, ?hy11⟩) (hHeld) ?rest11
  case hy11 => intro w hSw; (try dsimp only at hSw); go_simp; try with_reducible rfl
  (try simp only [Act.put, List.setIfInBounds_toArray, List.set_cons_zero, List.set_cons_succ, List.getElem_toArray, List.getElem_cons_zero, List.getElem_cons_succ])
  refine wpAnyE_take [4, 10, 11, 12, 13] (i := 3) (v := ?v12) rfl (by kernel_rfl) (by kernel_rfl) (by kernel_rfl) (by rfl) (by kernel_rfl) (by kernel_rfl) (fun _ _ _ h => h) (Or.inl ⟨by rfl, ?hy12⟩) (hHeld) ?rest12
  case hy12 => intro w hSw; (try dsimp only at hSw); go_simp; try with_reducible rfl
  (try simp only [Act.put, List.setIfInBounds_toArray, List.set_cons_zero, List.set_cons_succ, List.getElem_toArray, List.getElem_cons_zero, List.getElem_cons_succ])
  refine wpAnyE_take [10, 11, 12, 13] (i := 4) (v := ?v13) rfl (by kernel_rfl) (by kernel_rfl) (by kernel_rfl) (by rfl) (by kernel_rfl) (by kernel_rfl) (fun _ _ _ h => h) (Or.inl ⟨by rfl, ?hy13⟩) (hHeld) ?rest13
  case hy13 => intro w hSw; (try dsimp only at hSw); go_simp; try with_reducible rfl
  (try simp only [Act.put, List.setIfInBounds_toArray, List.set_cons_zero, List.set_cons_succ, List.getElem_toArray, List.getElem_cons_zero, List.getElem_cons_succ])
  refine wpAnyE_take [6, 7, 8, 9, 10, 11, 12, 13] (i := 5) (v := ?v14) rfl (by kernel_rfl) (by kernel_rfl) (by kernel_rfl) (by rfl) (by kernel_rfl) (by kernel_rfl) (fun _ _ _ h => h) (Or.inl ⟨by rfl, ?hy14⟩) (hHeld) ?rest14
  case hy14 => intro w hSw; (try dsimp only at hSw); go_simp; try with_reducible rfl
  (try simp only [Act.put, List.setIfInBounds_toArray, List.set_cons_zero, List.set_cons_succ, List.getElem_toArray, List.getElem_cons_zero, List.getElem_cons_succ])
  refine wpAnyE_take [7, 8, 9, 10, 11, 12, 13] (i := 6) (v := ?v15) rfl (by kernel_rfl) (by kernel_rfl) (by kernel_rfl) (by rfl) (by kernel_rfl) (by kernel_rfl) (fun _ _ _ h => h) (Or.inl ⟨by rfl, ?hy15⟩) (hHeld) ?rest15
  case hy15 => intro w hSw; (try dsimp only at hSw); go_simp; try with_reducible rfl
  (try simp only [Act.put, List.setIfInBounds_toArray, List.set_cons_zero, List.set_cons_succ, List.getElem_toArray, List.getElem_cons_zero, List.getElem_cons_succ])
  refine wpAnyE_take [8, 9, 10, 11, 12, 13] (i := 7) (v := ?v16) rfl (by kernel_rfl) (by kernel_rfl) (by kernel_rfl) (by rfl) (by kernel_rfl) (by kernel_rfl) (fun _ _ _ h => h) (Or.inl ⟨by rfl, ?hy16⟩) (hHeld) ?rest16
  case hy16 => intro w hSw; (try dsimp only at hSw); go_simp; try with_reducible rfl
  (try simp only [Act.put, List.setIfInBounds_toArray, List.set_cons_zero, List.set_cons_succ, List.getElem_toArray, List.getElem_cons_zero, List.getElem_cons_succ])
  refine wpAnyE_take [9, 10, 11, 12, 13] (i := 8) (v := ?v17) rfl (by kernel_rfl) (by kernel_rfl) (by kernel_rfl) (by rfl) (by kernel_rfl) (by kernel_rfl) (fun _ _ _ h => h) (Or.inl ⟨by rfl, ?hy17⟩) (hHeld) ?rest17
  case hy17 => intro w hSw; (try dsimp only at hSw); go_simp; try with_reducible rfl
  (try simp only [Act.put, List.setIfInBounds_toArray, List.set_cons_zero, List.set_cons_succ, List.getElem_toArray, List.getElem_cons_zero, List.getElem_cons_succ])
  refine wpAnyE_ready (rs := [9]) (by kernel_rfl) (by simp) ?_
  refine AllReadyE.cons rfl (fun K hK => ?_) AllReadyE.nil
  go_simp
  refine hK.out _ _ (fun _ => ⟨(H1.out.blk.drew.alloc _).cell 8, (H1.out.blk.drew.alloc _).cell 6⟩) ?_
  clear hK K
  (try simp only [Act.put, List.setIfInBounds_toArray, List.set_cons_zero, List.set_cons_succ, List.getElem_toArray, List.getElem_cons_zero, List.getElem_cons_succ])
  refine wpAnyE_ready (rs := [10]) (by kernel_rfl) (by simp) ?_
  refine AllReadyE.cons rfl (fun K hK => ?_) AllReadyE.nil
  refine step_append_rd _ rfl (.tmp 24) (.tmp 29) 51 rfl 0 3 i0 _ 1 8 Tryz.underlying51 hi0 hz0 hz1 hz2 rfl (by omega) (.slice a.A2 m.steps.length a.c2) m.steps.length (stepCells m.steps) rfl ?_ (fun q => q = w1.heap.size) (some ⟨w1.heap.size, 0, none⟩) 1 1 #[.int .i64 (m.at_ : Nat)].toList rfl ?_ ?_ ?_ ?_ ?_ (m.steps.length + 1) rfl (stepCells m.steps ++ #[.int .i64 (m.at_ : Nat)].toList) rfl ?_
  · exact (H1.out.steps.1.drew).alloc _
  · exact Rd.new w1.drew 3 1 1 #[.int .i64 (m.at_ : Nat)] w1.heap.size rfl rfl
  · intro v hv; simp at hv; (first | (rcases hv with rfl | rfl | rfl <;> rfl) | (rcases hv with rfl; rfl))
  · have := hnn.out; simp only [maxLen]; omega
  · have := hnn.out; omega
  · exact Nat.zero_le _
  intro A3 c3 w3 hown3 hg3 hat3
  have hu9 : Hid (Upd (fun q => (Value.slice a.A2 m.steps.length a.c2).ownBlock = some q) w1 w3) := hid (((Upd.refl _ w1).drew.alloc _).grown hg3 fun q hq _ => hq)
  have hO3 := hid hown3
  have hat9 : Hid ((Value.slice A3 (m.steps.length + 1) c3).ownBlock = (Value.slice a.A2 m.steps.length a.c2).ownBlock ∨ ∃ k, w1.heap.size ≤ k ∧ (Value.slice A3 (m.steps.length + 1) c3).ownBlock = some k) := hid (by
    rcases hat3 with e | e
    · exact .inl e
    · exact .inr ⟨_, by simp, e⟩)
  clear hg3 hat3 hown3
  have r4 : w3.cell? ⟨g, 8, none⟩ = some (.slice a.A2 m.steps.length a.c2) ∧ w3.cell? ⟨g, 6, none⟩ = some (.int .i64 (m.at_ : Nat)) := hkeep.out _ hu9.out
  have q4 : w3.frozen? ⟨g, 8, none⟩ = false := (H1.out.blk.upd hu9.out hgo.out).frozen 8
  have r7 := r4.1
  refine hK.out _ _ (fun _ => r4) ?_
  clear hK K
  (try simp only [Act.put, List.setIfInBounds_toArray, List.set_cons_zero, List.set_cons_succ, List.getElem_toArray, List.getElem_cons_zero, List.getElem_cons_succ])
  refine wpAnyE_take [12, 13] (i := 11) (v := ?v18) rfl (by kernel_rfl) (by kernel_rfl) (by kernel_rfl) (by rfl) (by kernel_rfl) (by kernel_rfl) (fun _ _ _ h => h) (Or.inl ⟨by rfl, ?hy18⟩) (r4) ?rest18
  case hy18 => intro w hSw; (try dsimp only at hSw); go_simp; try with_reducible rfl
  (try simp only [Act.put, List.setIfInBounds_toArray, List.set_cons_zero, List.set_cons_succ, List.getElem_toArray, List.getElem_cons_zero, List.getElem_cons_succ])
  refine wpAnyE_take [13] (i := 12) (v := ?v19) rfl (by kernel_rfl) (by kernel_rfl) (by kernel_rfl) (by rfl) (by kernel_rfl) (by kernel_rfl) (fun _ _ _ h => h) (Or.inl ⟨by rfl, ?hy19⟩) (r4) ?rest19
  case hy19 => intro w hSw; (try dsimp only at hSw); go_simp; try with_reducible rfl
  (try simp only [Act.put, List.setIfInBounds_toArray, List.set_cons_zero, List.set_cons_succ, List.getElem_toArray, List.getElem_cons_zero, List.getElem_cons_succ])
  refine wpAnyE_ready (rs := [13]) (by kernel_rfl) (by simp) ?_
  refine AllReadyE.cons rfl (fun K hK => ?_) AllReadyE.nil
  go_simp
  refine hK.out _ _ (fun h => absurd rfl h) ?_
  clear hK K
  (try simp only [Act.put, List.setIfInBounds_toArray, List.set_cons_zero, List.set_cons_succ, List.getElem_toArray, List.getElem_cons_zero, List.getElem_cons_succ])
  refine wpAnyE_done (by kernel_rfl) ?_ _
  obtain ⟨S2, h1, h2, h3, h4⟩ := H1.out.stepped (x := m.at_) (Below.refl _ _) hu9.out hO3.out hat9.out (Upd.refl _ _)
  have T := hid (show MAt S2 _ g F m.tick from ⟨_, h1, ha.out⟩)
  have s1 : Hid (∀ q, S2 q → S q ∨ w.heap.size ≤ q) := hid fun q hq => (h2 q hq).imp id fun e => by have := hs1.out; omega
  have s2 := hid h3
  have hU : Hid (Upd S w _) := hid (hU1.out.trans h4 fun _ _ e => e)
  clear h1 h2 h3 h4 hkeep r4 q4 r7 hu9 hO3 hat9 H1
  generalize w3.setCell _ _ = w4 at *
  obtain ⟨b, o, hA, _⟩ := hco.out
  have hX := hid (fun W (hW : Below w4.heap.size w4 W) => (show W.cell? ⟨g, 2, none⟩ = some (.slice (some ⟨b, o, none⟩) F.p.code.length F.ci) ∧ W.cell? ⟨g, 6, none⟩ = some (.int .i64 (m.at_ : Nat)) from by
    obtain ⟨a9, h9, _⟩ := T.out
    have hb := h9.blk.below_all hW
    exact ⟨by rw [← hA]; exact hb.cell 2, hb.cell 6⟩))
  have hY := hid (fun W (hW : Below w4.heap.size w4 W) => (show W.cell? ⟨b, o + m.at_ * 2, none⟩ = some (.int .i64 i.op) ∧ W.cell? ⟨b, o + m.at_ * 2 + 1, none⟩ = some (.int .i64 i.n) from by
    obtain ⟨a9, h9, _⟩ := T.out
    obtain ⟨b', o', e', _, z0, z1⟩ := (h9.code.i.below_all hW).ins_at hat.out
    rw [hA] at e'
    injection e' with e'
    injection e' with e1 e2
    subst e1 e2
    have hi2 : F.p.code[m.at_]'hat.out = i := by rw [hi.out, List.getD_eq_getElem?_getD, List.getElem?_eq_getElem hat.out]; rfl
    rw [hi2] at z0 z1
    exact ⟨z0, z1⟩))
  have ia : (m.at_ : Int) < (F.p.code.length : Int) := by have := hat.out; omega
  have ib : m.at_ < F.p.code.length := hat.out
  have hS4 : Hid (∀ q, S2 q → q < w4.heap.size) := hid T.out.lt
  go_upto_region 3 with fail
  refine wp_region_held_drew (S := fun w'' => Below w4.heap.size w4 w'') (by kernel_rfl) ?_ (fun hHeld => ?_)
  · exact (Below.refl _ _).drew
  have hd0 : Hid (Below w4.heap.size w4 w4.drew) := hid (Below.refl _ _).drew
  generalize World.drew w4 = wd at *
  refine wpAnyH_take (i := 0) (v := ?v501) rfl (by kernel_rfl) (by kernel_rfl) (by kernel_rfl) (fun _ _ _ h => h) (Or.inl ⟨by rfl, ?hy501⟩) (by assumption) ?rest501
  case hy501 => intro w' hSw; have q1 := hX.out w' hSw; obtain ⟨x2, x6⟩ := q1; obtain ⟨c0, c1⟩ := hY.out w' hSw; (try dsimp only at hSw); go_simp; try with_reducible rfl
  (try simp only [Act.put, List.setIfInBounds_toArray, List.set_cons_zero, List.set_cons_succ, List.getElem_toArray, List.getElem_cons_zero, List.getElem_cons_succ])
  refine wpAnyH_take (i := 1) (v := ?v502) rfl (by kernel_rfl) (by kernel_rfl) (by kernel_rfl) (fun _ _ _ h => h) (Or.inl ⟨by rfl, ?hy502⟩) (by assumption) ?rest502
  case hy502 => intro w' hSw; have q1 := hX.out w' hSw; obtain ⟨x2, x6⟩ := q1; obtain ⟨c0, c1⟩ := hY.out w' hSw; (try dsimp only at hSw); go_simp; try with_reducible rfl
  (try simp only [Act.put, List.setIfInBounds_toArray, List.set_cons_zero, List.set_cons_succ, List.getElem_toArray, List.getElem_cons_zero, List.getElem_cons_succ])
  refine wpAnyH_take (i := 2) (v := ?v503) rfl (by kernel_rfl) (by kernel_rfl) (by kernel_rfl) (fun _ _ _ h => h) (Or.inl ⟨by rfl, ?hy503⟩) (by assumption) ?rest503
  case hy503 => intro w' hSw; have q1 := hX.out w' hSw; obtain ⟨x2, x6⟩ := q1; obtain ⟨c0, c1⟩ := hY.out w' hSw; (try dsimp only at hSw); go_simp; try with_reducible rfl
  (try simp only [Act.put, List.setIfInBounds_toArray, List.set_cons_zero, List.set_cons_succ, List.getElem_toArray, List.getElem_cons_zero, List.getElem_cons_succ])
  refine wpAnyH_take (i := 3) (v := ?v504) rfl (by kernel_rfl) (by kernel_rfl) (by kernel_rfl) (fun _ _ _ h => h) (Or.inl ⟨by rfl, ?hy504⟩) (by assumption) ?rest504
  case hy504 => intro w' hSw; have q1 := hX.out w' hSw; obtain ⟨x2, x6⟩ := q1; obtain ⟨c0, c1⟩ := hY.out w' hSw; (try dsimp only at hSw); go_simp; try with_reducible rfl
  (try simp only [Act.put, List.setIfInBounds_toArray, List.set_cons_zero, List.set_cons_succ, List.getElem_toArray, List.getElem_cons_zero, List.getElem_cons_succ])
  refine wpAnyH_take (i := 4) (v := ?v505) rfl (by kernel_rfl) (by kernel_rfl) (by kernel_rfl) (fun _ _ _ h => h) (Or.inl ⟨by rfl, ?hy505⟩) (by assumption) ?rest505
  case hy505 => intro w' hSw; have q1 := hX.out w' hSw; obtain ⟨x2, x6⟩ := q1; obtain ⟨c0, c1⟩ := hY.out w' hSw; (try dsimp only at hSw); go_simp; try with_reducible rfl
  (try simp only [Act.put, List.setIfInBounds_toArray, List.set_cons_zero, List.set_cons_succ, List.getElem_toArray, List.getElem_cons_zero, List.getElem_cons_succ])
  refine wpAnyH_take (i := 5) (v := ?v506) rfl (by kernel_rfl) (by kernel_rfl) (by kernel_rfl) (fun _ _ _ h => h) (Or.inl ⟨by rfl, ?hy506⟩) (by assumption) ?rest506
  case hy506 => intro w' hSw; have q1 := hX.out w' hSw; obtain ⟨x2, x6⟩ := q1; obtain ⟨c0, c1⟩ := hY.out w' hSw; (try dsimp only at hSw); go_simp; try with_reducible rfl
  (try simp only [Act.put, List.setIfInBounds_toArray, List.set_cons_zero, List.set_cons_succ, List.getElem_toArray, List.getElem_cons_zero, List.getElem_cons_succ])
  refine wpAnyH_take (i := 6) (v := ?v507) rfl (by kernel_rfl) (by kernel_rfl) (by kernel_rfl) (fun _ _ _ h => h) (Or.inl ⟨by rfl, ?hy507⟩) (by assumption) ?rest507
  case hy507 => intro w' hSw; have q1 := hX.out w' hSw; obtain ⟨x2, x6⟩ := q1; obtain ⟨c0, c1⟩ := hY.out w' hSw; (try dsimp only at hSw); go_simp; try with_reducible rfl
  (try simp only [Act.put, List.setIfInBounds_toArray, List.set_cons_zero, List.set_cons_succ, List.getElem_toArray, List.getElem_cons_zero, List.getElem_cons_succ])
  refine wpAnyH_take (i := 7) (v := ?v508) rfl (by kernel_rfl) (by kernel_rfl) (by kernel_rfl) (fun _ _ _ h => h) (Or.inl ⟨by rfl, ?hy508⟩) (by assumption) ?rest508
  case hy508 => intro w' hSw; have q1 := hX.out w' hSw; obtain ⟨x2, x6⟩ := q1; obtain ⟨c0, c1⟩ := hY.out w' hSw; (try dsimp only at hSw); go_simp; try with_reducible rfl
  (try simp only [Act.put, List.setIfInBounds_toArray, List.set_cons_zero, List.set_cons_succ, List.getElem_toArray, List.getElem_cons_zero, List.getElem_cons_succ])
  refine wpAnyH_take (i := 8) (v := ?v509) rfl (by kernel_rfl) (by kernel_rfl) (by kernel_rfl) (fun _ _ _ h => h) (Or.inl ⟨by rfl, ?hy509⟩) (by assumption) ?rest509
  case hy509 => intro w' hSw; have q1 := hX.out w' hSw; obtain ⟨x2, x6⟩ := q1; obtain ⟨c0, c1⟩ := hY.out w' hSw; (try dsimp only at hSw); go_simp; try with_reducible rfl
  (try simp only [Act.put, List.setIfInBounds_toArray, List.set_cons_zero, List.set_cons_succ, List.getElem_toArray, List.getElem_cons_zero, List.getElem_cons_succ])
  refine wpAnyH_take (i := 9) (v := ?v510) rfl (by kernel_rfl) (by kernel_rfl) (by kernel_rfl) (fun _ _ _ h => h) (Or.inl ⟨by rfl, ?hy510⟩) (by assumption) ?rest510
  case hy510 => intro w' hSw; have q1 := hX.out w' hSw; obtain ⟨x2, x6⟩ := q1; obtain ⟨c0, c1⟩ := hY.out w' hSw; (try dsimp only at hSw); go_simp; try with_reducible rfl
  (try simp only [Act.put, List.setIfInBounds_toArray, List.set_cons_zero, List.set_cons_succ, List.getElem_toArray, List.getElem_cons_zero, List.getElem_cons_succ])
  refine wpAnyH_take (i := 10) (v := ?v511) rfl (by kernel_rfl) (by kernel_rfl) (by kernel_rfl) (fun _ _ _ h => h) (Or.inl ⟨by rfl, ?hy511⟩) (by assumption) ?rest511
  case hy511 => intro w' hSw; have q1 := hX.out w' hSw; obtain ⟨x2, x6⟩ := q1; obtain ⟨c0, c1⟩ := hY.out w' hSw; (try dsimp only at hSw); go_simp; try with_reducible rfl
  (try simp only [Act.put, List.setIfInBounds_toArray, List.set_cons_zero, List.set_cons_succ, List.getElem_toArray, List.getElem_cons_zero, List.getElem_cons_succ])
  refine wpAnyH_ready (rs := [11]) (by kernel_rfl) (by simp) ?_
  refine AllReadyH.cons rfl (fun K hK => ?_) AllReadyH.nil
  go_simp
  have hd1 := hid (hd0.out.alloc hd0.out.size (.cells #[.int .i64 0, .int .i64 0] 69))
  have kz := hid (Blk.new wd 69 #[.int .i64 0, .int .i64 0])
  have hdz := hid hd0.out.size
  generalize wd.alloc (.cells #[.int .i64 0, .int .i64 0] 69) = we at *
  generalize wd.heap.size = me at *
  refine hK.out _ _ ?_ (fun hHeld => ?_)
  · exact hd1.out
  clear hK K
  (try simp only [Act.put, List.setIfInBounds_toArray, List.set_cons_zero, List.set_cons_succ, List.getElem_toArray, List.getElem_cons_zero, List.getElem_cons_succ])
  refine wpAnyH_ready (rs := [12]) (by kernel_rfl) (by simp) ?_
  refine AllReadyH.cons rfl (fun K hK => ?_) AllReadyH.nil
  have z0 := kz.out.cell 0
  have z1 := kz.out.cell 1
  simp only [List.getElem?_toArray, List.getElem?_cons_zero, List.getElem?_cons_succ] at z0 z1
  have fz := fun q => kz.out.frozen q
  go_simp
  obtain ⟨w5, hwf, hd3, ki⟩ : ∃ w5, ((we.setCell ⟨me, 0, none⟩ (.int .i64 i.op)).setCell ⟨me, 1, none⟩ (.int .i64 i.n)) = w5 ∧ Hid (Below w4.heap.size w4 w5) ∧ Hid (Blk w5 me 69 #[.int .i64 i.op, .int .i64 i.n]) := ⟨_, rfl, hid ((hd1.out.setCell (p := ⟨me, 0, none⟩) hdz.out _).setCell (p := ⟨me, 1, none⟩) hdz.out _), hid (by simpa using (kz.out.set_ 0 (.int .i64 i.op)).set_ 1 (.int .i64 i.n))⟩
  rw [hwf]
  clear hwf z0 z1 fz kz
  refine hK.out _ _ ?_ (fun hHeld => ?_)
  · exact hd3.out
  clear hK K
  (try simp only [Act.put, List.setIfInBounds_toArray, List.set_cons_zero, List.set_cons_succ, List.getElem_toArray, List.getElem_cons_zero, List.getElem_cons_succ])
  refine wpAnyH_done (by kernel_rfl) ?_ _
  have T := hid (T.out.below hd3.out)
  have hU := hid (hU.out.trans (Upd.of_below' hd3.out (fun _ => False)) fun _ _ e => e.elim)
  have hSl : Hid (∀ q, S2 q → q < w5.heap.size) := hid T.out.lt
  obtain ⟨x6, fx6⟩ := T.out.at_cell
  have c0 : w5.cell? ⟨me, 0, none⟩ = some (.int .i64 i.op) := ki.out.cell 0
  have c1 : w5.cell? ⟨me, 1, none⟩ = some (.int .i64 i.n) := ki.out.cell 1
  have i9 : IntKind.i64.wrap ((m.at_ : Int) + 1) = ((m.at_ + 1 : Nat) : Int) := by rw [IntKind.wrap_i64]; have := hat.out; have := hcl.out; omega
  replace x6 : w5.cell? ⟨g, 6, none⟩ = some (.int .i64 (m.at_ : Nat)) := x6
  obtain ⟨nx, hnx⟩ : ∃ nx : Nat, Hid (nx = m.at_ + 1) := ⟨_, hid rfl⟩
  rw [← hnx.out] at i9
  have hmeS : Hid (¬ S2 me) := hid fun e => by have := hS4.out me e; have := hdz.out; omega
  clear hX hY hd0 hd1 hd3 ia ib hHeld hdz hco
  have t6 : decide (i.op ≤ 6) = true := decide_eq_true hex.out
  have hr2 := hid (hr.out.trans (if_neg (by have := hex.out; omega)))
  have hr3 : Hid (onP F.p F.args F.src m.tick i = .ok { movP F.p F.args m.tick i with at_ := m.at_ + 1 }) := hid (if_pos hex.out)
  rw [hr3.out, ← hnx.out] at hr2
  have hmv := hid (moves_any i T.out (by have := hkt.out.2.2.2.1; omega) hkt.out.2.2.2.2.1 hex.out ⟨hkt.out.2.2.2.2.2.2.1, hkt.out.2.2.2.2.2.2.2⟩ hga.out hkt.out.2.2.1)
  go_wp2_with fail
  refine hmv.out.mono ?_
  rintro e w6 ⟨rfl, S6, hA6, a1, a2, a3⟩
  have A6 := hid hA6
  have a1 := hid a1
  have a2 := hid a2
  have a3 := hid a3
  clear hA6 x6 fx6
  have hw6 := A6.out.at_cell
  obtain ⟨x6, fx6⟩ := hw6
  go_wp2_with fail
  refine ⟨rfl, .tuple #[], by simp [results, Tryz.results72, go_sem], ?_⟩
  rw [← hres.out, hr2.out]
  exact ⟨rfl, MGo.comp s1.out s2.out hU.out (MGo.comp a1.out a2.out a3.out (A6.out.setAt _))⟩
set_option maxRecDepth 100000 in
set_option maxHeartbeats 4000000 in
theorem stepB {d : Nat → Int} (h : MAt S w g F m) (G : Good F.p F.args F.src d) (hk : m.Ok F.p d) (hf : m.fuel ≠ 0) (h6 : (F.p.code.getD m.at_ is0).op = 18) : Calls Tryz.prog 72 #[.pointer (some ⟨g, 0, none⟩)] w (StepPost S w g F (stepP F.p F.args F.src m)) := by
  obtain ⟨i, hi⟩ : ∃ i, Hid (i = F.p.code.getD m.at_ is0) := ⟨_, hid rfl⟩
  obtain ⟨res, hres⟩ : ∃ res, Hid (stepP F.p F.args F.src m = res) := ⟨_, hid rfl⟩
  have hr : Hid (stepP F.p F.args F.src m = if i.op = 31 then .inl ((0, 0), m.tick) else match onP F.p F.args F.src m.tick i with | .ok m' => .inr m' | .error e => .inl (e, m.tick)) := hid (by unfold stepP; rw [if_neg hf, hi.out]; rfl)
  rw [hres.out]
  rw [← hi.out] at h6
  have hkt : Hid (m.tick.Ok0 ∧ m.tick.reads.length < m.tick.steps.length ∧ takes i.op ≤ (m.tick.st.length : Int) ∧ m.tick.st.length ≤ 32 ∧ 1 ≤ i.op ∧ i.op ≤ 31 ∧ 0 ≤ i.n ∧ i.n < F.p.most i.op) := hid (by rw [hi.out]; exact tick_ok G hk hf)
  have hat := hid hk.at_
  have hcl := hid G.n.2
  have hga := hid G.args.1
  have hnn : Hid (m.steps.length ≤ 1000000) := hid (by have := hk.o.fu; omega)
  have hco := hid (show ∃ b o, F.Ai = some ⟨b, o, none⟩ ∧ True from by
    obtain ⟨a, h, _⟩ := h
    obtain ⟨b, o, e, _⟩ := h.code.i.ins_at hk.at_
    exact ⟨b, o, e, trivial⟩)
  have hex := hid h6
  clear h6
  obtain ⟨i0, hi0, hz0, hz1, hz2⟩ := info_parts info_int
  have hlt := hid h.lt
  have hHH := hid h
  obtain ⟨a, h, ha⟩ := h
  have ha := hid ha
  have x7 : w.cell? ⟨g, 7, none⟩ = some (.int .i64 (m.fuel : Nat)) := h.blk.cell 7
  have fz7 := h.blk.frozen 7
  have t0 : decide ((0 : Int) < (m.fuel : Int)) = true := decide_eq_true (by omega)
  have t0n : decide (0 < m.fuel) = true := decide_eq_true (by omega)
  have i1 : IntKind.i64.wrap ((m.fuel : Int) - 1) = ((m.fuel - 1 : Nat) : Int) := by rw [IntKind.wrap_i64]; have := hk.o.fu; omega
  obtain ⟨f1, hf1⟩ : ∃ f1, Hid (m.fuel - 1 = f1) := ⟨_, hid rfl⟩
  have H := hid h
  rw [hf1.out] at i1
  have hu1 := hid ((Upd.refl (fun q => q = g) w).setCell (p := ⟨g, 7, none⟩) (fun _ => rfl) (.int .i64 (f1 : Nat)))
  have H1 : Hid (MIn S (w.setCell ⟨g, 7, none⟩ (.int .i64 (f1 : Nat))) g F { m with st := m.st, at_ := m.at_, fuel := m.fuel - 1 } a) := hid (h.num hu1.out (by rw [hf1.out]; have := h.blk.set_ 7 (.int .i64 (f1 : Nat)); simpa [mCells] using this))
  have hU1 : Hid (Upd S w (w.setCell ⟨g, 7, none⟩ (.int .i64 (f1 : Nat)))) := hid (upd_g hHH.out hu1.out)
  have hs1 : Hid ((w.setCell ⟨g, 7, none⟩ (.int .i64 (f1 : Nat))).heap.size = w.heap.size) := hid (by simp)
  clear h hk hf G hu1
  go_enter Tryz.func72, Tryz.ntmps72
  go_wp2_with fail
  refine (needs_t _ _).mono ?_
  rintro e wq ⟨rfl, hwq⟩
  obtain rfl := hwq.symm
  go_upto_region 2 with fail
  generalize w.setCell ⟨g, 7, none⟩ (.int .i64 (f1 : Nat)) = w1 at *
  clear t0 t0n i1 x7 fz7
  have hgo : Hid (¬ (Value.slice a.A2 m.steps.length a.c2).ownBlock = some g) := hid fun e => by
    obtain ⟨cur, hc⟩ := own_blk H1.out.steps e
    exact absurd (blk_ty hc H1.out.blk) (by decide)
  have hkeep : Hid (∀ w', Upd (fun q => (Value.slice a.A2 m.steps.length a.c2).ownBlock = some q) w1 w' → w'.cell? ⟨g, 8, none⟩ = some (.slice a.A2 m.steps.length a.c2) ∧ w'.cell? ⟨g, 6, none⟩ = some (.int .i64 (m.at_ : Nat))) := hid fun w' hu => ⟨(H1.out.blk.upd hu hgo.out).cell 8, (H1.out.blk.upd hu hgo.out).cell 6⟩
  have hHeld : w1.drew.cell? ⟨g, 8, none⟩ = some (.slice a.A2 m.steps.length a.c2) ∧ w1.drew.cell? ⟨g, 6, none⟩ = some (.int .i64 (m.at_ : Nat)) := ⟨H1.out.blk.drew.cell 8, H1.out.blk.drew.cell 6⟩
  refine wp_region_heldE (S := fun w' => w'.cell? ⟨g, 8, none⟩ = some (.slice a.A2 m.steps.length a.c2) ∧ w'.cell? ⟨g, 6, none⟩ = some (.int .i64 (m.at_ : Nat))) 13 (by kernel_rfl) ?_
  refine wpAnyE_take [11, 12, 13] (i := 0) (v := ?v20) rfl (by kernel_rfl) (by kernel_rfl) (by kernel_rfl) (by rfl) (by kernel_rfl) (by kernel_rfl) (fun _ _ _ h => h) (Or.inl ⟨by rfl, ?hy20⟩) (hHeld) ?rest20
  case hy20 => intro w hSw; (try dsimp only at hSw); go_simp; try with_reducible rfl
  (try simp only [Act.put, List.setIfInBounds_toArray, List.set_cons_zero, List.set_cons_succ, List.getElem_toArray, List.getElem_cons_zero, List.getElem_cons_succ])
  refine wpAnyE_take [2, 3, 4, 10, 11, 12, 13] (i := 1) (v := ?v21) rfl (by kernel_rfl) (by kernel_rfl) (by kernel_rfl) (by rfl) (by kernel_rfl) (by kernel_rfl) (fun _ _ _ h => h) (Or.inl ⟨by rfl, ?hy21⟩) (hHeld) ?rest21
  case hy21 => intro w hSw; (try dsimp only at hSw); go_simp; try with_reducible rfl
  (try simp only [Act.put, List.setIfInBounds_toArray, List.set_cons_zero, List.set_cons_succ, List.getElem_toArray, List.getElem_cons_zero, List.getElem_cons_succ])
  refine wpAnyE_take [3, 4, 10, 11, 12, 13] (i := 2) (v := ?v22) rfl (by kernel_rfl) (by kernel_rfl) (by kernel_rfl) (by rfl) (by kernel_rfl) (by kernel_rfl) (fun _ _ _ h => h) (Or.inl ⟨by rfl, ?hy22⟩) (hHeld) ?rest22
  case hy22 => intro w hSw; (try dsimp only at hSw); go_simp; try with_reducible rfl
  (try simp only [Act.put, List.setIfInBounds_toArray, List.set_cons_zero, List.set_cons_succ, List.getElem_toArray, List.getElem_cons_zero, List.getElem_cons_succ])
  refine wpAnyE_take [4, 10, 11, 12, 13] (i := 3) (v := ?v23) rfl (by kernel_rfl) (by kernel_rfl) (by kernel_rfl) (by rfl) (by kernel_rfl) (by kernel_rfl) (fun _ _ _ h => h) (Or.inl ⟨by rfl, ?hy23⟩) (hHeld) ?rest23
  case hy23 => intro w hSw; (try dsimp only at hSw); go_simp; try with_reducible rfl
  (try simp only [Act.put, List.setIfInBounds_toArray, List.set_cons_zero, List.set_cons_succ, List.getElem_toArray, List.getElem_cons_zero, List.getElem_cons_succ])
  refine wpAnyE_take [10, 11, 12, 13] (i := 4) (v := ?v24) rfl (by kernel_rfl) (by kernel_rfl) (by kernel_rfl) (by rfl) (by kernel_rfl) (by kernel_rfl) (fun _ _ _ h => h) (Or.inl ⟨by rfl, ?hy24⟩) (hHeld) ?rest24
  case hy24 => intro w hSw; (try dsimp only at hSw); go_simp; try with_reducible rfl
  (try simp only [Act.put, List.setIfInBounds_toArray, List.set_cons_zero, List.set_cons_succ, List.getElem_toArray, List.getElem_cons_zero, List.getElem_cons_succ])
  refine wpAnyE_take [6, 7, 8, 9, 10, 11, 12, 13] (i := 5) (v := ?v25) rfl (by kernel_rfl) (by kernel_rfl) (by kernel_rfl) (by rfl) (by kernel_rfl) (by kernel_rfl) (fun _ _ _ h => h) (Or.inl ⟨by rfl, ?hy25⟩) (hHeld) ?rest25
  case hy25 => intro w hSw; (try dsimp only at hSw); go_simp; try with_reducible rfl
  (try simp only [Act.put, List.setIfInBounds_toArray, List.set_cons_zero, List.set_cons_succ, List.getElem_toArray, List.getElem_cons_zero, List.getElem_cons_succ])
  refine wpAnyE_take [7, 8, 9, 10, 11, 12, 13] (i := 6) (v := ?v26) rfl (by kernel_rfl) (by kernel_rfl) (by kernel_rfl) (by rfl) (by kernel_rfl) (by kernel_rfl) (fun _ _ _ h => h) (Or.inl ⟨by rfl, ?hy26⟩) (hHeld) ?rest26
  case hy26 => intro w hSw; (try dsimp only at hSw); go_simp; try with_reducible rfl
  (try simp only [Act.put, List.setIfInBounds_toArray, List.set_cons_zero, List.set_cons_succ, List.getElem_toArray, List.getElem_cons_zero, List.getElem_cons_succ])
  refine wpAnyE_take [8, 9, 10, 11, 12, 13] (i := 7) (v := ?v27) rfl (by kernel_rfl) (by kernel_rfl) (by kernel_rfl) (by rfl) (by kernel_rfl) (by kernel_rfl) (fun _ _ _ h => h) (Or.inl ⟨by rfl, ?hy27⟩) (hHeld) ?rest27
  case hy27 => intro w hSw; (try dsimp only at hSw); go_simp; try with_reducible rfl
  (try simp only [Act.put, List.setIfInBounds_toArray, List.set_cons_zero, List.set_cons_succ, List.getElem_toArray, List.getElem_cons_zero, List.getElem_cons_succ])
  refine wpAnyE_take [9, 10, 11, 12, 13] (i := 8) (v := ?v28) rfl (by kernel_rfl) (by kernel_rfl) (by kernel_rfl) (by rfl) (by kernel_rfl) (by kernel_rfl) (fun _ _ _ h => h) (Or.inl ⟨by rfl, ?hy28⟩) (hHeld) ?rest28
  case hy28 => intro w hSw; (try dsimp only at hSw); go_simp; try with_reducible rfl
  (try simp only [Act.put, List.setIfInBounds_toArray, List.set_cons_zero, List.set_cons_succ, List.getElem_toArray, List.getElem_cons_zero, List.getElem_cons_succ])
  refine wpAnyE_ready (rs := [9]) (by kernel_rfl) (by simp) ?_
  refine AllReadyE.cons rfl (fun K hK => ?_) AllReadyE.nil
  go_simp
  refine hK.out _ _ (fun _ => ⟨(H1.out.blk.drew.alloc _).cell 8, (H1.out.blk.drew.alloc _).cell 6⟩) ?_
  clear hK K
  (try simp only [Act.put, List.setIfInBounds_toArray, List.set_cons_zero, List.set_cons_succ, List.getElem_toArray, List.getElem_cons_zero, List.getElem_cons_succ])
  refine wpAnyE_ready (rs := [10]) (by kernel_rfl) (by simp) ?_
  refine AllReadyE.cons rfl (fun K hK => ?_) AllReadyE.nil
  refine step_append_rd _ rfl (.tmp 24) (.tmp 29) 51 rfl 0 3 i0 _ 1 8 Tryz.underlying51 hi0 hz0 hz1 hz2 rfl (by omega) (.slice a.A2 m.steps.length a.c2) m.steps.length (stepCells m.steps) rfl ?_ (fun q => q = w1.heap.size) (some ⟨w1.heap.size, 0, none⟩) 1 1 #[.int .i64 (m.at_ : Nat)].toList rfl ?_ ?_ ?_ ?_ ?_ (m.steps.length + 1) rfl (stepCells m.steps ++ #[.int .i64 (m.at_ : Nat)].toList) rfl ?_
  · exact (H1.out.steps.1.drew).alloc _
  · exact Rd.new w1.drew 3 1 1 #[.int .i64 (m.at_ : Nat)] w1.heap.size rfl rfl
  · intro v hv; simp at hv; (first | (rcases hv with rfl | rfl | rfl <;> rfl) | (rcases hv with rfl; rfl))
  · have := hnn.out; simp only [maxLen]; omega
  · have := hnn.out; omega
  · exact Nat.zero_le _
  intro A3 c3 w3 hown3 hg3 hat3
  have hu9 : Hid (Upd (fun q => (Value.slice a.A2 m.steps.length a.c2).ownBlock = some q) w1 w3) := hid (((Upd.refl _ w1).drew.alloc _).grown hg3 fun q hq _ => hq)
  have hO3 := hid hown3
  have hat9 : Hid ((Value.slice A3 (m.steps.length + 1) c3).ownBlock = (Value.slice a.A2 m.steps.length a.c2).ownBlock ∨ ∃ k, w1.heap.size ≤ k ∧ (Value.slice A3 (m.steps.length + 1) c3).ownBlock = some k) := hid (by
    rcases hat3 with e | e
    · exact .inl e
    · exact .inr ⟨_, by simp, e⟩)
  clear hg3 hat3 hown3
  have r4 : w3.cell? ⟨g, 8, none⟩ = some (.slice a.A2 m.steps.length a.c2) ∧ w3.cell? ⟨g, 6, none⟩ = some (.int .i64 (m.at_ : Nat)) := hkeep.out _ hu9.out
  have q4 : w3.frozen? ⟨g, 8, none⟩ = false := (H1.out.blk.upd hu9.out hgo.out).frozen 8
  have r7 := r4.1
  refine hK.out _ _ (fun _ => r4) ?_
  clear hK K
  (try simp only [Act.put, List.setIfInBounds_toArray, List.set_cons_zero, List.set_cons_succ, List.getElem_toArray, List.getElem_cons_zero, List.getElem_cons_succ])
  refine wpAnyE_take [12, 13] (i := 11) (v := ?v29) rfl (by kernel_rfl) (by kernel_rfl) (by kernel_rfl) (by rfl) (by kernel_rfl) (by kernel_rfl) (fun _ _ _ h => h) (Or.inl ⟨by rfl, ?hy29⟩) (r4) ?rest29
  case hy29 => intro w hSw; (try dsimp only at hSw); go_simp; try with_reducible rfl
  (try simp only [Act.put, List.setIfInBounds_toArray, List.set_cons_zero, List.set_cons_succ, List.getElem_toArray, List.getElem_cons_zero, List.getElem_cons_succ])
  refine wpAnyE_take [13] (i := 12) (v := ?v30) rfl (by kernel_rfl) (by kernel_rfl) (by kernel_rfl) (by rfl) (by kernel_rfl) (by kernel_rfl) (fun _ _ _ h => h) (Or.inl ⟨by rfl, ?hy30⟩) (r4) ?rest30
  case hy30 => intro w hSw; (try dsimp only at hSw); go_simp; try with_reducible rfl
  (try simp only [Act.put, List.setIfInBounds_toArray, List.set_cons_zero, List.set_cons_succ, List.getElem_toArray, List.getElem_cons_zero, List.getElem_cons_succ])
  refine wpAnyE_ready (rs := [13]) (by kernel_rfl) (by simp) ?_
  refine AllReadyE.cons rfl (fun K hK => ?_) AllReadyE.nil
  go_simp
  refine hK.out _ _ (fun h => absurd rfl h) ?_
  clear hK K
  (try simp only [Act.put, List.setIfInBounds_toArray, List.set_cons_zero, List.set_cons_succ, List.getElem_toArray, List.getElem_cons_zero, List.getElem_cons_succ])
  refine wpAnyE_done (by kernel_rfl) ?_ _
  obtain ⟨S2, h1, h2, h3, h4⟩ := H1.out.stepped (x := m.at_) (Below.refl _ _) hu9.out hO3.out hat9.out (Upd.refl _ _)
  have T := hid (show MAt S2 _ g F m.tick from ⟨_, h1, ha.out⟩)
  have s1 : Hid (∀ q, S2 q → S q ∨ w.heap.size ≤ q) := hid fun q hq => (h2 q hq).imp id fun e => by have := hs1.out; omega
  have s2 := hid h3
  have hU : Hid (Upd S w _) := hid (hU1.out.trans h4 fun _ _ e => e)
  clear h1 h2 h3 h4 hkeep r4 q4 r7 hu9 hO3 hat9 H1
  generalize w3.setCell _ _ = w4 at *
  obtain ⟨b, o, hA, _⟩ := hco.out
  have hX := hid (fun W (hW : Below w4.heap.size w4 W) => (show W.cell? ⟨g, 2, none⟩ = some (.slice (some ⟨b, o, none⟩) F.p.code.length F.ci) ∧ W.cell? ⟨g, 6, none⟩ = some (.int .i64 (m.at_ : Nat)) from by
    obtain ⟨a9, h9, _⟩ := T.out
    have hb := h9.blk.below_all hW
    exact ⟨by rw [← hA]; exact hb.cell 2, hb.cell 6⟩))
  have hY := hid (fun W (hW : Below w4.heap.size w4 W) => (show W.cell? ⟨b, o + m.at_ * 2, none⟩ = some (.int .i64 i.op) ∧ W.cell? ⟨b, o + m.at_ * 2 + 1, none⟩ = some (.int .i64 i.n) from by
    obtain ⟨a9, h9, _⟩ := T.out
    obtain ⟨b', o', e', _, z0, z1⟩ := (h9.code.i.below_all hW).ins_at hat.out
    rw [hA] at e'
    injection e' with e'
    injection e' with e1 e2
    subst e1 e2
    have hi2 : F.p.code[m.at_]'hat.out = i := by rw [hi.out, List.getD_eq_getElem?_getD, List.getElem?_eq_getElem hat.out]; rfl
    rw [hi2] at z0 z1
    exact ⟨z0, z1⟩))
  have ia : (m.at_ : Int) < (F.p.code.length : Int) := by have := hat.out; omega
  have ib : m.at_ < F.p.code.length := hat.out
  have hS4 : Hid (∀ q, S2 q → q < w4.heap.size) := hid T.out.lt
  go_upto_region 3 with fail
  refine wp_region_held_drew (S := fun w'' => Below w4.heap.size w4 w'') (by kernel_rfl) ?_ (fun hHeld => ?_)
  · exact (Below.refl _ _).drew
  have hd0 : Hid (Below w4.heap.size w4 w4.drew) := hid (Below.refl _ _).drew
  generalize World.drew w4 = wd at *
  refine wpAnyH_take (i := 0) (v := ?v512) rfl (by kernel_rfl) (by kernel_rfl) (by kernel_rfl) (fun _ _ _ h => h) (Or.inl ⟨by rfl, ?hy512⟩) (by assumption) ?rest512
  case hy512 => intro w' hSw; have q1 := hX.out w' hSw; obtain ⟨x2, x6⟩ := q1; obtain ⟨c0, c1⟩ := hY.out w' hSw; (try dsimp only at hSw); go_simp; try with_reducible rfl
  (try simp only [Act.put, List.setIfInBounds_toArray, List.set_cons_zero, List.set_cons_succ, List.getElem_toArray, List.getElem_cons_zero, List.getElem_cons_succ])
  refine wpAnyH_take (i := 1) (v := ?v513) rfl (by kernel_rfl) (by kernel_rfl) (by kernel_rfl) (fun _ _ _ h => h) (Or.inl ⟨by rfl, ?hy513⟩) (by assumption) ?rest513
  case hy513 => intro w' hSw; have q1 := hX.out w' hSw; obtain ⟨x2, x6⟩ := q1; obtain ⟨c0, c1⟩ := hY.out w' hSw; (try dsimp only at hSw); go_simp; try with_reducible rfl
  (try simp only [Act.put, List.setIfInBounds_toArray, List.set_cons_zero, List.set_cons_succ, List.getElem_toArray, List.getElem_cons_zero, List.getElem_cons_succ])
  refine wpAnyH_take (i := 2) (v := ?v514) rfl (by kernel_rfl) (by kernel_rfl) (by kernel_rfl) (fun _ _ _ h => h) (Or.inl ⟨by rfl, ?hy514⟩) (by assumption) ?rest514
  case hy514 => intro w' hSw; have q1 := hX.out w' hSw; obtain ⟨x2, x6⟩ := q1; obtain ⟨c0, c1⟩ := hY.out w' hSw; (try dsimp only at hSw); go_simp; try with_reducible rfl
  (try simp only [Act.put, List.setIfInBounds_toArray, List.set_cons_zero, List.set_cons_succ, List.getElem_toArray, List.getElem_cons_zero, List.getElem_cons_succ])
  refine wpAnyH_take (i := 3) (v := ?v515) rfl (by kernel_rfl) (by kernel_rfl) (by kernel_rfl) (fun _ _ _ h => h) (Or.inl ⟨by rfl, ?hy515⟩) (by assumption) ?rest515
  case hy515 => intro w' hSw; have q1 := hX.out w' hSw; obtain ⟨x2, x6⟩ := q1; obtain ⟨c0, c1⟩ := hY.out w' hSw; (try dsimp only at hSw); go_simp; try with_reducible rfl
  (try simp only [Act.put, List.setIfInBounds_toArray, List.set_cons_zero, List.set_cons_succ, List.getElem_toArray, List.getElem_cons_zero, List.getElem_cons_succ])
  refine wpAnyH_take (i := 4) (v := ?v516) rfl (by kernel_rfl) (by kernel_rfl) (by kernel_rfl) (fun _ _ _ h => h) (Or.inl ⟨by rfl, ?hy516⟩) (by assumption) ?rest516
  case hy516 => intro w' hSw; have q1 := hX.out w' hSw; obtain ⟨x2, x6⟩ := q1; obtain ⟨c0, c1⟩ := hY.out w' hSw; (try dsimp only at hSw); go_simp; try with_reducible rfl
  (try simp only [Act.put, List.setIfInBounds_toArray, List.set_cons_zero, List.set_cons_succ, List.getElem_toArray, List.getElem_cons_zero, List.getElem_cons_succ])
  refine wpAnyH_take (i := 5) (v := ?v517) rfl (by kernel_rfl) (by kernel_rfl) (by kernel_rfl) (fun _ _ _ h => h) (Or.inl ⟨by rfl, ?hy517⟩) (by assumption) ?rest517
  case hy517 => intro w' hSw; have q1 := hX.out w' hSw; obtain ⟨x2, x6⟩ := q1; obtain ⟨c0, c1⟩ := hY.out w' hSw; (try dsimp only at hSw); go_simp; try with_reducible rfl
  (try simp only [Act.put, List.setIfInBounds_toArray, List.set_cons_zero, List.set_cons_succ, List.getElem_toArray, List.getElem_cons_zero, List.getElem_cons_succ])
  refine wpAnyH_take (i := 6) (v := ?v518) rfl (by kernel_rfl) (by kernel_rfl) (by kernel_rfl) (fun _ _ _ h => h) (Or.inl ⟨by rfl, ?hy518⟩) (by assumption) ?rest518
  case hy518 => intro w' hSw; have q1 := hX.out w' hSw; obtain ⟨x2, x6⟩ := q1; obtain ⟨c0, c1⟩ := hY.out w' hSw; (try dsimp only at hSw); go_simp; try with_reducible rfl
  (try simp only [Act.put, List.setIfInBounds_toArray, List.set_cons_zero, List.set_cons_succ, List.getElem_toArray, List.getElem_cons_zero, List.getElem_cons_succ])
  refine wpAnyH_take (i := 7) (v := ?v519) rfl (by kernel_rfl) (by kernel_rfl) (by kernel_rfl) (fun _ _ _ h => h) (Or.inl ⟨by rfl, ?hy519⟩) (by assumption) ?rest519
  case hy519 => intro w' hSw; have q1 := hX.out w' hSw; obtain ⟨x2, x6⟩ := q1; obtain ⟨c0, c1⟩ := hY.out w' hSw; (try dsimp only at hSw); go_simp; try with_reducible rfl
  (try simp only [Act.put, List.setIfInBounds_toArray, List.set_cons_zero, List.set_cons_succ, List.getElem_toArray, List.getElem_cons_zero, List.getElem_cons_succ])
  refine wpAnyH_take (i := 8) (v := ?v520) rfl (by kernel_rfl) (by kernel_rfl) (by kernel_rfl) (fun _ _ _ h => h) (Or.inl ⟨by rfl, ?hy520⟩) (by assumption) ?rest520
  case hy520 => intro w' hSw; have q1 := hX.out w' hSw; obtain ⟨x2, x6⟩ := q1; obtain ⟨c0, c1⟩ := hY.out w' hSw; (try dsimp only at hSw); go_simp; try with_reducible rfl
  (try simp only [Act.put, List.setIfInBounds_toArray, List.set_cons_zero, List.set_cons_succ, List.getElem_toArray, List.getElem_cons_zero, List.getElem_cons_succ])
  refine wpAnyH_take (i := 9) (v := ?v521) rfl (by kernel_rfl) (by kernel_rfl) (by kernel_rfl) (fun _ _ _ h => h) (Or.inl ⟨by rfl, ?hy521⟩) (by assumption) ?rest521
  case hy521 => intro w' hSw; have q1 := hX.out w' hSw; obtain ⟨x2, x6⟩ := q1; obtain ⟨c0, c1⟩ := hY.out w' hSw; (try dsimp only at hSw); go_simp; try with_reducible rfl
  (try simp only [Act.put, List.setIfInBounds_toArray, List.set_cons_zero, List.set_cons_succ, List.getElem_toArray, List.getElem_cons_zero, List.getElem_cons_succ])
  refine wpAnyH_take (i := 10) (v := ?v522) rfl (by kernel_rfl) (by kernel_rfl) (by kernel_rfl) (fun _ _ _ h => h) (Or.inl ⟨by rfl, ?hy522⟩) (by assumption) ?rest522
  case hy522 => intro w' hSw; have q1 := hX.out w' hSw; obtain ⟨x2, x6⟩ := q1; obtain ⟨c0, c1⟩ := hY.out w' hSw; (try dsimp only at hSw); go_simp; try with_reducible rfl
  (try simp only [Act.put, List.setIfInBounds_toArray, List.set_cons_zero, List.set_cons_succ, List.getElem_toArray, List.getElem_cons_zero, List.getElem_cons_succ])
  refine wpAnyH_ready (rs := [11]) (by kernel_rfl) (by simp) ?_
  refine AllReadyH.cons rfl (fun K hK => ?_) AllReadyH.nil
  go_simp
  have hd1 := hid (hd0.out.alloc hd0.out.size (.cells #[.int .i64 0, .int .i64 0] 69))
  have kz := hid (Blk.new wd 69 #[.int .i64 0, .int .i64 0])
  have hdz := hid hd0.out.size
  generalize wd.alloc (.cells #[.int .i64 0, .int .i64 0] 69) = we at *
  generalize wd.heap.size = me at *
  refine hK.out _ _ ?_ (fun hHeld => ?_)
  · exact hd1.out
  clear hK K
  (try simp only [Act.put, List.setIfInBounds_toArray, List.set_cons_zero, List.set_cons_succ, List.getElem_toArray, List.getElem_cons_zero, List.getElem_cons_succ])
  refine wpAnyH_ready (rs := [12]) (by kernel_rfl) (by simp) ?_
  refine AllReadyH.cons rfl (fun K hK => ?_) AllReadyH.nil
  have z0 := kz.out.cell 0
  have z1 := kz.out.cell 1
  simp only [List.getElem?_toArray, List.getElem?_cons_zero, List.getElem?_cons_succ] at z0 z1
  have fz := fun q => kz.out.frozen q
  go_simp
  obtain ⟨w5, hwf, hd3, ki⟩ : ∃ w5, ((we.setCell ⟨me, 0, none⟩ (.int .i64 i.op)).setCell ⟨me, 1, none⟩ (.int .i64 i.n)) = w5 ∧ Hid (Below w4.heap.size w4 w5) ∧ Hid (Blk w5 me 69 #[.int .i64 i.op, .int .i64 i.n]) := ⟨_, rfl, hid ((hd1.out.setCell (p := ⟨me, 0, none⟩) hdz.out _).setCell (p := ⟨me, 1, none⟩) hdz.out _), hid (by simpa using (kz.out.set_ 0 (.int .i64 i.op)).set_ 1 (.int .i64 i.n))⟩
  rw [hwf]
  clear hwf z0 z1 fz kz
  refine hK.out _ _ ?_ (fun hHeld => ?_)
  · exact hd3.out
  clear hK K
  (try simp only [Act.put, List.setIfInBounds_toArray, List.set_cons_zero, List.set_cons_succ, List.getElem_toArray, List.getElem_cons_zero, List.getElem_cons_succ])
  refine wpAnyH_done (by kernel_rfl) ?_ _
  have T := hid (T.out.below hd3.out)
  have hU := hid (hU.out.trans (Upd.of_below' hd3.out (fun _ => False)) fun _ _ e => e.elim)
  have hSl : Hid (∀ q, S2 q → q < w5.heap.size) := hid T.out.lt
  obtain ⟨x6, fx6⟩ := T.out.at_cell
  have c0 : w5.cell? ⟨me, 0, none⟩ = some (.int .i64 i.op) := ki.out.cell 0
  have c1 : w5.cell? ⟨me, 1, none⟩ = some (.int .i64 i.n) := ki.out.cell 1
  have i9 : IntKind.i64.wrap ((m.at_ : Int) + 1) = ((m.at_ + 1 : Nat) : Int) := by rw [IntKind.wrap_i64]; have := hat.out; have := hcl.out; omega
  replace x6 : w5.cell? ⟨g, 6, none⟩ = some (.int .i64 (m.at_ : Nat)) := x6
  obtain ⟨nx, hnx⟩ : ∃ nx : Nat, Hid (nx = m.at_ + 1) := ⟨_, hid rfl⟩
  rw [← hnx.out] at i9
  have hmeS : Hid (¬ S2 me) := hid fun e => by have := hS4.out me e; have := hdz.out; omega
  clear hX hY hd0 hd1 hd3 ia ib hHeld hdz hco
  have t6 : decide (i.op ≤ 6) = false := decide_eq_false (by have := hex.out; omega)
  have e18 : (i.op == 18) = true := by have := hex.out; simp; omega
  have hr2 := hid (hr.out.trans (if_neg (by have := hex.out; omega)))
  obtain ⟨k9, hk9⟩ : ∃ k9 : Nat, Hid (i.n = (k9 : Int)) := ⟨i.n.toNat, hid (by have := hkt.out.2.2.2.2.2.2.1; omega)⟩
  have hr3 : Hid (onP F.p F.args F.src m.tick i = .ok { m.tick with at_ := k9 }) := hid (by
    unfold onP
    rw [if_neg (by have := hex.out; omega), if_pos hex.out, show i.n.toNat = k9 from by rw [hk9.out]; rfl])
  rw [hr3.out] at hr2
  rw [hk9.out] at c1
  go_wp2_with fail
  refine ⟨rfl, .tuple #[], by simp [results, Tryz.results72, go_sem], ?_⟩
  rw [← hres.out, hr2.out]
  exact ⟨rfl, MGo.comp s1.out s2.out hU.out (id (T.out.setAt _))⟩
set_option maxRecDepth 100000 in
set_option maxHeartbeats 4000000 in
theorem stepC {d : Nat → Int} (h : MAt S w g F m) (G : Good F.p F.args F.src d) (hk : m.Ok F.p d) (hf : m.fuel ≠ 0) (h6 : (F.p.code.getD m.at_ is0).op = 19) : Calls Tryz.prog 72 #[.pointer (some ⟨g, 0, none⟩)] w (StepPost S w g F (stepP F.p F.args F.src m)) := by
  obtain ⟨i, hi⟩ : ∃ i, Hid (i = F.p.code.getD m.at_ is0) := ⟨_, hid rfl⟩
  obtain ⟨res, hres⟩ : ∃ res, Hid (stepP F.p F.args F.src m = res) := ⟨_, hid rfl⟩
  have hr : Hid (stepP F.p F.args F.src m = if i.op = 31 then .inl ((0, 0), m.tick) else match onP F.p F.args F.src m.tick i with | .ok m' => .inr m' | .error e => .inl (e, m.tick)) := hid (by unfold stepP; rw [if_neg hf, hi.out]; rfl)
  rw [hres.out]
  rw [← hi.out] at h6
  have hkt : Hid (m.tick.Ok0 ∧ m.tick.reads.length < m.tick.steps.length ∧ takes i.op ≤ (m.tick.st.length : Int) ∧ m.tick.st.length ≤ 32 ∧ 1 ≤ i.op ∧ i.op ≤ 31 ∧ 0 ≤ i.n ∧ i.n < F.p.most i.op) := hid (by rw [hi.out]; exact tick_ok G hk hf)
  have hat := hid hk.at_
  have hcl := hid G.n.2
  have hga := hid G.args.1
  have hnn : Hid (m.steps.length ≤ 1000000) := hid (by have := hk.o.fu; omega)
  have hco := hid (show ∃ b o, F.Ai = some ⟨b, o, none⟩ ∧ True from by
    obtain ⟨a, h, _⟩ := h
    obtain ⟨b, o, e, _⟩ := h.code.i.ins_at hk.at_
    exact ⟨b, o, e, trivial⟩)
  have hex := hid h6
  clear h6
  obtain ⟨i0, hi0, hz0, hz1, hz2⟩ := info_parts info_int
  have hlt := hid h.lt
  have hHH := hid h
  obtain ⟨a, h, ha⟩ := h
  have ha := hid ha
  have x7 : w.cell? ⟨g, 7, none⟩ = some (.int .i64 (m.fuel : Nat)) := h.blk.cell 7
  have fz7 := h.blk.frozen 7
  have t0 : decide ((0 : Int) < (m.fuel : Int)) = true := decide_eq_true (by omega)
  have t0n : decide (0 < m.fuel) = true := decide_eq_true (by omega)
  have i1 : IntKind.i64.wrap ((m.fuel : Int) - 1) = ((m.fuel - 1 : Nat) : Int) := by rw [IntKind.wrap_i64]; have := hk.o.fu; omega
  obtain ⟨f1, hf1⟩ : ∃ f1, Hid (m.fuel - 1 = f1) := ⟨_, hid rfl⟩
  have H := hid h
  rw [hf1.out] at i1
  have hu1 := hid ((Upd.refl (fun q => q = g) w).setCell (p := ⟨g, 7, none⟩) (fun _ => rfl) (.int .i64 (f1 : Nat)))
  have H1 : Hid (MIn S (w.setCell ⟨g, 7, none⟩ (.int .i64 (f1 : Nat))) g F { m with st := m.st, at_ := m.at_, fuel := m.fuel - 1 } a) := hid (h.num hu1.out (by rw [hf1.out]; have := h.blk.set_ 7 (.int .i64 (f1 : Nat)); simpa [mCells] using this))
  have hU1 : Hid (Upd S w (w.setCell ⟨g, 7, none⟩ (.int .i64 (f1 : Nat)))) := hid (upd_g hHH.out hu1.out)
  have hs1 : Hid ((w.setCell ⟨g, 7, none⟩ (.int .i64 (f1 : Nat))).heap.size = w.heap.size) := hid (by simp)
  clear h hk hf G hu1
  go_enter Tryz.func72, Tryz.ntmps72
  go_wp2_with fail
  refine (needs_t _ _).mono ?_
  rintro e wq ⟨rfl, hwq⟩
  obtain rfl := hwq.symm
  go_upto_region 2 with fail
  generalize w.setCell ⟨g, 7, none⟩ (.int .i64 (f1 : Nat)) = w1 at *
  clear t0 t0n i1 x7 fz7
  have hgo : Hid (¬ (Value.slice a.A2 m.steps.length a.c2).ownBlock = some g) := hid fun e => by
    obtain ⟨cur, hc⟩ := own_blk H1.out.steps e
    exact absurd (blk_ty hc H1.out.blk) (by decide)
  have hkeep : Hid (∀ w', Upd (fun q => (Value.slice a.A2 m.steps.length a.c2).ownBlock = some q) w1 w' → w'.cell? ⟨g, 8, none⟩ = some (.slice a.A2 m.steps.length a.c2) ∧ w'.cell? ⟨g, 6, none⟩ = some (.int .i64 (m.at_ : Nat))) := hid fun w' hu => ⟨(H1.out.blk.upd hu hgo.out).cell 8, (H1.out.blk.upd hu hgo.out).cell 6⟩
  have hHeld : w1.drew.cell? ⟨g, 8, none⟩ = some (.slice a.A2 m.steps.length a.c2) ∧ w1.drew.cell? ⟨g, 6, none⟩ = some (.int .i64 (m.at_ : Nat)) := ⟨H1.out.blk.drew.cell 8, H1.out.blk.drew.cell 6⟩
  refine wp_region_heldE (S := fun w' => w'.cell? ⟨g, 8, none⟩ = some (.slice a.A2 m.steps.length a.c2) ∧ w'.cell? ⟨g, 6, none⟩ = some (.int .i64 (m.at_ : Nat))) 13 (by kernel_rfl) ?_
  refine wpAnyE_take [11, 12, 13] (i := 0) (v := ?v31) rfl (by kernel_rfl) (by kernel_rfl) (by kernel_rfl) (by rfl) (by kernel_rfl) (by kernel_rfl) (fun _ _ _ h => h) (Or.inl ⟨by rfl, ?hy31⟩) (hHeld) ?rest31
  case hy31 => intro w hSw; (try dsimp only at hSw); go_simp; try with_reducible rfl
  (try simp only [Act.put, List.setIfInBounds_toArray, List.set_cons_zero, List.set_cons_succ, List.getElem_toArray, List.getElem_cons_zero, List.getElem_cons_succ])
  refine wpAnyE_take [2, 3, 4, 10, 11, 12, 13] (i := 1) (v := ?v32) rfl (by kernel_rfl) (by kernel_rfl) (by kernel_rfl) (by rfl) (by kernel_rfl) (by kernel_rfl) (fun _ _ _ h => h) (Or.inl ⟨by rfl, ?hy32⟩) (hHeld) ?rest32
  case hy32 => intro w hSw; (try dsimp only at hSw); go_simp; try with_reducible rfl
  (try simp only [Act.put, List.setIfInBounds_toArray, List.set_cons_zero, List.set_cons_succ, List.getElem_toArray, List.getElem_cons_zero, List.getElem_cons_succ])
  refine wpAnyE_take [3, 4, 10, 11, 12, 13] (i := 2) (v := ?v33) rfl (by kernel_rfl) (by kernel_rfl) (by kernel_rfl) (by rfl) (by kernel_rfl) (by kernel_rfl) (fun _ _ _ h => h) (Or.inl ⟨by rfl, ?hy33⟩) (hHeld) ?rest33
  case hy33 => intro w hSw; (try dsimp only at hSw); go_simp; try with_reducible rfl
  (try simp only [Act.put, List.setIfInBounds_toArray, List.set_cons_zero, List.set_cons_succ, List.getElem_toArray, List.getElem_cons_zero, List.getElem_cons_succ])
  refine wpAnyE_take [4, 10, 11, 12, 13] (i := 3) (v := ?v34) rfl (by kernel_rfl) (by kernel_rfl) (by kernel_rfl) (by rfl) (by kernel_rfl) (by kernel_rfl) (fun _ _ _ h => h) (Or.inl ⟨by rfl, ?hy34⟩) (hHeld) ?rest34
  case hy34 => intro w hSw; (try dsimp only at hSw); go_simp; try with_reducible rfl
  (try simp only [Act.put, List.setIfInBounds_toArray, List.set_cons_zero, List.set_cons_succ, List.getElem_toArray, List.getElem_cons_zero, List.getElem_cons_succ])
  refine wpAnyE_take [10, 11, 12, 13] (i := 4) (v := ?v35) rfl (by kernel_rfl) (by kernel_rfl) (by kernel_rfl) (by rfl) (by kernel_rfl) (by kernel_rfl) (fun _ _ _ h => h) (Or.inl ⟨by rfl, ?hy35⟩) (hHeld) ?rest35
  case hy35 => intro w hSw; (try dsimp only at hSw); go_simp; try with_reducible rfl
  (try simp only [Act.put, List.setIfInBounds_toArray, List.set_cons_zero, List.set_cons_succ, List.getElem_toArray, List.getElem_cons_zero, List.getElem_cons_succ])
  refine wpAnyE_take [6, 7, 8, 9, 10, 11, 12, 13] (i := 5) (v := ?v36) rfl (by kernel_rfl) (by kernel_rfl) (by kernel_rfl) (by rfl) (by kernel_rfl) (by kernel_rfl) (fun _ _ _ h => h) (Or.inl ⟨by rfl, ?hy36⟩) (hHeld) ?rest36
  case hy36 => intro w hSw; (try dsimp only at hSw); go_simp; try with_reducible rfl
  (try simp only [Act.put, List.setIfInBounds_toArray, List.set_cons_zero, List.set_cons_succ, List.getElem_toArray, List.getElem_cons_zero, List.getElem_cons_succ])
  refine wpAnyE_take [7, 8, 9, 10, 11, 12, 13] (i := 6) (v := ?v37) rfl (by kernel_rfl) (by kernel_rfl) (by kernel_rfl) (by rfl) (by kernel_rfl) (by kernel_rfl) (fun _ _ _ h => h) (Or.inl ⟨by rfl, ?hy37⟩) (hHeld) ?rest37
  case hy37 => intro w hSw; (try dsimp only at hSw); go_simp; try with_reducible rfl
  (try simp only [Act.put, List.setIfInBounds_toArray, List.set_cons_zero, List.set_cons_succ, List.getElem_toArray, List.getElem_cons_zero, List.getElem_cons_succ])
  refine wpAnyE_take [8, 9, 10, 11, 12, 13] (i := 7) (v := ?v38) rfl (by kernel_rfl) (by kernel_rfl) (by kernel_rfl) (by rfl) (by kernel_rfl) (by kernel_rfl) (fun _ _ _ h => h) (Or.inl ⟨by rfl, ?hy38⟩) (hHeld) ?rest38
  case hy38 => intro w hSw; (try dsimp only at hSw); go_simp; try with_reducible rfl
  (try simp only [Act.put, List.setIfInBounds_toArray, List.set_cons_zero, List.set_cons_succ, List.getElem_toArray, List.getElem_cons_zero, List.getElem_cons_succ])
  refine wpAnyE_take [9, 10, 11, 12, 13] (i := 8) (v := ?v39) rfl (by kernel_rfl) (by kernel_rfl) (by kernel_rfl) (by rfl) (by kernel_rfl) (by kernel_rfl) (fun _ _ _ h => h) (Or.inl ⟨by rfl, ?hy39⟩) (hHeld) ?rest39
  case hy39 => intro w hSw; (try dsimp only at hSw); go_simp; try with_reducible rfl
  (try simp only [Act.put, List.setIfInBounds_toArray, List.set_cons_zero, List.set_cons_succ, List.getElem_toArray, List.getElem_cons_zero, List.getElem_cons_succ])
  refine wpAnyE_ready (rs := [9]) (by kernel_rfl) (by simp) ?_
  refine AllReadyE.cons rfl (fun K hK => ?_) AllReadyE.nil
  go_simp
  refine hK.out _ _ (fun _ => ⟨(H1.out.blk.drew.alloc _).cell 8, (H1.out.blk.drew.alloc _).cell 6⟩) ?_
  clear hK K
  (try simp only [Act.put, List.setIfInBounds_toArray, List.set_cons_zero, List.set_cons_succ, List.getElem_toArray, List.getElem_cons_zero, List.getElem_cons_succ])
  refine wpAnyE_ready (rs := [10]) (by kernel_rfl) (by simp) ?_
  refine AllReadyE.cons rfl (fun K hK => ?_) AllReadyE.nil
  refine step_append_rd _ rfl (.tmp 24) (.tmp 29) 51 rfl 0 3 i0 _ 1 8 Tryz.underlying51 hi0 hz0 hz1 hz2 rfl (by omega) (.slice a.A2 m.steps.length a.c2) m.steps.length (stepCells m.steps) rfl ?_ (fun q => q = w1.heap.size) (some ⟨w1.heap.size, 0, none⟩) 1 1 #[.int .i64 (m.at_ : Nat)].toList rfl ?_ ?_ ?_ ?_ ?_ (m.steps.length + 1) rfl (stepCells m.steps ++ #[.int .i64 (m.at_ : Nat)].toList) rfl ?_
  · exact (H1.out.steps.1.drew).alloc _
  · exact Rd.new w1.drew 3 1 1 #[.int .i64 (m.at_ : Nat)] w1.heap.size rfl rfl
  · intro v hv; simp at hv; (first | (rcases hv with rfl | rfl | rfl <;> rfl) | (rcases hv with rfl; rfl))
  · have := hnn.out; simp only [maxLen]; omega
  · have := hnn.out; omega
  · exact Nat.zero_le _
  intro A3 c3 w3 hown3 hg3 hat3
  have hu9 : Hid (Upd (fun q => (Value.slice a.A2 m.steps.length a.c2).ownBlock = some q) w1 w3) := hid (((Upd.refl _ w1).drew.alloc _).grown hg3 fun q hq _ => hq)
  have hO3 := hid hown3
  have hat9 : Hid ((Value.slice A3 (m.steps.length + 1) c3).ownBlock = (Value.slice a.A2 m.steps.length a.c2).ownBlock ∨ ∃ k, w1.heap.size ≤ k ∧ (Value.slice A3 (m.steps.length + 1) c3).ownBlock = some k) := hid (by
    rcases hat3 with e | e
    · exact .inl e
    · exact .inr ⟨_, by simp, e⟩)
  clear hg3 hat3 hown3
  have r4 : w3.cell? ⟨g, 8, none⟩ = some (.slice a.A2 m.steps.length a.c2) ∧ w3.cell? ⟨g, 6, none⟩ = some (.int .i64 (m.at_ : Nat)) := hkeep.out _ hu9.out
  have q4 : w3.frozen? ⟨g, 8, none⟩ = false := (H1.out.blk.upd hu9.out hgo.out).frozen 8
  have r7 := r4.1
  refine hK.out _ _ (fun _ => r4) ?_
  clear hK K
  (try simp only [Act.put, List.setIfInBounds_toArray, List.set_cons_zero, List.set_cons_succ, List.getElem_toArray, List.getElem_cons_zero, List.getElem_cons_succ])
  refine wpAnyE_take [12, 13] (i := 11) (v := ?v40) rfl (by kernel_rfl) (by kernel_rfl) (by kernel_rfl) (by rfl) (by kernel_rfl) (by kernel_rfl) (fun _ _ _ h => h) (Or.inl ⟨by rfl, ?hy40⟩) (r4) ?rest40
  case hy40 => intro w hSw; (try dsimp only at hSw); go_simp; try with_reducible rfl
  (try simp only [Act.put, List.setIfInBounds_toArray, List.set_cons_zero, List.set_cons_succ, List.getElem_toArray, List.getElem_cons_zero, List.getElem_cons_succ])
  refine wpAnyE_take [13] (i := 12) (v := ?v41) rfl (by kernel_rfl) (by kernel_rfl) (by kernel_rfl) (by rfl) (by kernel_rfl) (by kernel_rfl) (fun _ _ _ h => h) (Or.inl ⟨by rfl, ?hy41⟩) (r4) ?rest41
  case hy41 => intro w hSw; (try dsimp only at hSw); go_simp; try with_reducible rfl
  (try simp only [Act.put, List.setIfInBounds_toArray, List.set_cons_zero, List.set_cons_succ, List.getElem_toArray, List.getElem_cons_zero, List.getElem_cons_succ])
  refine wpAnyE_ready (rs := [13]) (by kernel_rfl) (by simp) ?_
  refine AllReadyE.cons rfl (fun K hK => ?_) AllReadyE.nil
  go_simp
  refine hK.out _ _ (fun h => absurd rfl h) ?_
  clear hK K
  (try simp only [Act.put, List.setIfInBounds_toArray, List.set_cons_zero, List.set_cons_succ, List.getElem_toArray, List.getElem_cons_zero, List.getElem_cons_succ])
  refine wpAnyE_done (by kernel_rfl) ?_ _
  obtain ⟨S2, h1, h2, h3, h4⟩ := H1.out.stepped (x := m.at_) (Below.refl _ _) hu9.out hO3.out hat9.out (Upd.refl _ _)
  have T := hid (show MAt S2 _ g F m.tick from ⟨_, h1, ha.out⟩)
  have s1 : Hid (∀ q, S2 q → S q ∨ w.heap.size ≤ q) := hid fun q hq => (h2 q hq).imp id fun e => by have := hs1.out; omega
  have s2 := hid h3
  have hU : Hid (Upd S w _) := hid (hU1.out.trans h4 fun _ _ e => e)
  clear h1 h2 h3 h4 hkeep r4 q4 r7 hu9 hO3 hat9 H1
  generalize w3.setCell _ _ = w4 at *
  obtain ⟨b, o, hA, _⟩ := hco.out
  have hX := hid (fun W (hW : Below w4.heap.size w4 W) => (show W.cell? ⟨g, 2, none⟩ = some (.slice (some ⟨b, o, none⟩) F.p.code.length F.ci) ∧ W.cell? ⟨g, 6, none⟩ = some (.int .i64 (m.at_ : Nat)) from by
    obtain ⟨a9, h9, _⟩ := T.out
    have hb := h9.blk.below_all hW
    exact ⟨by rw [← hA]; exact hb.cell 2, hb.cell 6⟩))
  have hY := hid (fun W (hW : Below w4.heap.size w4 W) => (show W.cell? ⟨b, o + m.at_ * 2, none⟩ = some (.int .i64 i.op) ∧ W.cell? ⟨b, o + m.at_ * 2 + 1, none⟩ = some (.int .i64 i.n) from by
    obtain ⟨a9, h9, _⟩ := T.out
    obtain ⟨b', o', e', _, z0, z1⟩ := (h9.code.i.below_all hW).ins_at hat.out
    rw [hA] at e'
    injection e' with e'
    injection e' with e1 e2
    subst e1 e2
    have hi2 : F.p.code[m.at_]'hat.out = i := by rw [hi.out, List.getD_eq_getElem?_getD, List.getElem?_eq_getElem hat.out]; rfl
    rw [hi2] at z0 z1
    exact ⟨z0, z1⟩))
  have ia : (m.at_ : Int) < (F.p.code.length : Int) := by have := hat.out; omega
  have ib : m.at_ < F.p.code.length := hat.out
  have hS4 : Hid (∀ q, S2 q → q < w4.heap.size) := hid T.out.lt
  go_upto_region 3 with fail
  refine wp_region_held_drew (S := fun w'' => Below w4.heap.size w4 w'') (by kernel_rfl) ?_ (fun hHeld => ?_)
  · exact (Below.refl _ _).drew
  have hd0 : Hid (Below w4.heap.size w4 w4.drew) := hid (Below.refl _ _).drew
  generalize World.drew w4 = wd at *
  refine wpAnyH_take (i := 0) (v := ?v523) rfl (by kernel_rfl) (by kernel_rfl) (by kernel_rfl) (fun _ _ _ h => h) (Or.inl ⟨by rfl, ?hy523⟩) (by assumption) ?rest523
  case hy523 => intro w' hSw; have q1 := hX.out w' hSw; obtain ⟨x2, x6⟩ := q1; obtain ⟨c0, c1⟩ := hY.out w' hSw; (try dsimp only at hSw); go_simp; try with_reducible rfl
  (try simp only [Act.put, List.setIfInBounds_toArray, List.set_cons_zero, List.set_cons_succ, List.getElem_toArray, List.getElem_cons_zero, List.getElem_cons_succ])
  refine wpAnyH_take (i := 1) (v := ?v524) rfl (by kernel_rfl) (by kernel_rfl) (by kernel_rfl) (fun _ _ _ h => h) (Or.inl ⟨by rfl, ?hy524⟩) (by assumption) ?rest524
  case hy524 => intro w' hSw; have q1 := hX.out w' hSw; obtain ⟨x2, x6⟩ := q1; obtain ⟨c0, c1⟩ := hY.out w' hSw; (try dsimp only at hSw); go_simp; try with_reducible rfl
  (try simp only [Act.put, List.setIfInBounds_toArray, List.set_cons_zero, List.set_cons_succ, List.getElem_toArray, List.getElem_cons_zero, List.getElem_cons_succ])
  refine wpAnyH_take (i := 2) (v := ?v525) rfl (by kernel_rfl) (by kernel_rfl) (by kernel_rfl) (fun _ _ _ h => h) (Or.inl ⟨by rfl, ?hy525⟩) (by assumption) ?rest525
  case hy525 => intro w' hSw; have q1 := hX.out w' hSw; obtain ⟨x2, x6⟩ := q1; obtain ⟨c0, c1⟩ := hY.out w' hSw; (try dsimp only at hSw); go_simp; try with_reducible rfl
  (try simp only [Act.put, List.setIfInBounds_toArray, List.set_cons_zero, List.set_cons_succ, List.getElem_toArray, List.getElem_cons_zero, List.getElem_cons_succ])
  refine wpAnyH_take (i := 3) (v := ?v526) rfl (by kernel_rfl) (by kernel_rfl) (by kernel_rfl) (fun _ _ _ h => h) (Or.inl ⟨by rfl, ?hy526⟩) (by assumption) ?rest526
  case hy526 => intro w' hSw; have q1 := hX.out w' hSw; obtain ⟨x2, x6⟩ := q1; obtain ⟨c0, c1⟩ := hY.out w' hSw; (try dsimp only at hSw); go_simp; try with_reducible rfl
  (try simp only [Act.put, List.setIfInBounds_toArray, List.set_cons_zero, List.set_cons_succ, List.getElem_toArray, List.getElem_cons_zero, List.getElem_cons_succ])
  refine wpAnyH_take (i := 4) (v := ?v527) rfl (by kernel_rfl) (by kernel_rfl) (by kernel_rfl) (fun _ _ _ h => h) (Or.inl ⟨by rfl, ?hy527⟩) (by assumption) ?rest527
  case hy527 => intro w' hSw; have q1 := hX.out w' hSw; obtain ⟨x2, x6⟩ := q1; obtain ⟨c0, c1⟩ := hY.out w' hSw; (try dsimp only at hSw); go_simp; try with_reducible rfl
  (try simp only [Act.put, List.setIfInBounds_toArray, List.set_cons_zero, List.set_cons_succ, List.getElem_toArray, List.getElem_cons_zero, List.getElem_cons_succ])
  refine wpAnyH_take (i := 5) (v := ?v528) rfl (by kernel_rfl) (by kernel_rfl) (by kernel_rfl) (fun _ _ _ h => h) (Or.inl ⟨by rfl, ?hy528⟩) (by assumption) ?rest528
  case hy528 => intro w' hSw; have q1 := hX.out w' hSw; obtain ⟨x2, x6⟩ := q1; obtain ⟨c0, c1⟩ := hY.out w' hSw; (try dsimp only at hSw); go_simp; try with_reducible rfl
  (try simp only [Act.put, List.setIfInBounds_toArray, List.set_cons_zero, List.set_cons_succ, List.getElem_toArray, List.getElem_cons_zero, List.getElem_cons_succ])
  refine wpAnyH_take (i := 6) (v := ?v529) rfl (by kernel_rfl) (by kernel_rfl) (by kernel_rfl) (fun _ _ _ h => h) (Or.inl ⟨by rfl, ?hy529⟩) (by assumption) ?rest529
  case hy529 => intro w' hSw; have q1 := hX.out w' hSw; obtain ⟨x2, x6⟩ := q1; obtain ⟨c0, c1⟩ := hY.out w' hSw; (try dsimp only at hSw); go_simp; try with_reducible rfl
  (try simp only [Act.put, List.setIfInBounds_toArray, List.set_cons_zero, List.set_cons_succ, List.getElem_toArray, List.getElem_cons_zero, List.getElem_cons_succ])
  refine wpAnyH_take (i := 7) (v := ?v530) rfl (by kernel_rfl) (by kernel_rfl) (by kernel_rfl) (fun _ _ _ h => h) (Or.inl ⟨by rfl, ?hy530⟩) (by assumption) ?rest530
  case hy530 => intro w' hSw; have q1 := hX.out w' hSw; obtain ⟨x2, x6⟩ := q1; obtain ⟨c0, c1⟩ := hY.out w' hSw; (try dsimp only at hSw); go_simp; try with_reducible rfl
  (try simp only [Act.put, List.setIfInBounds_toArray, List.set_cons_zero, List.set_cons_succ, List.getElem_toArray, List.getElem_cons_zero, List.getElem_cons_succ])
  refine wpAnyH_take (i := 8) (v := ?v531) rfl (by kernel_rfl) (by kernel_rfl) (by kernel_rfl) (fun _ _ _ h => h) (Or.inl ⟨by rfl, ?hy531⟩) (by assumption) ?rest531
  case hy531 => intro w' hSw; have q1 := hX.out w' hSw; obtain ⟨x2, x6⟩ := q1; obtain ⟨c0, c1⟩ := hY.out w' hSw; (try dsimp only at hSw); go_simp; try with_reducible rfl
  (try simp only [Act.put, List.setIfInBounds_toArray, List.set_cons_zero, List.set_cons_succ, List.getElem_toArray, List.getElem_cons_zero, List.getElem_cons_succ])
  refine wpAnyH_take (i := 9) (v := ?v532) rfl (by kernel_rfl) (by kernel_rfl) (by kernel_rfl) (fun _ _ _ h => h) (Or.inl ⟨by rfl, ?hy532⟩) (by assumption) ?rest532
  case hy532 => intro w' hSw; have q1 := hX.out w' hSw; obtain ⟨x2, x6⟩ := q1; obtain ⟨c0, c1⟩ := hY.out w' hSw; (try dsimp only at hSw); go_simp; try with_reducible rfl
  (try simp only [Act.put, List.setIfInBounds_toArray, List.set_cons_zero, List.set_cons_succ, List.getElem_toArray, List.getElem_cons_zero, List.getElem_cons_succ])
  refine wpAnyH_take (i := 10) (v := ?v533) rfl (by kernel_rfl) (by kernel_rfl) (by kernel_rfl) (fun _ _ _ h => h) (Or.inl ⟨by rfl, ?hy533⟩) (by assumption) ?rest533
  case hy533 => intro w' hSw; have q1 := hX.out w' hSw; obtain ⟨x2, x6⟩ := q1; obtain ⟨c0, c1⟩ := hY.out w' hSw; (try dsimp only at hSw); go_simp; try with_reducible rfl
  (try simp only [Act.put, List.setIfInBounds_toArray, List.set_cons_zero, List.set_cons_succ, List.getElem_toArray, List.getElem_cons_zero, List.getElem_cons_succ])
  refine wpAnyH_ready (rs := [11]) (by kernel_rfl) (by simp) ?_
  refine AllReadyH.cons rfl (fun K hK => ?_) AllReadyH.nil
  go_simp
  have hd1 := hid (hd0.out.alloc hd0.out.size (.cells #[.int .i64 0, .int .i64 0] 69))
  have kz := hid (Blk.new wd 69 #[.int .i64 0, .int .i64 0])
  have hdz := hid hd0.out.size
  generalize wd.alloc (.cells #[.int .i64 0, .int .i64 0] 69) = we at *
  generalize wd.heap.size = me at *
  refine hK.out _ _ ?_ (fun hHeld => ?_)
  · exact hd1.out
  clear hK K
  (try simp only [Act.put, List.setIfInBounds_toArray, List.set_cons_zero, List.set_cons_succ, List.getElem_toArray, List.getElem_cons_zero, List.getElem_cons_succ])
  refine wpAnyH_ready (rs := [12]) (by kernel_rfl) (by simp) ?_
  refine AllReadyH.cons rfl (fun K hK => ?_) AllReadyH.nil
  have z0 := kz.out.cell 0
  have z1 := kz.out.cell 1
  simp only [List.getElem?_toArray, List.getElem?_cons_zero, List.getElem?_cons_succ] at z0 z1
  have fz := fun q => kz.out.frozen q
  go_simp
  obtain ⟨w5, hwf, hd3, ki⟩ : ∃ w5, ((we.setCell ⟨me, 0, none⟩ (.int .i64 i.op)).setCell ⟨me, 1, none⟩ (.int .i64 i.n)) = w5 ∧ Hid (Below w4.heap.size w4 w5) ∧ Hid (Blk w5 me 69 #[.int .i64 i.op, .int .i64 i.n]) := ⟨_, rfl, hid ((hd1.out.setCell (p := ⟨me, 0, none⟩) hdz.out _).setCell (p := ⟨me, 1, none⟩) hdz.out _), hid (by simpa using (kz.out.set_ 0 (.int .i64 i.op)).set_ 1 (.int .i64 i.n))⟩
  rw [hwf]
  clear hwf z0 z1 fz kz
  refine hK.out _ _ ?_ (fun hHeld => ?_)
  · exact hd3.out
  clear hK K
  (try simp only [Act.put, List.setIfInBounds_toArray, List.set_cons_zero, List.set_cons_succ, List.getElem_toArray, List.getElem_cons_zero, List.getElem_cons_succ])
  refine wpAnyH_done (by kernel_rfl) ?_ _
  have T := hid (T.out.below hd3.out)
  have hU := hid (hU.out.trans (Upd.of_below' hd3.out (fun _ => False)) fun _ _ e => e.elim)
  have hSl : Hid (∀ q, S2 q → q < w5.heap.size) := hid T.out.lt
  obtain ⟨x6, fx6⟩ := T.out.at_cell
  have c0 : w5.cell? ⟨me, 0, none⟩ = some (.int .i64 i.op) := ki.out.cell 0
  have c1 : w5.cell? ⟨me, 1, none⟩ = some (.int .i64 i.n) := ki.out.cell 1
  have i9 : IntKind.i64.wrap ((m.at_ : Int) + 1) = ((m.at_ + 1 : Nat) : Int) := by rw [IntKind.wrap_i64]; have := hat.out; have := hcl.out; omega
  replace x6 : w5.cell? ⟨g, 6, none⟩ = some (.int .i64 (m.at_ : Nat)) := x6
  obtain ⟨nx, hnx⟩ : ∃ nx : Nat, Hid (nx = m.at_ + 1) := ⟨_, hid rfl⟩
  rw [← hnx.out] at i9
  have hmeS : Hid (¬ S2 me) := hid fun e => by have := hS4.out me e; have := hdz.out; omega
  clear hX hY hd0 hd1 hd3 ia ib hHeld hdz hco
  have t6 : decide (i.op ≤ 6) = false := decide_eq_false (by have := hex.out; omega)
  have e18 : (i.op == 18) = false := by have := hex.out; simp; omega
  have e19 : (i.op == 19) = true := by have := hex.out; simp; omega
  have hr2 := hid (hr.out.trans (if_neg (by have := hex.out; omega)))
  obtain ⟨a9, r9, hst⟩ : ∃ a9 r9, Hid (m.st = a9 :: r9) := by
    have h9 : takes i.op ≤ (m.st.length : Int) := hkt.out.2.2.1
    rw [hex.out] at h9
    have h9 : (1 : Int) ≤ (m.st.length : Int) := h9
    cases hm : m.st with
    | nil => rw [hm] at h9; simp at h9
    | cons x l => exact ⟨x, l, hid rfl⟩
  have hr3 : Hid (onP F.p F.args F.src m.tick i = if a9.k = 1 then .ok { m.tick with st := r9, at_ := if a9.n = 0 then i.n.toNat else m.at_ + 1 } else .error (72, 0)) := hid (by
    unfold onP
    rw [if_neg (by have := hex.out; omega), if_neg (by have := hex.out; omega), if_pos hex.out]
    show (match m.st with | a :: r => _ | [] => _) = _
    rw [hst.out]
    rfl)
  rw [hr3.out] at hr2
  obtain ⟨k9, hk9⟩ : ∃ k9 : Nat, Hid (i.n = (k9 : Int)) := ⟨i.n.toNat, hid (by have := hkt.out.2.2.2.2.2.2.1; omega)⟩
  have hkk : Hid (i.n.toNat = k9) := hid (by rw [hk9.out]; rfl)
  have hpop := hid (pop_any a9 r9 T.out hst.out (by have h9 := hkt.out.2.2.2.1; have h8 : m.st.length ≤ 32 := h9; rw [hst.out] at h8; simp at h8; omega))
  clear hr3
  go_wp2_with fail
  refine hpop.out.mono ?_
  rintro e w6 ⟨rfl, S6, hA6, a1, a2, a3⟩
  have a1 := hid a1
  have a2 := hid a2
  have hme : Hid (me < w5.heap.size ∧ ¬ S2 me) := hid ⟨ki.out.lt, hmeS.out⟩
  have ki := hid (ki.out.upd a3 hme.out.2)
  have a3 := hid a3
  go_upto_region 15 with fail
  have hb7 := hid ((Below.refl w6.heap.size w6).alloc (Nat.le_refl _) (.cells #[.int .i64 a9.k, .int .i64 a9.n, .string a9.s] 55))
  have ka := hid (Blk.new w6 55 #[.int .i64 a9.k, .int .i64 a9.n, .string a9.s])
  have A6 := hid (hA6.below hb7.out)
  have ki := hid (ki.out.below_all hb7.out)
  have hl6 := hid hA6.lt
  have B6 := hb7
  clear hA6 x6 fx6 c0 c1 hb7
  generalize w6.alloc (.cells #[.int .i64 a9.k, .int .i64 a9.n, .string a9.s] 55) = w7 at *
  obtain ⟨p6, hp6⟩ : ∃ p6, Hid (w6.heap.size = p6) := ⟨_, hid rfl⟩
  rw [hp6.out] at ka ⊢
  have y0 : w7.cell? ⟨p6, 0, none⟩ = some (.int .i64 a9.k) := ka.out.cell 0
  have y1 : w7.cell? ⟨p6, 1, none⟩ = some (.int .i64 a9.n) := ka.out.cell 1
  have y2 : w7.cell? ⟨p6, 2, none⟩ = some (.string a9.s) := ka.out.cell 2
  have c0 : w7.cell? ⟨me, 0, none⟩ = some (.int .i64 i.op) := ki.out.cell 0
  have c1 : w7.cell? ⟨me, 1, none⟩ = some (.int .i64 i.n) := ki.out.cell 1
  by_cases hk1 : a9.k = 1
  · have hne : Hid (numsE [a9] = .returned (.tuple #[])) := hid (by unfold numsE; rw [if_pos (by simp [hk1])])
    rw [if_pos hk1] at hr2
    clear hk1
    have hbs := hid ((Below.refl w7.heap.size w7).alloc (Nat.le_refl _) (.cells #[.int .i64 a9.k, .int .i64 a9.n, .string a9.s] 55))
    have hnu := hid (numbers_any (S := fun q => q = w7.heap.size) (A := some ⟨w7.heap.size, 0, none⟩) (c := 1) [a9] (w7.alloc (.cells #[.int .i64 a9.k, .int .i64 a9.n, .string a9.s] 55)) (Rd.new w7 55 3 1 #[.int .i64 a9.k, .int .i64 a9.n, .string a9.s] w7.heap.size rfl rfl) (by simp))
    rw [hne.out] at hnu
    go_wp2_with fail
    refine hnu.out.mono ?_
    rintro e w8 ⟨rfl, hb80⟩
    have hb8 := hid (hbs.out.trans (hb80.mono hbs.out.size))
    have A6 := hid (A6.out.below hb8.out)
    have B6 := hid (B6.out.trans (hb8.out.mono B6.out.size))
    have ka := hid (ka.out.below_all hb8.out)
    have ki := hid (ki.out.below_all hb8.out)
    clear hb80 hb8 hbs hnu hne y0 y1 y2 c0 c1
    have y1 : w8.cell? ⟨p6, 1, none⟩ = some (.int .i64 a9.n) := ka.out.cell 1
    have c1 : w8.cell? ⟨me, 1, none⟩ = some (.int .i64 i.n) := ki.out.cell 1
    rw [hk9.out] at c1
    by_cases hz : a9.n = 0
    · have tz : (a9.n == 0) = true := by simpa using hz
      have hr3 : Hid (stepP F.p F.args F.src m = .inr { m.tick with st := r9, at_ := k9 }) := hid (by rw [hr2.out]; show Sum.inr _ = _; rw [if_pos hz, hkk.out])
      clear hz hr2
      obtain ⟨x6, fx6⟩ := A6.out.at_cell
      go_wp2_with fail
      refine ⟨rfl, .tuple #[], by simp [results, Tryz.results72, go_sem], ?_⟩
      rw [← hres.out, hr3.out]
      exact ⟨rfl, MGo.comp s1.out s2.out hU.out (MGo.comp a1.out a2.out a3.out ((A6.out.setAt _).pre B6.out hl6.out))⟩
    · have tz : (a9.n == 0) = false := by simpa using hz
      have hr3 : Hid (stepP F.p F.args F.src m = .inr { m.tick with st := r9, at_ := nx }) := hid (by rw [hr2.out, hnx.out]; show Sum.inr _ = _; rw [if_neg hz])
      clear hz hr2
      obtain ⟨x6, fx6⟩ := A6.out.at_cell
      go_wp2_with fail
      refine ⟨rfl, .tuple #[], by simp [results, Tryz.results72, go_sem], ?_⟩
      rw [← hres.out, hr3.out]
      exact ⟨rfl, MGo.comp s1.out s2.out hU.out (MGo.comp a1.out a2.out a3.out ((A6.out.setAt _).pre B6.out hl6.out))⟩
  · have hne : Hid (numsE [a9] = .panicked [{ v := .iface 92 (.agg #[.int .i64 72, .int .i64 0]), recovered := false }]) := hid (by unfold numsE; rw [if_neg (by simpa using hk1)])
    rw [if_neg hk1] at hr2
    clear hk1
    have hbs := hid ((Below.refl w7.heap.size w7).alloc (Nat.le_refl _) (.cells #[.int .i64 a9.k, .int .i64 a9.n, .string a9.s] 55))
    have hnu := hid (numbers_any (S := fun q => q = w7.heap.size) (A := some ⟨w7.heap.size, 0, none⟩) (c := 1) [a9] (w7.alloc (.cells #[.int .i64 a9.k, .int .i64 a9.n, .string a9.s] 55)) (Rd.new w7 55 3 1 #[.int .i64 a9.k, .int .i64 a9.n, .string a9.s] w7.heap.size rfl rfl) (by simp))
    rw [hne.out] at hnu
    go_wp2_with fail
    refine hnu.out.mono ?_
    rintro e w8 ⟨rfl, hb80⟩
    have hb8 := hid (hbs.out.trans (hb80.mono hbs.out.size))
    have A6 := hid (A6.out.below hb8.out)
    have B6 := hid (B6.out.trans (hb8.out.mono B6.out.size))
    have ka := hid (ka.out.below_all hb8.out)
    have ki := hid (ki.out.below_all hb8.out)
    clear hb80 hb8 hbs hnu hne y0 y1 y2 c0 c1
    go_wp2_with fail
    refine ⟨rfl, ?_⟩
    rw [← hres.out, hr2.out]
    exact ⟨rfl, r9, MGo.comp s1.out s2.out hU.out (MGo.comp a1.out a2.out a3.out ((A6.out.go (Below.refl _ _)).pre B6.out hl6.out))⟩
set_option maxRecDepth 100000 in
set_option maxHeartbeats 4000000 in
theorem stepD {d : Nat → Int} (h : MAt S w g F m) (G : Good F.p F.args F.src d) (hk : m.Ok F.p d) (hf : m.fuel ≠ 0) (h6 : (F.p.code.getD m.at_ is0).op = 31) : Calls Tryz.prog 72 #[.pointer (some ⟨g, 0, none⟩)] w (StepPost S w g F (stepP F.p F.args F.src m)) := by
  obtain ⟨i, hi⟩ : ∃ i, Hid (i = F.p.code.getD m.at_ is0) := ⟨_, hid rfl⟩
  obtain ⟨res, hres⟩ : ∃ res, Hid (stepP F.p F.args F.src m = res) := ⟨_, hid rfl⟩
  have hr : Hid (stepP F.p F.args F.src m = if i.op = 31 then .inl ((0, 0), m.tick) else match onP F.p F.args F.src m.tick i with | .ok m' => .inr m' | .error e => .inl (e, m.tick)) := hid (by unfold stepP; rw [if_neg hf, hi.out]; rfl)
  rw [hres.out]
  rw [← hi.out] at h6
  have hkt : Hid (m.tick.Ok0 ∧ m.tick.reads.length < m.tick.steps.length ∧ takes i.op ≤ (m.tick.st.length : Int) ∧ m.tick.st.length ≤ 32 ∧ 1 ≤ i.op ∧ i.op ≤ 31 ∧ 0 ≤ i.n ∧ i.n < F.p.most i.op) := hid (by rw [hi.out]; exact tick_ok G hk hf)
  have hat := hid hk.at_
  have hcl := hid G.n.2
  have hga := hid G.args.1
  have hnn : Hid (m.steps.length ≤ 1000000) := hid (by have := hk.o.fu; omega)
  have hco := hid (show ∃ b o, F.Ai = some ⟨b, o, none⟩ ∧ True from by
    obtain ⟨a, h, _⟩ := h
    obtain ⟨b, o, e, _⟩ := h.code.i.ins_at hk.at_
    exact ⟨b, o, e, trivial⟩)
  have hex := hid h6
  clear h6
  obtain ⟨i0, hi0, hz0, hz1, hz2⟩ := info_parts info_int
  have hlt := hid h.lt
  have hHH := hid h
  obtain ⟨a, h, ha⟩ := h
  have ha := hid ha
  have x7 : w.cell? ⟨g, 7, none⟩ = some (.int .i64 (m.fuel : Nat)) := h.blk.cell 7
  have fz7 := h.blk.frozen 7
  have t0 : decide ((0 : Int) < (m.fuel : Int)) = true := decide_eq_true (by omega)
  have t0n : decide (0 < m.fuel) = true := decide_eq_true (by omega)
  have i1 : IntKind.i64.wrap ((m.fuel : Int) - 1) = ((m.fuel - 1 : Nat) : Int) := by rw [IntKind.wrap_i64]; have := hk.o.fu; omega
  obtain ⟨f1, hf1⟩ : ∃ f1, Hid (m.fuel - 1 = f1) := ⟨_, hid rfl⟩
  have H := hid h
  rw [hf1.out] at i1
  have hu1 := hid ((Upd.refl (fun q => q = g) w).setCell (p := ⟨g, 7, none⟩) (fun _ => rfl) (.int .i64 (f1 : Nat)))
  have H1 : Hid (MIn S (w.setCell ⟨g, 7, none⟩ (.int .i64 (f1 : Nat))) g F { m with st := m.st, at_ := m.at_, fuel := m.fuel - 1 } a) := hid (h.num hu1.out (by rw [hf1.out]; have := h.blk.set_ 7 (.int .i64 (f1 : Nat)); simpa [mCells] using this))
  have hU1 : Hid (Upd S w (w.setCell ⟨g, 7, none⟩ (.int .i64 (f1 : Nat)))) := hid (upd_g hHH.out hu1.out)
  have hs1 : Hid ((w.setCell ⟨g, 7, none⟩ (.int .i64 (f1 : Nat))).heap.size = w.heap.size) := hid (by simp)
  clear h hk hf G hu1
  go_enter Tryz.func72, Tryz.ntmps72
  go_wp2_with fail
  refine (needs_t _ _).mono ?_
  rintro e wq ⟨rfl, hwq⟩
  obtain rfl := hwq.symm
  go_upto_region 2 with fail
  generalize w.setCell ⟨g, 7, none⟩ (.int .i64 (f1 : Nat)) = w1 at *
  clear t0 t0n i1 x7 fz7
  have hgo : Hid (¬ (Value.slice a.A2 m.steps.length a.c2).ownBlock = some g) := hid fun e => by
    obtain ⟨cur, hc⟩ := own_blk H1.out.steps e
    exact absurd (blk_ty hc H1.out.blk) (by decide)
  have hkeep : Hid (∀ w', Upd (fun q => (Value.slice a.A2 m.steps.length a.c2).ownBlock = some q) w1 w' → w'.cell? ⟨g, 8, none⟩ = some (.slice a.A2 m.steps.length a.c2) ∧ w'.cell? ⟨g, 6, none⟩ = some (.int .i64 (m.at_ : Nat))) := hid fun w' hu => ⟨(H1.out.blk.upd hu hgo.out).cell 8, (H1.out.blk.upd hu hgo.out).cell 6⟩
  have hHeld : w1.drew.cell? ⟨g, 8, none⟩ = some (.slice a.A2 m.steps.length a.c2) ∧ w1.drew.cell? ⟨g, 6, none⟩ = some (.int .i64 (m.at_ : Nat)) := ⟨H1.out.blk.drew.cell 8, H1.out.blk.drew.cell 6⟩
  refine wp_region_heldE (S := fun w' => w'.cell? ⟨g, 8, none⟩ = some (.slice a.A2 m.steps.length a.c2) ∧ w'.cell? ⟨g, 6, none⟩ = some (.int .i64 (m.at_ : Nat))) 13 (by kernel_rfl) ?_
  refine wpAnyE_take [11, 12, 13] (i := 0) (v := ?v42) rfl (by kernel_rfl) (by kernel_rfl) (by kernel_rfl) (by rfl) (by kernel_rfl) (by kernel_rfl) (fun _ _ _ h => h) (Or.inl ⟨by rfl, ?hy42⟩) (hHeld) ?rest42
  case hy42 => intro w hSw; (try dsimp only at hSw); go_simp; try with_reducible rfl
  (try simp only [Act.put, List.setIfInBounds_toArray, List.set_cons_zero, List.set_cons_succ, List.getElem_toArray, List.getElem_cons_zero, List.getElem_cons_succ])
  refine wpAnyE_take [2, 3, 4, 10, 11, 12, 13] (i := 1) (v := ?v43) rfl (by kernel_rfl) (by kernel_rfl) (by kernel_rfl) (by rfl) (by kernel_rfl) (by kernel_rfl) (fun _ _ _ h => h) (Or.inl ⟨by rfl, ?hy43⟩) (hHeld) ?rest43
  case hy43 => intro w hSw; (try dsimp only at hSw); go_simp; try with_reducible rfl
  (try simp only [Act.put, List.setIfInBounds_toArray, List.set_cons_zero, List.set_cons_succ, List.getElem_toArray, List.getElem_cons_zero, List.getElem_cons_succ])
  refine wpAnyE_take [3, 4, 10, 11, 12, 13] (i := 2) (v := ?v44) rfl (by kernel_rfl) (by kernel_rfl) (by kernel_rfl) (by rfl) (by kernel_rfl) (by kernel_rfl) (fun _ _ _ h => h) (Or.inl ⟨by rfl, ?hy44⟩) (hHeld) ?rest44
  case hy44 => intro w hSw; (try dsimp only at hSw); go_simp; try with_reducible rfl
  (try simp only [Act.put, List.setIfInBounds_toArray, List.set_cons_zero, List.set_cons_succ, List.getElem_toArray, List.getElem_cons_zero, List.getElem_cons_succ])
  refine wpAnyE_take [4, 10, 11, 12, 13] (i := 3) (v := ?v45) rfl (by kernel_rfl) (by kernel_rfl) (by kernel_rfl) (by rfl) (by kernel_rfl) (by kernel_rfl) (fun _ _ _ h => h) (Or.inl ⟨by rfl, ?hy45⟩) (hHeld) ?rest45
  case hy45 => intro w hSw; (try dsimp only at hSw); go_simp; try with_reducible rfl
  (try simp only [Act.put, List.setIfInBounds_toArray, List.set_cons_zero, List.set_cons_succ, List.getElem_toArray, List.getElem_cons_zero, List.getElem_cons_succ])
  refine wpAnyE_take [10, 11, 12, 13] (i := 4) (v := ?v46) rfl (by kernel_rfl) (by kernel_rfl) (by kernel_rfl) (by rfl) (by kernel_rfl) (by kernel_rfl) (fun _ _ _ h => h) (Or.inl ⟨by rfl, ?hy46⟩) (hHeld) ?rest46
  case hy46 => intro w hSw; (try dsimp only at hSw); go_simp; try with_reducible rfl
  (try simp only [Act.put, List.setIfInBounds_toArray, List.set_cons_zero, List.set_cons_succ, List.getElem_toArray, List.getElem_cons_zero, List.getElem_cons_succ])
  refine wpAnyE_take [6, 7, 8, 9, 10, 11, 12, 13] (i := 5) (v := ?v47) rfl (by kernel_rfl) (by kernel_rfl) (by kernel_rfl) (by rfl) (by kernel_rfl) (by kernel_rfl) (fun _ _ _ h => h) (Or.inl ⟨by rfl, ?hy47⟩) (hHeld) ?rest47
  case hy47 => intro w hSw; (try dsimp only at hSw); go_simp; try with_reducible rfl
  (try simp only [Act.put, List.setIfInBounds_toArray, List.set_cons_zero, List.set_cons_succ, List.getElem_toArray, List.getElem_cons_zero, List.getElem_cons_succ])
  refine wpAnyE_take [7, 8, 9, 10, 11, 12, 13] (i := 6) (v := ?v48) rfl (by kernel_rfl) (by kernel_rfl) (by kernel_rfl) (by rfl) (by kernel_rfl) (by kernel_rfl) (fun _ _ _ h => h) (Or.inl ⟨by rfl, ?hy48⟩) (hHeld) ?rest48
  case hy48 => intro w hSw; (try dsimp only at hSw); go_simp; try with_reducible rfl
  (try simp only [Act.put, List.setIfInBounds_toArray, List.set_cons_zero, List.set_cons_succ, List.getElem_toArray, List.getElem_cons_zero, List.getElem_cons_succ])
  refine wpAnyE_take [8, 9, 10, 11, 12, 13] (i := 7) (v := ?v49) rfl (by kernel_rfl) (by kernel_rfl) (by kernel_rfl) (by rfl) (by kernel_rfl) (by kernel_rfl) (fun _ _ _ h => h) (Or.inl ⟨by rfl, ?hy49⟩) (hHeld) ?rest49
  case hy49 => intro w hSw; (try dsimp only at hSw); go_simp; try with_reducible rfl
  (try simp only [Act.put, List.setIfInBounds_toArray, List.set_cons_zero, List.set_cons_succ, List.getElem_toArray, List.getElem_cons_zero, List.getElem_cons_succ])
  refine wpAnyE_take [9, 10, 11, 12, 13] (i := 8) (v := ?v50) rfl (by kernel_rfl) (by kernel_rfl) (by kernel_rfl) (by rfl) (by kernel_rfl) (by kernel_rfl) (fun _ _ _ h => h) (Or.inl ⟨by rfl, ?hy50⟩) (hHeld) ?rest50
  case hy50 => intro w hSw; (try dsimp only at hSw); go_simp; try with_reducible rfl
  (try simp only [Act.put, List.setIfInBounds_toArray, List.set_cons_zero, List.set_cons_succ, List.getElem_toArray, List.getElem_cons_zero, List.getElem_cons_succ])
  refine wpAnyE_ready (rs := [9]) (by kernel_rfl) (by simp) ?_
  refine AllReadyE.cons rfl (fun K hK => ?_) AllReadyE.nil
  go_simp
  refine hK.out _ _ (fun _ => ⟨(H1.out.blk.drew.alloc _).cell 8, (H1.out.blk.drew.alloc _).cell 6⟩) ?_
  clear hK K
  (try simp only [Act.put, List.setIfInBounds_toArray, List.set_cons_zero, List.set_cons_succ, List.getElem_toArray, List.getElem_cons_zero, List.getElem_cons_succ])
  refine wpAnyE_ready (rs := [10]) (by kernel_rfl) (by simp) ?_
  refine AllReadyE.cons rfl (fun K hK => ?_) AllReadyE.nil
  refine step_append_rd _ rfl (.tmp 24) (.tmp 29) 51 rfl 0 3 i0 _ 1 8 Tryz.underlying51 hi0 hz0 hz1 hz2 rfl (by omega) (.slice a.A2 m.steps.length a.c2) m.steps.length (stepCells m.steps) rfl ?_ (fun q => q = w1.heap.size) (some ⟨w1.heap.size, 0, none⟩) 1 1 #[.int .i64 (m.at_ : Nat)].toList rfl ?_ ?_ ?_ ?_ ?_ (m.steps.length + 1) rfl (stepCells m.steps ++ #[.int .i64 (m.at_ : Nat)].toList) rfl ?_
  · exact (H1.out.steps.1.drew).alloc _
  · exact Rd.new w1.drew 3 1 1 #[.int .i64 (m.at_ : Nat)] w1.heap.size rfl rfl
  · intro v hv; simp at hv; (first | (rcases hv with rfl | rfl | rfl <;> rfl) | (rcases hv with rfl; rfl))
  · have := hnn.out; simp only [maxLen]; omega
  · have := hnn.out; omega
  · exact Nat.zero_le _
  intro A3 c3 w3 hown3 hg3 hat3
  have hu9 : Hid (Upd (fun q => (Value.slice a.A2 m.steps.length a.c2).ownBlock = some q) w1 w3) := hid (((Upd.refl _ w1).drew.alloc _).grown hg3 fun q hq _ => hq)
  have hO3 := hid hown3
  have hat9 : Hid ((Value.slice A3 (m.steps.length + 1) c3).ownBlock = (Value.slice a.A2 m.steps.length a.c2).ownBlock ∨ ∃ k, w1.heap.size ≤ k ∧ (Value.slice A3 (m.steps.length + 1) c3).ownBlock = some k) := hid (by
    rcases hat3 with e | e
    · exact .inl e
    · exact .inr ⟨_, by simp, e⟩)
  clear hg3 hat3 hown3
  have r4 : w3.cell? ⟨g, 8, none⟩ = some (.slice a.A2 m.steps.length a.c2) ∧ w3.cell? ⟨g, 6, none⟩ = some (.int .i64 (m.at_ : Nat)) := hkeep.out _ hu9.out
  have q4 : w3.frozen? ⟨g, 8, none⟩ = false := (H1.out.blk.upd hu9.out hgo.out).frozen 8
  have r7 := r4.1
  refine hK.out _ _ (fun _ => r4) ?_
  clear hK K
  (try simp only [Act.put, List.setIfInBounds_toArray, List.set_cons_zero, List.set_cons_succ, List.getElem_toArray, List.getElem_cons_zero, List.getElem_cons_succ])
  refine wpAnyE_take [12, 13] (i := 11) (v := ?v51) rfl (by kernel_rfl) (by kernel_rfl) (by kernel_rfl) (by rfl) (by kernel_rfl) (by kernel_rfl) (fun _ _ _ h => h) (Or.inl ⟨by rfl, ?hy51⟩) (r4) ?rest51
  case hy51 => intro w hSw; (try dsimp only at hSw); go_simp; try with_reducible rfl
  (try simp only [Act.put, List.setIfInBounds_toArray, List.set_cons_zero, List.set_cons_succ, List.getElem_toArray, List.getElem_cons_zero, List.getElem_cons_succ])
  refine wpAnyE_take [13] (i := 12) (v := ?v52) rfl (by kernel_rfl) (by kernel_rfl) (by kernel_rfl) (by rfl) (by kernel_rfl) (by kernel_rfl) (fun _ _ _ h => h) (Or.inl ⟨by rfl, ?hy52⟩) (r4) ?rest52
  case hy52 => intro w hSw; (try dsimp only at hSw); go_simp; try with_reducible rfl
  (try simp only [Act.put, List.setIfInBounds_toArray, List.set_cons_zero, List.set_cons_succ, List.getElem_toArray, List.getElem_cons_zero, List.getElem_cons_succ])
  refine wpAnyE_ready (rs := [13]) (by kernel_rfl) (by simp) ?_
  refine AllReadyE.cons rfl (fun K hK => ?_) AllReadyE.nil
  go_simp
  refine hK.out _ _ (fun h => absurd rfl h) ?_
  clear hK K
  (try simp only [Act.put, List.setIfInBounds_toArray, List.set_cons_zero, List.set_cons_succ, List.getElem_toArray, List.getElem_cons_zero, List.getElem_cons_succ])
  refine wpAnyE_done (by kernel_rfl) ?_ _
  obtain ⟨S2, h1, h2, h3, h4⟩ := H1.out.stepped (x := m.at_) (Below.refl _ _) hu9.out hO3.out hat9.out (Upd.refl _ _)
  have T := hid (show MAt S2 _ g F m.tick from ⟨_, h1, ha.out⟩)
  have s1 : Hid (∀ q, S2 q → S q ∨ w.heap.size ≤ q) := hid fun q hq => (h2 q hq).imp id fun e => by have := hs1.out; omega
  have s2 := hid h3
  have hU : Hid (Upd S w _) := hid (hU1.out.trans h4 fun _ _ e => e)
  clear h1 h2 h3 h4 hkeep r4 q4 r7 hu9 hO3 hat9 H1
  generalize w3.setCell _ _ = w4 at *
  obtain ⟨b, o, hA, _⟩ := hco.out
  have hX := hid (fun W (hW : Below w4.heap.size w4 W) => (show W.cell? ⟨g, 2, none⟩ = some (.slice (some ⟨b, o, none⟩) F.p.code.length F.ci) ∧ W.cell? ⟨g, 6, none⟩ = some (.int .i64 (m.at_ : Nat)) from by
    obtain ⟨a9, h9, _⟩ := T.out
    have hb := h9.blk.below_all hW
    exact ⟨by rw [← hA]; exact hb.cell 2, hb.cell 6⟩))
  have hY := hid (fun W (hW : Below w4.heap.size w4 W) => (show W.cell? ⟨b, o + m.at_ * 2, none⟩ = some (.int .i64 i.op) ∧ W.cell? ⟨b, o + m.at_ * 2 + 1, none⟩ = some (.int .i64 i.n) from by
    obtain ⟨a9, h9, _⟩ := T.out
    obtain ⟨b', o', e', _, z0, z1⟩ := (h9.code.i.below_all hW).ins_at hat.out
    rw [hA] at e'
    injection e' with e'
    injection e' with e1 e2
    subst e1 e2
    have hi2 : F.p.code[m.at_]'hat.out = i := by rw [hi.out, List.getD_eq_getElem?_getD, List.getElem?_eq_getElem hat.out]; rfl
    rw [hi2] at z0 z1
    exact ⟨z0, z1⟩))
  have ia : (m.at_ : Int) < (F.p.code.length : Int) := by have := hat.out; omega
  have ib : m.at_ < F.p.code.length := hat.out
  have hS4 : Hid (∀ q, S2 q → q < w4.heap.size) := hid T.out.lt
  go_upto_region 3 with fail
  refine wp_region_held_drew (S := fun w'' => Below w4.heap.size w4 w'') (by kernel_rfl) ?_ (fun hHeld => ?_)
  · exact (Below.refl _ _).drew
  have hd0 : Hid (Below w4.heap.size w4 w4.drew) := hid (Below.refl _ _).drew
  generalize World.drew w4 = wd at *
  refine wpAnyH_take (i := 0) (v := ?v534) rfl (by kernel_rfl) (by kernel_rfl) (by kernel_rfl) (fun _ _ _ h => h) (Or.inl ⟨by rfl, ?hy534⟩) (by assumption) ?rest534
  case hy534 => intro w' hSw; have q1 := hX.out w' hSw; obtain ⟨x2, x6⟩ := q1; obtain ⟨c0, c1⟩ := hY.out w' hSw; (try dsimp only at hSw); go_simp; try with_reducible rfl
  (try simp only [Act.put, List.setIfInBounds_toArray, List.set_cons_zero, List.set_cons_succ, List.getElem_toArray, List.getElem_cons_zero, List.getElem_cons_succ])
  refine wpAnyH_take (i := 1) (v := ?v535) rfl (by kernel_rfl) (by kernel_rfl) (by kernel_rfl) (fun _ _ _ h => h) (Or.inl ⟨by rfl, ?hy535⟩) (by assumption) ?rest535
  case hy535 => intro w' hSw; have q1 := hX.out w' hSw; obtain ⟨x2, x6⟩ := q1; obtain ⟨c0, c1⟩ := hY.out w' hSw; (try dsimp only at hSw); go_simp; try with_reducible rfl
  (try simp only [Act.put, List.setIfInBounds_toArray, List.set_cons_zero, List.set_cons_succ, List.getElem_toArray, List.getElem_cons_zero, List.getElem_cons_succ])
  refine wpAnyH_take (i := 2) (v := ?v536) rfl (by kernel_rfl) (by kernel_rfl) (by kernel_rfl) (fun _ _ _ h => h) (Or.inl ⟨by rfl, ?hy536⟩) (by assumption) ?rest536
  case hy536 => intro w' hSw; have q1 := hX.out w' hSw; obtain ⟨x2, x6⟩ := q1; obtain ⟨c0, c1⟩ := hY.out w' hSw; (try dsimp only at hSw); go_simp; try with_reducible rfl
  (try simp only [Act.put, List.setIfInBounds_toArray, List.set_cons_zero, List.set_cons_succ, List.getElem_toArray, List.getElem_cons_zero, List.getElem_cons_succ])
  refine wpAnyH_take (i := 3) (v := ?v537) rfl (by kernel_rfl) (by kernel_rfl) (by kernel_rfl) (fun _ _ _ h => h) (Or.inl ⟨by rfl, ?hy537⟩) (by assumption) ?rest537
  case hy537 => intro w' hSw; have q1 := hX.out w' hSw; obtain ⟨x2, x6⟩ := q1; obtain ⟨c0, c1⟩ := hY.out w' hSw; (try dsimp only at hSw); go_simp; try with_reducible rfl
  (try simp only [Act.put, List.setIfInBounds_toArray, List.set_cons_zero, List.set_cons_succ, List.getElem_toArray, List.getElem_cons_zero, List.getElem_cons_succ])
  refine wpAnyH_take (i := 4) (v := ?v538) rfl (by kernel_rfl) (by kernel_rfl) (by kernel_rfl) (fun _ _ _ h => h) (Or.inl ⟨by rfl, ?hy538⟩) (by assumption) ?rest538
  case hy538 => intro w' hSw; have q1 := hX.out w' hSw; obtain ⟨x2, x6⟩ := q1; obtain ⟨c0, c1⟩ := hY.out w' hSw; (try dsimp only at hSw); go_simp; try with_reducible rfl
  (try simp only [Act.put, List.setIfInBounds_toArray, List.set_cons_zero, List.set_cons_succ, List.getElem_toArray, List.getElem_cons_zero, List.getElem_cons_succ])
  refine wpAnyH_take (i := 5) (v := ?v539) rfl (by kernel_rfl) (by kernel_rfl) (by kernel_rfl) (fun _ _ _ h => h) (Or.inl ⟨by rfl, ?hy539⟩) (by assumption) ?rest539
  case hy539 => intro w' hSw; have q1 := hX.out w' hSw; obtain ⟨x2, x6⟩ := q1; obtain ⟨c0, c1⟩ := hY.out w' hSw; (try dsimp only at hSw); go_simp; try with_reducible rfl
  (try simp only [Act.put, List.setIfInBounds_toArray, List.set_cons_zero, List.set_cons_succ, List.getElem_toArray, List.getElem_cons_zero, List.getElem_cons_succ])
  refine wpAnyH_take (i := 6) (v := ?v540) rfl (by kernel_rfl) (by kernel_rfl) (by kernel_rfl) (fun _ _ _ h => h) (Or.inl ⟨by rfl, ?hy540⟩) (by assumption) ?rest540
  case hy540 => intro w' hSw; have q1 := hX.out w' hSw; obtain ⟨x2, x6⟩ := q1; obtain ⟨c0, c1⟩ := hY.out w' hSw; (try dsimp only at hSw); go_simp; try with_reducible rfl
  (try simp only [Act.put, List.setIfInBounds_toArray, List.set_cons_zero, List.set_cons_succ, List.getElem_toArray, List.getElem_cons_zero, List.getElem_cons_succ])
  refine wpAnyH_take (i := 7) (v := ?v541) rfl (by kernel_rfl) (by kernel_rfl) (by kernel_rfl) (fun _ _ _ h => h) (Or.inl ⟨by rfl, ?hy541⟩) (by assumption) ?rest541
  case hy541 => intro w' hSw; have q1 := hX.out w' hSw; obtain ⟨x2, x6⟩ := q1; obtain ⟨c0, c1⟩ := hY.out w' hSw; (try dsimp only at hSw); go_simp; try with_reducible rfl
  (try simp only [Act.put, List.setIfInBounds_toArray, List.set_cons_zero, List.set_cons_succ, List.getElem_toArray, List.getElem_cons_zero, List.getElem_cons_succ])
  refine wpAnyH_take (i := 8) (v := ?v542) rfl (by kernel_rfl) (by kernel_rfl) (by kernel_rfl) (fun _ _ _ h => h) (Or.inl ⟨by rfl, ?hy542⟩) (by assumption) ?rest542
  case hy542 => intro w' hSw; have q1 := hX.out w' hSw; obtain ⟨x2, x6⟩ := q1; obtain ⟨c0, c1⟩ := hY.out w' hSw; (try dsimp only at hSw); go_simp; try with_reducible rfl
  (try simp only [Act.put, List.setIfInBounds_toArray, List.set_cons_zero, List.set_cons_succ, List.getElem_toArray, List.getElem_cons_zero, List.getElem_cons_succ])
  refine wpAnyH_take (i := 9) (v := ?v543) rfl (by kernel_rfl) (by kernel_rfl) (by kernel_rfl) (fun _ _ _ h => h) (Or.inl ⟨by rfl, ?hy543⟩) (by assumption) ?rest543
  case hy543 => intro w' hSw; have q1 := hX.out w' hSw; obtain ⟨x2, x6⟩ := q1; obtain ⟨c0, c1⟩ := hY.out w' hSw; (try dsimp only at hSw); go_simp; try with_reducible rfl
  (try simp only [Act.put, List.setIfInBounds_toArray, List.set_cons_zero, List.set_cons_succ, List.getElem_toArray, List.getElem_cons_zero, List.getElem_cons_succ])
  refine wpAnyH_take (i := 10) (v := ?v544) rfl (by kernel_rfl) (by kernel_rfl) (by kernel_rfl) (fun _ _ _ h => h) (Or.inl ⟨by rfl, ?hy544⟩) (by assumption) ?rest544
  case hy544 => intro w' hSw; have q1 := hX.out w' hSw; obtain ⟨x2, x6⟩ := q1; obtain ⟨c0, c1⟩ := hY.out w' hSw; (try dsimp only at hSw); go_simp; try with_reducible rfl
  (try simp only [Act.put, List.setIfInBounds_toArray, List.set_cons_zero, List.set_cons_succ, List.getElem_toArray, List.getElem_cons_zero, List.getElem_cons_succ])
  refine wpAnyH_ready (rs := [11]) (by kernel_rfl) (by simp) ?_
  refine AllReadyH.cons rfl (fun K hK => ?_) AllReadyH.nil
  go_simp
  have hd1 := hid (hd0.out.alloc hd0.out.size (.cells #[.int .i64 0, .int .i64 0] 69))
  have kz := hid (Blk.new wd 69 #[.int .i64 0, .int .i64 0])
  have hdz := hid hd0.out.size
  generalize wd.alloc (.cells #[.int .i64 0, .int .i64 0] 69) = we at *
  generalize wd.heap.size = me at *
  refine hK.out _ _ ?_ (fun hHeld => ?_)
  · exact hd1.out
  clear hK K
  (try simp only [Act.put, List.setIfInBounds_toArray, List.set_cons_zero, List.set_cons_succ, List.getElem_toArray, List.getElem_cons_zero, List.getElem_cons_succ])
  refine wpAnyH_ready (rs := [12]) (by kernel_rfl) (by simp) ?_
  refine AllReadyH.cons rfl (fun K hK => ?_) AllReadyH.nil
  have z0 := kz.out.cell 0
  have z1 := kz.out.cell 1
  simp only [List.getElem?_toArray, List.getElem?_cons_zero, List.getElem?_cons_succ] at z0 z1
  have fz := fun q => kz.out.frozen q
  go_simp
  obtain ⟨w5, hwf, hd3, ki⟩ : ∃ w5, ((we.setCell ⟨me, 0, none⟩ (.int .i64 i.op)).setCell ⟨me, 1, none⟩ (.int .i64 i.n)) = w5 ∧ Hid (Below w4.heap.size w4 w5) ∧ Hid (Blk w5 me 69 #[.int .i64 i.op, .int .i64 i.n]) := ⟨_, rfl, hid ((hd1.out.setCell (p := ⟨me, 0, none⟩) hdz.out _).setCell (p := ⟨me, 1, none⟩) hdz.out _), hid (by simpa using (kz.out.set_ 0 (.int .i64 i.op)).set_ 1 (.int .i64 i.n))⟩
  rw [hwf]
  clear hwf z0 z1 fz kz
  refine hK.out _ _ ?_ (fun hHeld => ?_)
  · exact hd3.out
  clear hK K
  (try simp only [Act.put, List.setIfInBounds_toArray, List.set_cons_zero, List.set_cons_succ, List.getElem_toArray, List.getElem_cons_zero, List.getElem_cons_succ])
  refine wpAnyH_done (by kernel_rfl) ?_ _
  have T := hid (T.out.below hd3.out)
  have hU := hid (hU.out.trans (Upd.of_below' hd3.out (fun _ => False)) fun _ _ e => e.elim)
  have hSl : Hid (∀ q, S2 q → q < w5.heap.size) := hid T.out.lt
  obtain ⟨x6, fx6⟩ := T.out.at_cell
  have c0 : w5.cell? ⟨me, 0, none⟩ = some (.int .i64 i.op) := ki.out.cell 0
  have c1 : w5.cell? ⟨me, 1, none⟩ = some (.int .i64 i.n) := ki.out.cell 1
  have i9 : IntKind.i64.wrap ((m.at_ : Int) + 1) = ((m.at_ + 1 : Nat) : Int) := by rw [IntKind.wrap_i64]; have := hat.out; have := hcl.out; omega
  replace x6 : w5.cell? ⟨g, 6, none⟩ = some (.int .i64 (m.at_ : Nat)) := x6
  obtain ⟨nx, hnx⟩ : ∃ nx : Nat, Hid (nx = m.at_ + 1) := ⟨_, hid rfl⟩
  rw [← hnx.out] at i9
  have hmeS : Hid (¬ S2 me) := hid fun e => by have := hS4.out me e; have := hdz.out; omega
  clear hX hY hd0 hd1 hd3 ia ib hHeld hdz hco
  have t6 : decide (i.op ≤ 6) = false := decide_eq_false (by have := hex.out; omega)
  have e18 : (i.op == 18) = false := by have := hex.out; simp; omega
  have e19 : (i.op == 19) = false := by have := hex.out; simp; omega
  have e31 : (i.op == 31) = true := by have := hex.out; simp; omega
  have hr2 := hid (hr.out.trans (if_pos hex.out))
  go_wp2_with fail
  refine ⟨rfl, ?_⟩
  rw [← hres.out, hr2.out]
  exact ⟨rfl, _, MGo.comp s1.out s2.out hU.out (T.out.go (Below.refl _ _))⟩
set_option maxRecDepth 100000 in
set_option maxHeartbeats 4000000 in
theorem stepE {d : Nat → Int} (h : MAt S w g F m) (G : Good F.p F.args F.src d) (hk : m.Ok F.p d) (hf : m.fuel ≠ 0) (h6 : ¬ (F.p.code.getD m.at_ is0).op ≤ 6 ∧ ¬ (F.p.code.getD m.at_ is0).op = 18 ∧ ¬ (F.p.code.getD m.at_ is0).op = 19 ∧ ¬ (F.p.code.getD m.at_ is0).op = 31 ∧ takes (F.p.code.getD m.at_ is0).op = 2) : Calls Tryz.prog 72 #[.pointer (some ⟨g, 0, none⟩)] w (StepPost S w g F (stepP F.p F.args F.src m)) := by
  obtain ⟨i, hi⟩ : ∃ i, Hid (i = F.p.code.getD m.at_ is0) := ⟨_, hid rfl⟩
  obtain ⟨res, hres⟩ : ∃ res, Hid (stepP F.p F.args F.src m = res) := ⟨_, hid rfl⟩
  have hr : Hid (stepP F.p F.args F.src m = if i.op = 31 then .inl ((0, 0), m.tick) else match onP F.p F.args F.src m.tick i with | .ok m' => .inr m' | .error e => .inl (e, m.tick)) := hid (by unfold stepP; rw [if_neg hf, hi.out]; rfl)
  rw [hres.out]
  rw [← hi.out] at h6
  have hkt : Hid (m.tick.Ok0 ∧ m.tick.reads.length < m.tick.steps.length ∧ takes i.op ≤ (m.tick.st.length : Int) ∧ m.tick.st.length ≤ 32 ∧ 1 ≤ i.op ∧ i.op ≤ 31 ∧ 0 ≤ i.n ∧ i.n < F.p.most i.op) := hid (by rw [hi.out]; exact tick_ok G hk hf)
  have hat := hid hk.at_
  have hcl := hid G.n.2
  have hga := hid G.args.1
  have hnn : Hid (m.steps.length ≤ 1000000) := hid (by have := hk.o.fu; omega)
  have hco := hid (show ∃ b o, F.Ai = some ⟨b, o, none⟩ ∧ True from by
    obtain ⟨a, h, _⟩ := h
    obtain ⟨b, o, e, _⟩ := h.code.i.ins_at hk.at_
    exact ⟨b, o, e, trivial⟩)
  have hex := hid h6
  clear h6
  obtain ⟨i0, hi0, hz0, hz1, hz2⟩ := info_parts info_int
  have hlt := hid h.lt
  have hHH := hid h
  obtain ⟨a, h, ha⟩ := h
  have ha := hid ha
  have x7 : w.cell? ⟨g, 7, none⟩ = some (.int .i64 (m.fuel : Nat)) := h.blk.cell 7
  have fz7 := h.blk.frozen 7
  have t0 : decide ((0 : Int) < (m.fuel : Int)) = true := decide_eq_true (by omega)
  have t0n : decide (0 < m.fuel) = true := decide_eq_true (by omega)
  have i1 : IntKind.i64.wrap ((m.fuel : Int) - 1) = ((m.fuel - 1 : Nat) : Int) := by rw [IntKind.wrap_i64]; have := hk.o.fu; omega
  obtain ⟨f1, hf1⟩ : ∃ f1, Hid (m.fuel - 1 = f1) := ⟨_, hid rfl⟩
  have H := hid h
  rw [hf1.out] at i1
  have hu1 := hid ((Upd.refl (fun q => q = g) w).setCell (p := ⟨g, 7, none⟩) (fun _ => rfl) (.int .i64 (f1 : Nat)))
  have H1 : Hid (MIn S (w.setCell ⟨g, 7, none⟩ (.int .i64 (f1 : Nat))) g F { m with st := m.st, at_ := m.at_, fuel := m.fuel - 1 } a) := hid (h.num hu1.out (by rw [hf1.out]; have := h.blk.set_ 7 (.int .i64 (f1 : Nat)); simpa [mCells] using this))
  have hU1 : Hid (Upd S w (w.setCell ⟨g, 7, none⟩ (.int .i64 (f1 : Nat)))) := hid (upd_g hHH.out hu1.out)
  have hs1 : Hid ((w.setCell ⟨g, 7, none⟩ (.int .i64 (f1 : Nat))).heap.size = w.heap.size) := hid (by simp)
  clear h hk hf G hu1
  go_enter Tryz.func72, Tryz.ntmps72
  go_wp2_with fail
  refine (needs_t _ _).mono ?_
  rintro e wq ⟨rfl, hwq⟩
  obtain rfl := hwq.symm
  go_upto_region 2 with fail
  generalize w.setCell ⟨g, 7, none⟩ (.int .i64 (f1 : Nat)) = w1 at *
  clear t0 t0n i1 x7 fz7
  have hgo : Hid (¬ (Value.slice a.A2 m.steps.length a.c2).ownBlock = some g) := hid fun e => by
    obtain ⟨cur, hc⟩ := own_blk H1.out.steps e
    exact absurd (blk_ty hc H1.out.blk) (by decide)
  have hkeep : Hid (∀ w', Upd (fun q => (Value.slice a.A2 m.steps.length a.c2).ownBlock = some q) w1 w' → w'.cell? ⟨g, 8, none⟩ = some (.slice a.A2 m.steps.length a.c2) ∧ w'.cell? ⟨g, 6, none⟩ = some (.int .i64 (m.at_ : Nat))) := hid fun w' hu => ⟨(H1.out.blk.upd hu hgo.out).cell 8, (H1.out.blk.upd hu hgo.out).cell 6⟩
  have hHeld : w1.drew.cell? ⟨g, 8, none⟩ = some (.slice a.A2 m.steps.length a.c2) ∧ w1.drew.cell? ⟨g, 6, none⟩ = some (.int .i64 (m.at_ : Nat)) := ⟨H1.out.blk.drew.cell 8, H1.out.blk.drew.cell 6⟩
  refine wp_region_heldE (S := fun w' => w'.cell? ⟨g, 8, none⟩ = some (.slice a.A2 m.steps.length a.c2) ∧ w'.cell? ⟨g, 6, none⟩ = some (.int .i64 (m.at_ : Nat))) 13 (by kernel_rfl) ?_
  refine wpAnyE_take [11, 12, 13] (i := 0) (v := ?v53) rfl (by kernel_rfl) (by kernel_rfl) (by kernel_rfl) (by rfl) (by kernel_rfl) (by kernel_rfl) (fun _ _ _ h => h) (Or.inl ⟨by rfl, ?hy53⟩) (hHeld) ?rest53
  case hy53 => intro w hSw; (try dsimp only at hSw); go_simp; try with_reducible rfl
  (try simp only [Act.put, List.setIfInBounds_toArray, List.set_cons_zero, List.set_cons_succ, List.getElem_toArray, List.getElem_cons_zero, List.getElem_cons_succ])
  refine wpAnyE_take [2, 3, 4, 10, 11, 12, 13] (i := 1) (v := ?v54) rfl (by kernel_rfl) (by kernel_rfl) (by kernel_rfl) (by rfl) (by kernel_rfl) (by kernel_rfl) (fun _ _ _ h => h) (Or.inl ⟨by rfl, ?hy54⟩) (hHeld) ?rest54
  case hy54 => intro w hSw; (try dsimp only at hSw); go_simp; try with_reducible rfl
  (try simp only [Act.put, List.setIfInBounds_toArray, List.set_cons_zero, List.set_cons_succ, List.getElem_toArray, List.getElem_cons_zero, List.getElem_cons_succ])
  refine wpAnyE_take [3, 4, 10, 11, 12, 13] (i := 2) (v := ?v55) rfl (by kernel_rfl) (by kernel_rfl) (by kernel_rfl) (by rfl) (by kernel_rfl) (by kernel_rfl) (fun _ _ _ h => h) (Or.inl ⟨by rfl, ?hy55⟩) (hHeld) ?rest55
  case hy55 => intro w hSw; (try dsimp only at hSw); go_simp; try with_reducible rfl
  (try simp only [Act.put, List.setIfInBounds_toArray, List.set_cons_zero, List.set_cons_succ, List.getElem_toArray, List.getElem_cons_zero, List.getElem_cons_succ])
  refine wpAnyE_take [4, 10, 11, 12, 13] (i := 3) (v := ?v56) rfl (by kernel_rfl) (by kernel_rfl) (by kernel_rfl) (by rfl) (by kernel_rfl) (by kernel_rfl) (fun _ _ _ h => h) (Or.inl ⟨by rfl, ?hy56⟩) (hHeld) ?rest56
  case hy56 => intro w hSw; (try dsimp only at hSw); go_simp; try with_reducible rfl
  (try simp only [Act.put, List.setIfInBounds_toArray, List.set_cons_zero, List.set_cons_succ, List.getElem_toArray, List.getElem_cons_zero, List.getElem_cons_succ])
  refine wpAnyE_take [10, 11, 12, 13] (i := 4) (v := ?v57) rfl (by kernel_rfl) (by kernel_rfl) (by kernel_rfl) (by rfl) (by kernel_rfl) (by kernel_rfl) (fun _ _ _ h => h) (Or.inl ⟨by rfl, ?hy57⟩) (hHeld) ?rest57
  case hy57 => intro w hSw; (try dsimp only at hSw); go_simp; try with_reducible rfl
  (try simp only [Act.put, List.setIfInBounds_toArray, List.set_cons_zero, List.set_cons_succ, List.getElem_toArray, List.getElem_cons_zero, List.getElem_cons_succ])
  refine wpAnyE_take [6, 7, 8, 9, 10, 11, 12, 13] (i := 5) (v := ?v58) rfl (by kernel_rfl) (by kernel_rfl) (by kernel_rfl) (by rfl) (by kernel_rfl) (by kernel_rfl) (fun _ _ _ h => h) (Or.inl ⟨by rfl, ?hy58⟩) (hHeld) ?rest58
  case hy58 => intro w hSw; (try dsimp only at hSw); go_simp; try with_reducible rfl
  (try simp only [Act.put, List.setIfInBounds_toArray, List.set_cons_zero, List.set_cons_succ, List.getElem_toArray, List.getElem_cons_zero, List.getElem_cons_succ])
  refine wpAnyE_take [7, 8, 9, 10, 11, 12, 13] (i := 6) (v := ?v59) rfl (by kernel_rfl) (by kernel_rfl) (by kernel_rfl) (by rfl) (by kernel_rfl) (by kernel_rfl) (fun _ _ _ h => h) (Or.inl ⟨by rfl, ?hy59⟩) (hHeld) ?rest59
  case hy59 => intro w hSw; (try dsimp only at hSw); go_simp; try with_reducible rfl
  (try simp only [Act.put, List.setIfInBounds_toArray, List.set_cons_zero, List.set_cons_succ, List.getElem_toArray, List.getElem_cons_zero, List.getElem_cons_succ])
  refine wpAnyE_take [8, 9, 10, 11, 12, 13] (i := 7) (v := ?v60) rfl (by kernel_rfl) (by kernel_rfl) (by kernel_rfl) (by rfl) (by kernel_rfl) (by kernel_rfl) (fun _ _ _ h => h) (Or.inl ⟨by rfl, ?hy60⟩) (hHeld) ?rest60
  case hy60 => intro w hSw; (try dsimp only at hSw); go_simp; try with_reducible rfl
  (try simp only [Act.put, List.setIfInBounds_toArray, List.set_cons_zero, List.set_cons_succ, List.getElem_toArray, List.getElem_cons_zero, List.getElem_cons_succ])
  refine wpAnyE_take [9, 10, 11, 12, 13] (i := 8) (v := ?v61) rfl (by kernel_rfl) (by kernel_rfl) (by kernel_rfl) (by rfl) (by kernel_rfl) (by kernel_rfl) (fun _ _ _ h => h) (Or.inl ⟨by rfl, ?hy61⟩) (hHeld) ?rest61
  case hy61 => intro w hSw; (try dsimp only at hSw); go_simp; try with_reducible rfl
  (try simp only [Act.put, List.setIfInBounds_toArray, List.set_cons_zero, List.set_cons_succ, List.getElem_toArray, List.getElem_cons_zero, List.getElem_cons_succ])
  refine wpAnyE_ready (rs := [9]) (by kernel_rfl) (by simp) ?_
  refine AllReadyE.cons rfl (fun K hK => ?_) AllReadyE.nil
  go_simp
  refine hK.out _ _ (fun _ => ⟨(H1.out.blk.drew.alloc _).cell 8, (H1.out.blk.drew.alloc _).cell 6⟩) ?_
  clear hK K
  (try simp only [Act.put, List.setIfInBounds_toArray, List.set_cons_zero, List.set_cons_succ, List.getElem_toArray, List.getElem_cons_zero, List.getElem_cons_succ])
  refine wpAnyE_ready (rs := [10]) (by kernel_rfl) (by simp) ?_
  refine AllReadyE.cons rfl (fun K hK => ?_) AllReadyE.nil
  refine step_append_rd _ rfl (.tmp 24) (.tmp 29) 51 rfl 0 3 i0 _ 1 8 Tryz.underlying51 hi0 hz0 hz1 hz2 rfl (by omega) (.slice a.A2 m.steps.length a.c2) m.steps.length (stepCells m.steps) rfl ?_ (fun q => q = w1.heap.size) (some ⟨w1.heap.size, 0, none⟩) 1 1 #[.int .i64 (m.at_ : Nat)].toList rfl ?_ ?_ ?_ ?_ ?_ (m.steps.length + 1) rfl (stepCells m.steps ++ #[.int .i64 (m.at_ : Nat)].toList) rfl ?_
  · exact (H1.out.steps.1.drew).alloc _
  · exact Rd.new w1.drew 3 1 1 #[.int .i64 (m.at_ : Nat)] w1.heap.size rfl rfl
  · intro v hv; simp at hv; (first | (rcases hv with rfl | rfl | rfl <;> rfl) | (rcases hv with rfl; rfl))
  · have := hnn.out; simp only [maxLen]; omega
  · have := hnn.out; omega
  · exact Nat.zero_le _
  intro A3 c3 w3 hown3 hg3 hat3
  have hu9 : Hid (Upd (fun q => (Value.slice a.A2 m.steps.length a.c2).ownBlock = some q) w1 w3) := hid (((Upd.refl _ w1).drew.alloc _).grown hg3 fun q hq _ => hq)
  have hO3 := hid hown3
  have hat9 : Hid ((Value.slice A3 (m.steps.length + 1) c3).ownBlock = (Value.slice a.A2 m.steps.length a.c2).ownBlock ∨ ∃ k, w1.heap.size ≤ k ∧ (Value.slice A3 (m.steps.length + 1) c3).ownBlock = some k) := hid (by
    rcases hat3 with e | e
    · exact .inl e
    · exact .inr ⟨_, by simp, e⟩)
  clear hg3 hat3 hown3
  have r4 : w3.cell? ⟨g, 8, none⟩ = some (.slice a.A2 m.steps.length a.c2) ∧ w3.cell? ⟨g, 6, none⟩ = some (.int .i64 (m.at_ : Nat)) := hkeep.out _ hu9.out
  have q4 : w3.frozen? ⟨g, 8, none⟩ = false := (H1.out.blk.upd hu9.out hgo.out).frozen 8
  have r7 := r4.1
  refine hK.out _ _ (fun _ => r4) ?_
  clear hK K
  (try simp only [Act.put, List.setIfInBounds_toArray, List.set_cons_zero, List.set_cons_succ, List.getElem_toArray, List.getElem_cons_zero, List.getElem_cons_succ])
  refine wpAnyE_take [12, 13] (i := 11) (v := ?v62) rfl (by kernel_rfl) (by kernel_rfl) (by kernel_rfl) (by rfl) (by kernel_rfl) (by kernel_rfl) (fun _ _ _ h => h) (Or.inl ⟨by rfl, ?hy62⟩) (r4) ?rest62
  case hy62 => intro w hSw; (try dsimp only at hSw); go_simp; try with_reducible rfl
  (try simp only [Act.put, List.setIfInBounds_toArray, List.set_cons_zero, List.set_cons_succ, List.getElem_toArray, List.getElem_cons_zero, List.getElem_cons_succ])
  refine wpAnyE_take [13] (i := 12) (v := ?v63) rfl (by kernel_rfl) (by kernel_rfl) (by kernel_rfl) (by rfl) (by kernel_rfl) (by kernel_rfl) (fun _ _ _ h => h) (Or.inl ⟨by rfl, ?hy63⟩) (r4) ?rest63
  case hy63 => intro w hSw; (try dsimp only at hSw); go_simp; try with_reducible rfl
  (try simp only [Act.put, List.setIfInBounds_toArray, List.set_cons_zero, List.set_cons_succ, List.getElem_toArray, List.getElem_cons_zero, List.getElem_cons_succ])
  refine wpAnyE_ready (rs := [13]) (by kernel_rfl) (by simp) ?_
  refine AllReadyE.cons rfl (fun K hK => ?_) AllReadyE.nil
  go_simp
  refine hK.out _ _ (fun h => absurd rfl h) ?_
  clear hK K
  (try simp only [Act.put, List.setIfInBounds_toArray, List.set_cons_zero, List.set_cons_succ, List.getElem_toArray, List.getElem_cons_zero, List.getElem_cons_succ])
  refine wpAnyE_done (by kernel_rfl) ?_ _
  obtain ⟨S2, h1, h2, h3, h4⟩ := H1.out.stepped (x := m.at_) (Below.refl _ _) hu9.out hO3.out hat9.out (Upd.refl _ _)
  have T := hid (show MAt S2 _ g F m.tick from ⟨_, h1, ha.out⟩)
  have s1 : Hid (∀ q, S2 q → S q ∨ w.heap.size ≤ q) := hid fun q hq => (h2 q hq).imp id fun e => by have := hs1.out; omega
  have s2 := hid h3
  have hU : Hid (Upd S w _) := hid (hU1.out.trans h4 fun _ _ e => e)
  clear h1 h2 h3 h4 hkeep r4 q4 r7 hu9 hO3 hat9 H1
  generalize w3.setCell _ _ = w4 at *
  obtain ⟨b, o, hA, _⟩ := hco.out
  have hX := hid (fun W (hW : Below w4.heap.size w4 W) => (show W.cell? ⟨g, 2, none⟩ = some (.slice (some ⟨b, o, none⟩) F.p.code.length F.ci) ∧ W.cell? ⟨g, 6, none⟩ = some (.int .i64 (m.at_ : Nat)) from by
    obtain ⟨a9, h9, _⟩ := T.out
    have hb := h9.blk.below_all hW
    exact ⟨by rw [← hA]; exact hb.cell 2, hb.cell 6⟩))
  have hY := hid (fun W (hW : Below w4.heap.size w4 W) => (show W.cell? ⟨b, o + m.at_ * 2, none⟩ = some (.int .i64 i.op) ∧ W.cell? ⟨b, o + m.at_ * 2 + 1, none⟩ = some (.int .i64 i.n) from by
    obtain ⟨a9, h9, _⟩ := T.out
    obtain ⟨b', o', e', _, z0, z1⟩ := (h9.code.i.below_all hW).ins_at hat.out
    rw [hA] at e'
    injection e' with e'
    injection e' with e1 e2
    subst e1 e2
    have hi2 : F.p.code[m.at_]'hat.out = i := by rw [hi.out, List.getD_eq_getElem?_getD, List.getElem?_eq_getElem hat.out]; rfl
    rw [hi2] at z0 z1
    exact ⟨z0, z1⟩))
  have ia : (m.at_ : Int) < (F.p.code.length : Int) := by have := hat.out; omega
  have ib : m.at_ < F.p.code.length := hat.out
  have hS4 : Hid (∀ q, S2 q → q < w4.heap.size) := hid T.out.lt
  go_upto_region 3 with fail
  refine wp_region_held_drew (S := fun w'' => Below w4.heap.size w4 w'') (by kernel_rfl) ?_ (fun hHeld => ?_)
  · exact (Below.refl _ _).drew
  have hd0 : Hid (Below w4.heap.size w4 w4.drew) := hid (Below.refl _ _).drew
  generalize World.drew w4 = wd at *
  refine wpAnyH_take (i := 0) (v := ?v545) rfl (by kernel_rfl) (by kernel_rfl) (by kernel_rfl) (fun _ _ _ h => h) (Or.inl ⟨by rfl, ?hy545⟩) (by assumption) ?rest545
  case hy545 => intro w' hSw; have q1 := hX.out w' hSw; obtain ⟨x2, x6⟩ := q1; obtain ⟨c0, c1⟩ := hY.out w' hSw; (try dsimp only at hSw); go_simp; try with_reducible rfl
  (try simp only [Act.put, List.setIfInBounds_toArray, List.set_cons_zero, List.set_cons_succ, List.getElem_toArray, List.getElem_cons_zero, List.getElem_cons_succ])
  refine wpAnyH_take (i := 1) (v := ?v546) rfl (by kernel_rfl) (by kernel_rfl) (by kernel_rfl) (fun _ _ _ h => h) (Or.inl ⟨by rfl, ?hy546⟩) (by assumption) ?rest546
  case hy546 => intro w' hSw; have q1 := hX.out w' hSw; obtain ⟨x2, x6⟩ := q1; obtain ⟨c0, c1⟩ := hY.out w' hSw; (try dsimp only at hSw); go_simp; try with_reducible rfl
  (try simp only [Act.put, List.setIfInBounds_toArray, List.set_cons_zero, List.set_cons_succ, List.getElem_toArray, List.getElem_cons_zero, List.getElem_cons_succ])
  refine wpAnyH_take (i := 2) (v := ?v547) rfl (by kernel_rfl) (by kernel_rfl) (by kernel_rfl) (fun _ _ _ h => h) (Or.inl ⟨by rfl, ?hy547⟩) (by assumption) ?rest547
  case hy547 => intro w' hSw; have q1 := hX.out w' hSw; obtain ⟨x2, x6⟩ := q1; obtain ⟨c0, c1⟩ := hY.out w' hSw; (try dsimp only at hSw); go_simp; try with_reducible rfl
  (try simp only [Act.put, List.setIfInBounds_toArray, List.set_cons_zero, List.set_cons_succ, List.getElem_toArray, List.getElem_cons_zero, List.getElem_cons_succ])
  refine wpAnyH_take (i := 3) (v := ?v548) rfl (by kernel_rfl) (by kernel_rfl) (by kernel_rfl) (fun _ _ _ h => h) (Or.inl ⟨by rfl, ?hy548⟩) (by assumption) ?rest548
  case hy548 => intro w' hSw; have q1 := hX.out w' hSw; obtain ⟨x2, x6⟩ := q1; obtain ⟨c0, c1⟩ := hY.out w' hSw; (try dsimp only at hSw); go_simp; try with_reducible rfl
  (try simp only [Act.put, List.setIfInBounds_toArray, List.set_cons_zero, List.set_cons_succ, List.getElem_toArray, List.getElem_cons_zero, List.getElem_cons_succ])
  refine wpAnyH_take (i := 4) (v := ?v549) rfl (by kernel_rfl) (by kernel_rfl) (by kernel_rfl) (fun _ _ _ h => h) (Or.inl ⟨by rfl, ?hy549⟩) (by assumption) ?rest549
  case hy549 => intro w' hSw; have q1 := hX.out w' hSw; obtain ⟨x2, x6⟩ := q1; obtain ⟨c0, c1⟩ := hY.out w' hSw; (try dsimp only at hSw); go_simp; try with_reducible rfl
  (try simp only [Act.put, List.setIfInBounds_toArray, List.set_cons_zero, List.set_cons_succ, List.getElem_toArray, List.getElem_cons_zero, List.getElem_cons_succ])
  refine wpAnyH_take (i := 5) (v := ?v550) rfl (by kernel_rfl) (by kernel_rfl) (by kernel_rfl) (fun _ _ _ h => h) (Or.inl ⟨by rfl, ?hy550⟩) (by assumption) ?rest550
  case hy550 => intro w' hSw; have q1 := hX.out w' hSw; obtain ⟨x2, x6⟩ := q1; obtain ⟨c0, c1⟩ := hY.out w' hSw; (try dsimp only at hSw); go_simp; try with_reducible rfl
  (try simp only [Act.put, List.setIfInBounds_toArray, List.set_cons_zero, List.set_cons_succ, List.getElem_toArray, List.getElem_cons_zero, List.getElem_cons_succ])
  refine wpAnyH_take (i := 6) (v := ?v551) rfl (by kernel_rfl) (by kernel_rfl) (by kernel_rfl) (fun _ _ _ h => h) (Or.inl ⟨by rfl, ?hy551⟩) (by assumption) ?rest551
  case hy551 => intro w' hSw; have q1 := hX.out w' hSw; obtain ⟨x2, x6⟩ := q1; obtain ⟨c0, c1⟩ := hY.out w' hSw; (try dsimp only at hSw); go_simp; try with_reducible rfl
  (try simp only [Act.put, List.setIfInBounds_toArray, List.set_cons_zero, List.set_cons_succ, List.getElem_toArray, List.getElem_cons_zero, List.getElem_cons_succ])
  refine wpAnyH_take (i := 7) (v := ?v552) rfl (by kernel_rfl) (by kernel_rfl) (by kernel_rfl) (fun _ _ _ h => h) (Or.inl ⟨by rfl, ?hy552⟩) (by assumption) ?rest552
  case hy552 => intro w' hSw; have q1 := hX.out w' hSw; obtain ⟨x2, x6⟩ := q1; obtain ⟨c0, c1⟩ := hY.out w' hSw; (try dsimp only at hSw); go_simp; try with_reducible rfl
  (try simp only [Act.put, List.setIfInBounds_toArray, List.set_cons_zero, List.set_cons_succ, List.getElem_toArray, List.getElem_cons_zero, List.getElem_cons_succ])
  refine wpAnyH_take (i := 8) (v := ?v553) rfl (by kernel_rfl) (by kernel_rfl) (by kernel_rfl) (fun _ _ _ h => h) (Or.inl ⟨by rfl, ?hy553⟩) (by assumption) ?rest553
  case hy553 => intro w' hSw; have q1 := hX.out w' hSw; obtain ⟨x2, x6⟩ := q1; obtain ⟨c0, c1⟩ := hY.out w' hSw; (try dsimp only at hSw); go_simp; try with_reducible rfl
  (try simp only [Act.put, List.setIfInBounds_toArray, List.set_cons_zero, List.set_cons_succ, List.getElem_toArray, List.getElem_cons_zero, List.getElem_cons_succ])
  refine wpAnyH_take (i := 9) (v := ?v554) rfl (by kernel_rfl) (by kernel_rfl) (by kernel_rfl) (fun _ _ _ h => h) (Or.inl ⟨by rfl, ?hy554⟩) (by assumption) ?rest554
  case hy554 => intro w' hSw; have q1 := hX.out w' hSw; obtain ⟨x2, x6⟩ := q1; obtain ⟨c0, c1⟩ := hY.out w' hSw; (try dsimp only at hSw); go_simp; try with_reducible rfl
  (try simp only [Act.put, List.setIfInBounds_toArray, List.set_cons_zero, List.set_cons_succ, List.getElem_toArray, List.getElem_cons_zero, List.getElem_cons_succ])
  refine wpAnyH_take (i := 10) (v := ?v555) rfl (by kernel_rfl) (by kernel_rfl) (by kernel_rfl) (fun _ _ _ h => h) (Or.inl ⟨by rfl, ?hy555⟩) (by assumption) ?rest555
  case hy555 => intro w' hSw; have q1 := hX.out w' hSw; obtain ⟨x2, x6⟩ := q1; obtain ⟨c0, c1⟩ := hY.out w' hSw; (try dsimp only at hSw); go_simp; try with_reducible rfl
  (try simp only [Act.put, List.setIfInBounds_toArray, List.set_cons_zero, List.set_cons_succ, List.getElem_toArray, List.getElem_cons_zero, List.getElem_cons_succ])
  refine wpAnyH_ready (rs := [11]) (by kernel_rfl) (by simp) ?_
  refine AllReadyH.cons rfl (fun K hK => ?_) AllReadyH.nil
  go_simp
  have hd1 := hid (hd0.out.alloc hd0.out.size (.cells #[.int .i64 0, .int .i64 0] 69))
  have kz := hid (Blk.new wd 69 #[.int .i64 0, .int .i64 0])
  have hdz := hid hd0.out.size
  generalize wd.alloc (.cells #[.int .i64 0, .int .i64 0] 69) = we at *
  generalize wd.heap.size = me at *
  refine hK.out _ _ ?_ (fun hHeld => ?_)
  · exact hd1.out
  clear hK K
  (try simp only [Act.put, List.setIfInBounds_toArray, List.set_cons_zero, List.set_cons_succ, List.getElem_toArray, List.getElem_cons_zero, List.getElem_cons_succ])
  refine wpAnyH_ready (rs := [12]) (by kernel_rfl) (by simp) ?_
  refine AllReadyH.cons rfl (fun K hK => ?_) AllReadyH.nil
  have z0 := kz.out.cell 0
  have z1 := kz.out.cell 1
  simp only [List.getElem?_toArray, List.getElem?_cons_zero, List.getElem?_cons_succ] at z0 z1
  have fz := fun q => kz.out.frozen q
  go_simp
  obtain ⟨w5, hwf, hd3, ki⟩ : ∃ w5, ((we.setCell ⟨me, 0, none⟩ (.int .i64 i.op)).setCell ⟨me, 1, none⟩ (.int .i64 i.n)) = w5 ∧ Hid (Below w4.heap.size w4 w5) ∧ Hid (Blk w5 me 69 #[.int .i64 i.op, .int .i64 i.n]) := ⟨_, rfl, hid ((hd1.out.setCell (p := ⟨me, 0, none⟩) hdz.out _).setCell (p := ⟨me, 1, none⟩) hdz.out _), hid (by simpa using (kz.out.set_ 0 (.int .i64 i.op)).set_ 1 (.int .i64 i.n))⟩
  rw [hwf]
  clear hwf z0 z1 fz kz
  refine hK.out _ _ ?_ (fun hHeld => ?_)
  · exact hd3.out
  clear hK K
  (try simp only [Act.put, List.setIfInBounds_toArray, List.set_cons_zero, List.set_cons_succ, List.getElem_toArray, List.getElem_cons_zero, List.getElem_cons_succ])
  refine wpAnyH_done (by kernel_rfl) ?_ _
  have T := hid (T.out.below hd3.out)
  have hU := hid (hU.out.trans (Upd.of_below' hd3.out (fun _ => False)) fun _ _ e => e.elim)
  have hSl : Hid (∀ q, S2 q → q < w5.heap.size) := hid T.out.lt
  obtain ⟨x6, fx6⟩ := T.out.at_cell
  have c0 : w5.cell? ⟨me, 0, none⟩ = some (.int .i64 i.op) := ki.out.cell 0
  have c1 : w5.cell? ⟨me, 1, none⟩ = some (.int .i64 i.n) := ki.out.cell 1
  have i9 : IntKind.i64.wrap ((m.at_ : Int) + 1) = ((m.at_ + 1 : Nat) : Int) := by rw [IntKind.wrap_i64]; have := hat.out; have := hcl.out; omega
  replace x6 : w5.cell? ⟨g, 6, none⟩ = some (.int .i64 (m.at_ : Nat)) := x6
  obtain ⟨nx, hnx⟩ : ∃ nx : Nat, Hid (nx = m.at_ + 1) := ⟨_, hid rfl⟩
  rw [← hnx.out] at i9
  have hmeS : Hid (¬ S2 me) := hid fun e => by have := hS4.out me e; have := hdz.out; omega
  clear hX hY hd0 hd1 hd3 ia ib hHeld hdz hco
  have t6 : decide (i.op ≤ 6) = false := decide_eq_false (by have := hex.out.1; omega)
  have e18 : (i.op == 18) = false := by have := hex.out.2.1; simpa using this
  have e19 : (i.op == 19) = false := by have := hex.out.2.2.1; simpa using this
  have e31 : (i.op == 31) = false := by have := hex.out.2.2.2.1; simpa using this
  have tk : (takes i.op == 2) = true := by rw [hex.out.2.2.2.2]; rfl
  have hr2 := hid (hr.out.trans (if_neg hex.out.2.2.2.1))
  have hst : ∃ a9 b9 r9, Hid (m.tick.st = a9 :: b9 :: r9) := by
    have h9 : takes i.op ≤ (m.st.length : Int) := hkt.out.2.2.1
    rw [hex.out.2.2.2.2] at h9
    show ∃ a9 b9 r9, Hid (m.st = a9 :: b9 :: r9)
    cases hm : m.st with
    | nil => rw [hm] at h9; simp at h9
    | cons x l => cases l with
      | nil => rw [hm] at h9; simp at h9
      | cons y l => exact ⟨x, y, l, hid rfl⟩
  obtain ⟨a9, b9, r9, hst⟩ := hst
  have hop := hid (two_ops hkt.out.2.2.2.2.1 hkt.out.2.2.2.2.2.1 (by have := hex.out.1; omega) hex.out.2.2.2.2)
  have hr3 : Hid (onP F.p F.args F.src m.tick i = (twoP i.op m.tick a9 b9 r9).map fun m' => { m' with at_ := m.at_ + 1 }) := hid (by
    unfold onP
    rw [if_neg (by have := hex.out.1; omega), if_neg hex.out.2.1, if_neg hex.out.2.2.1, if_pos hex.out.2.2.2.2]
    rw [hst.out]
    rfl)
  rw [hr3.out] at hr2
  clear hr3
  go_wp2_with fail
  refine (takes_any i.op _).mono ?_
  rintro e w6 ⟨rfl, hb6⟩
  have ki := hid (ki.out.below_all hb6)
  have T := hid (T.out.below hb6)
  have hU := hid (hU.out.trans (Upd.of_below' hb6 (fun _ => False)) fun _ _ e => e.elim)
  clear hb6 x6 fx6 c0 c1
  have c0 : w6.cell? ⟨me, 0, none⟩ = some (.int .i64 i.op) := ki.out.cell 0
  have hlw := hid (two_any i.op hop.out a9 b9 r9 T.out hst.out (by have h9 := hkt.out.2.2.2.1; omega) hkt.out.1)
  cases hq : twoP i.op m.tick a9 b9 r9 with
  | ok m9 =>
    rw [hq] at hr2 hlw
    go_wp2_with fail
    refine hlw.out.mono ?_
    rintro e w7 ⟨rfl, S6, hA6, a1, a2, a3⟩
    have A6 := hid hA6
    have a1 := hid a1
    have a2 := hid a2
    have a3 := hid a3
    have hr4 : Hid (stepP F.p F.args F.src m = .inr { m9 with at_ := nx }) := hid (by rw [hr2.out, hnx.out]; rfl)
    clear hA6 hlw hr2
    have hw6 := A6.out.at_cell
    obtain ⟨x6, fx6⟩ := hw6
    go_wp2_with fail
    refine ⟨rfl, .tuple #[], by simp [results, Tryz.results72, go_sem], ?_⟩
    rw [← hres.out, hr4.out]
    exact ⟨rfl, MGo.comp s1.out s2.out hU.out (MGo.comp a1.out a2.out a3.out (A6.out.setAt _))⟩
  | error er =>
    rw [hq] at hr2 hlw
    go_wp2_with fail
    refine hlw.out.mono ?_
    rintro e w7 ⟨rfl, st9, hg9⟩
    have hg9 := hid hg9
    have hr4 : Hid (stepP F.p F.args F.src m = .inl (er, m.tick)) := hid (by rw [hr2.out]; rfl)
    clear hlw hr2
    go_wp2_with fail
    refine ⟨rfl, ?_⟩
    rw [← hres.out, hr4.out]
    exact ⟨rfl, st9, MGo.comp s1.out s2.out hU.out hg9.out⟩
set_option maxRecDepth 100000 in
set_option maxHeartbeats 4000000 in
theorem stepF {d : Nat → Int} (h : MAt S w g F m) (G : Good F.p F.args F.src d) (hk : m.Ok F.p d) (hf : m.fuel ≠ 0) (hsrc : ∀ x ∈ F.src, x.2.s.size ≤ 9223372036854775806) (hsl : F.src.length ≤ 1000000) (h6 : ¬ (F.p.code.getD m.at_ is0).op ≤ 6 ∧ ¬ (F.p.code.getD m.at_ is0).op = 18 ∧ ¬ (F.p.code.getD m.at_ is0).op = 19 ∧ ¬ (F.p.code.getD m.at_ is0).op = 31 ∧ ¬ takes (F.p.code.getD m.at_ is0).op = 2) : Calls Tryz.prog 72 #[.pointer (some ⟨g, 0, none⟩)] w (StepPost S w g F (stepP F.p F.args F.src m)) := by
  obtain ⟨i, hi⟩ : ∃ i, Hid (i = F.p.code.getD m.at_ is0) := ⟨_, hid rfl⟩
  obtain ⟨res, hres⟩ : ∃ res, Hid (stepP F.p F.args F.src m = res) := ⟨_, hid rfl⟩
  have hr : Hid (stepP F.p F.args F.src m = if i.op = 31 then .inl ((0, 0), m.tick) else match onP F.p F.args F.src m.tick i with | .ok m' => .inr m' | .error e => .inl (e, m.tick)) := hid (by unfold stepP; rw [if_neg hf, hi.out]; rfl)
  rw [hres.out]
  rw [← hi.out] at h6
  have hkt : Hid (m.tick.Ok0 ∧ m.tick.reads.length < m.tick.steps.length ∧ takes i.op ≤ (m.tick.st.length : Int) ∧ m.tick.st.length ≤ 32 ∧ 1 ≤ i.op ∧ i.op ≤ 31 ∧ 0 ≤ i.n ∧ i.n < F.p.most i.op) := hid (by rw [hi.out]; exact tick_ok G hk hf)
  have hat := hid hk.at_
  have hcl := hid G.n.2
  have hga := hid G.args.1
  have hnn : Hid (m.steps.length ≤ 1000000) := hid (by have := hk.o.fu; omega)
  have hco := hid (show ∃ b o, F.Ai = some ⟨b, o, none⟩ ∧ True from by
    obtain ⟨a, h, _⟩ := h
    obtain ⟨b, o, e, _⟩ := h.code.i.ins_at hk.at_
    exact ⟨b, o, e, trivial⟩)
  have hex := hid h6
  clear h6
  obtain ⟨i0, hi0, hz0, hz1, hz2⟩ := info_parts info_int
  have hlt := hid h.lt
  have hHH := hid h
  obtain ⟨a, h, ha⟩ := h
  have ha := hid ha
  have x7 : w.cell? ⟨g, 7, none⟩ = some (.int .i64 (m.fuel : Nat)) := h.blk.cell 7
  have fz7 := h.blk.frozen 7
  have t0 : decide ((0 : Int) < (m.fuel : Int)) = true := decide_eq_true (by omega)
  have t0n : decide (0 < m.fuel) = true := decide_eq_true (by omega)
  have i1 : IntKind.i64.wrap ((m.fuel : Int) - 1) = ((m.fuel - 1 : Nat) : Int) := by rw [IntKind.wrap_i64]; have := hk.o.fu; omega
  obtain ⟨f1, hf1⟩ : ∃ f1, Hid (m.fuel - 1 = f1) := ⟨_, hid rfl⟩
  have H := hid h
  rw [hf1.out] at i1
  have hu1 := hid ((Upd.refl (fun q => q = g) w).setCell (p := ⟨g, 7, none⟩) (fun _ => rfl) (.int .i64 (f1 : Nat)))
  have H1 : Hid (MIn S (w.setCell ⟨g, 7, none⟩ (.int .i64 (f1 : Nat))) g F { m with st := m.st, at_ := m.at_, fuel := m.fuel - 1 } a) := hid (h.num hu1.out (by rw [hf1.out]; have := h.blk.set_ 7 (.int .i64 (f1 : Nat)); simpa [mCells] using this))
  have hU1 : Hid (Upd S w (w.setCell ⟨g, 7, none⟩ (.int .i64 (f1 : Nat)))) := hid (upd_g hHH.out hu1.out)
  have hs1 : Hid ((w.setCell ⟨g, 7, none⟩ (.int .i64 (f1 : Nat))).heap.size = w.heap.size) := hid (by simp)
  clear h hk hf G hu1
  have hsrc := hid hsrc
  have hsl := hid hsl
  go_enter Tryz.func72, Tryz.ntmps72
  go_wp2_with fail
  refine (needs_t _ _).mono ?_
  rintro e wq ⟨rfl, hwq⟩
  obtain rfl := hwq.symm
  go_upto_region 2 with fail
  generalize w.setCell ⟨g, 7, none⟩ (.int .i64 (f1 : Nat)) = w1 at *
  clear t0 t0n i1 x7 fz7
  have hgo : Hid (¬ (Value.slice a.A2 m.steps.length a.c2).ownBlock = some g) := hid fun e => by
    obtain ⟨cur, hc⟩ := own_blk H1.out.steps e
    exact absurd (blk_ty hc H1.out.blk) (by decide)
  have hkeep : Hid (∀ w', Upd (fun q => (Value.slice a.A2 m.steps.length a.c2).ownBlock = some q) w1 w' → w'.cell? ⟨g, 8, none⟩ = some (.slice a.A2 m.steps.length a.c2) ∧ w'.cell? ⟨g, 6, none⟩ = some (.int .i64 (m.at_ : Nat))) := hid fun w' hu => ⟨(H1.out.blk.upd hu hgo.out).cell 8, (H1.out.blk.upd hu hgo.out).cell 6⟩
  have hHeld : w1.drew.cell? ⟨g, 8, none⟩ = some (.slice a.A2 m.steps.length a.c2) ∧ w1.drew.cell? ⟨g, 6, none⟩ = some (.int .i64 (m.at_ : Nat)) := ⟨H1.out.blk.drew.cell 8, H1.out.blk.drew.cell 6⟩
  refine wp_region_heldE (S := fun w' => w'.cell? ⟨g, 8, none⟩ = some (.slice a.A2 m.steps.length a.c2) ∧ w'.cell? ⟨g, 6, none⟩ = some (.int .i64 (m.at_ : Nat))) 13 (by kernel_rfl) ?_
  refine wpAnyE_take [11, 12, 13] (i := 0) (v := ?v64) rfl (by kernel_rfl) (by kernel_rfl) (by kernel_rfl) (by rfl) (by kernel_rfl) (by kernel_rfl) (fun _ _ _ h => h) (Or.inl ⟨by rfl, ?hy64⟩) (hHeld) ?rest64
  case hy64 => intro w hSw; (try dsimp only at hSw); go_simp; try with_reducible rfl
  (try simp only [Act.put, List.setIfInBounds_toArray, List.set_cons_zero, List.set_cons_succ, List.getElem_toArray, List.getElem_cons_zero, List.getElem_cons_succ])
  refine wpAnyE_take [2, 3, 4, 10, 11, 12, 13] (i := 1) (v := ?v65) rfl (by kernel_rfl) (by kernel_rfl) (by kernel_rfl) (by rfl) (by kernel_rfl) (by kernel_rfl) (fun _ _ _ h => h) (Or.inl ⟨by rfl, ?hy65⟩) (hHeld) ?rest65
  case hy65 => intro w hSw; (try dsimp only at hSw); go_simp; try with_reducible rfl
  (try simp only [Act.put, List.setIfInBounds_toArray, List.set_cons_zero, List.set_cons_succ, List.getElem_toArray, List.getElem_cons_zero, List.getElem_cons_succ])
  refine wpAnyE_take [3, 4, 10, 11, 12, 13] (i := 2) (v := ?v66) rfl (by kernel_rfl) (by kernel_rfl) (by kernel_rfl) (by rfl) (by kernel_rfl) (by kernel_rfl) (fun _ _ _ h => h) (Or.inl ⟨by rfl, ?hy66⟩) (hHeld) ?rest66
  case hy66 => intro w hSw; (try dsimp only at hSw); go_simp; try with_reducible rfl
  (try simp only [Act.put, List.setIfInBounds_toArray, List.set_cons_zero, List.set_cons_succ, List.getElem_toArray, List.getElem_cons_zero, List.getElem_cons_succ])
  refine wpAnyE_take [4, 10, 11, 12, 13] (i := 3) (v := ?v67) rfl (by kernel_rfl) (by kernel_rfl) (by kernel_rfl) (by rfl) (by kernel_rfl) (by kernel_rfl) (fun _ _ _ h => h) (Or.inl ⟨by rfl, ?hy67⟩) (hHeld) ?rest67
  case hy67 => intro w hSw; (try dsimp only at hSw); go_simp; try with_reducible rfl
  (try simp only [Act.put, List.setIfInBounds_toArray, List.set_cons_zero, List.set_cons_succ, List.getElem_toArray, List.getElem_cons_zero, List.getElem_cons_succ])
  refine wpAnyE_take [10, 11, 12, 13] (i := 4) (v := ?v68) rfl (by kernel_rfl) (by kernel_rfl) (by kernel_rfl) (by rfl) (by kernel_rfl) (by kernel_rfl) (fun _ _ _ h => h) (Or.inl ⟨by rfl, ?hy68⟩) (hHeld) ?rest68
  case hy68 => intro w hSw; (try dsimp only at hSw); go_simp; try with_reducible rfl
  (try simp only [Act.put, List.setIfInBounds_toArray, List.set_cons_zero, List.set_cons_succ, List.getElem_toArray, List.getElem_cons_zero, List.getElem_cons_succ])
  refine wpAnyE_take [6, 7, 8, 9, 10, 11, 12, 13] (i := 5) (v := ?v69) rfl (by kernel_rfl) (by kernel_rfl) (by kernel_rfl) (by rfl) (by kernel_rfl) (by kernel_rfl) (fun _ _ _ h => h) (Or.inl ⟨by rfl, ?hy69⟩) (hHeld) ?rest69
  case hy69 => intro w hSw; (try dsimp only at hSw); go_simp; try with_reducible rfl
  (try simp only [Act.put, List.setIfInBounds_toArray, List.set_cons_zero, List.set_cons_succ, List.getElem_toArray, List.getElem_cons_zero, List.getElem_cons_succ])
  refine wpAnyE_take [7, 8, 9, 10, 11, 12, 13] (i := 6) (v := ?v70) rfl (by kernel_rfl) (by kernel_rfl) (by kernel_rfl) (by rfl) (by kernel_rfl) (by kernel_rfl) (fun _ _ _ h => h) (Or.inl ⟨by rfl, ?hy70⟩) (hHeld) ?rest70
  case hy70 => intro w hSw; (try dsimp only at hSw); go_simp; try with_reducible rfl
  (try simp only [Act.put, List.setIfInBounds_toArray, List.set_cons_zero, List.set_cons_succ, List.getElem_toArray, List.getElem_cons_zero, List.getElem_cons_succ])
  refine wpAnyE_take [8, 9, 10, 11, 12, 13] (i := 7) (v := ?v71) rfl (by kernel_rfl) (by kernel_rfl) (by kernel_rfl) (by rfl) (by kernel_rfl) (by kernel_rfl) (fun _ _ _ h => h) (Or.inl ⟨by rfl, ?hy71⟩) (hHeld) ?rest71
  case hy71 => intro w hSw; (try dsimp only at hSw); go_simp; try with_reducible rfl
  (try simp only [Act.put, List.setIfInBounds_toArray, List.set_cons_zero, List.set_cons_succ, List.getElem_toArray, List.getElem_cons_zero, List.getElem_cons_succ])
  refine wpAnyE_take [9, 10, 11, 12, 13] (i := 8) (v := ?v72) rfl (by kernel_rfl) (by kernel_rfl) (by kernel_rfl) (by rfl) (by kernel_rfl) (by kernel_rfl) (fun _ _ _ h => h) (Or.inl ⟨by rfl, ?hy72⟩) (hHeld) ?rest72
  case hy72 => intro w hSw; (try dsimp only at hSw); go_simp; try with_reducible rfl
  (try simp only [Act.put, List.setIfInBounds_toArray, List.set_cons_zero, List.set_cons_succ, List.getElem_toArray, List.getElem_cons_zero, List.getElem_cons_succ])
  refine wpAnyE_ready (rs := [9]) (by kernel_rfl) (by simp) ?_
  refine AllReadyE.cons rfl (fun K hK => ?_) AllReadyE.nil
  go_simp
  refine hK.out _ _ (fun _ => ⟨(H1.out.blk.drew.alloc _).cell 8, (H1.out.blk.drew.alloc _).cell 6⟩) ?_
  clear hK K
  (try simp only [Act.put, List.setIfInBounds_toArray, List.set_cons_zero, List.set_cons_succ, List.getElem_toArray, List.getElem_cons_zero, List.getElem_cons_succ])
  refine wpAnyE_ready (rs := [10]) (by kernel_rfl) (by simp) ?_
  refine AllReadyE.cons rfl (fun K hK => ?_) AllReadyE.nil
  refine step_append_rd _ rfl (.tmp 24) (.tmp 29) 51 rfl 0 3 i0 _ 1 8 Tryz.underlying51 hi0 hz0 hz1 hz2 rfl (by omega) (.slice a.A2 m.steps.length a.c2) m.steps.length (stepCells m.steps) rfl ?_ (fun q => q = w1.heap.size) (some ⟨w1.heap.size, 0, none⟩) 1 1 #[.int .i64 (m.at_ : Nat)].toList rfl ?_ ?_ ?_ ?_ ?_ (m.steps.length + 1) rfl (stepCells m.steps ++ #[.int .i64 (m.at_ : Nat)].toList) rfl ?_
  · exact (H1.out.steps.1.drew).alloc _
  · exact Rd.new w1.drew 3 1 1 #[.int .i64 (m.at_ : Nat)] w1.heap.size rfl rfl
  · intro v hv; simp at hv; (first | (rcases hv with rfl | rfl | rfl <;> rfl) | (rcases hv with rfl; rfl))
  · have := hnn.out; simp only [maxLen]; omega
  · have := hnn.out; omega
  · exact Nat.zero_le _
  intro A3 c3 w3 hown3 hg3 hat3
  have hu9 : Hid (Upd (fun q => (Value.slice a.A2 m.steps.length a.c2).ownBlock = some q) w1 w3) := hid (((Upd.refl _ w1).drew.alloc _).grown hg3 fun q hq _ => hq)
  have hO3 := hid hown3
  have hat9 : Hid ((Value.slice A3 (m.steps.length + 1) c3).ownBlock = (Value.slice a.A2 m.steps.length a.c2).ownBlock ∨ ∃ k, w1.heap.size ≤ k ∧ (Value.slice A3 (m.steps.length + 1) c3).ownBlock = some k) := hid (by
    rcases hat3 with e | e
    · exact .inl e
    · exact .inr ⟨_, by simp, e⟩)
  clear hg3 hat3 hown3
  have r4 : w3.cell? ⟨g, 8, none⟩ = some (.slice a.A2 m.steps.length a.c2) ∧ w3.cell? ⟨g, 6, none⟩ = some (.int .i64 (m.at_ : Nat)) := hkeep.out _ hu9.out
  have q4 : w3.frozen? ⟨g, 8, none⟩ = false := (H1.out.blk.upd hu9.out hgo.out).frozen 8
  have r7 := r4.1
  refine hK.out _ _ (fun _ => r4) ?_
  clear hK K
  (try simp only [Act.put, List.setIfInBounds_toArray, List.set_cons_zero, List.set_cons_succ, List.getElem_toArray, List.getElem_cons_zero, List.getElem_cons_succ])
  refine wpAnyE_take [12, 13] (i := 11) (v := ?v73) rfl (by kernel_rfl) (by kernel_rfl) (by kernel_rfl) (by rfl) (by kernel_rfl) (by kernel_rfl) (fun _ _ _ h => h) (Or.inl ⟨by rfl, ?hy73⟩) (r4) ?rest73
  case hy73 => intro w hSw; (try dsimp only at hSw); go_simp; try with_reducible rfl
  (try simp only [Act.put, List.setIfInBounds_toArray, List.set_cons_zero, List.set_cons_succ, List.getElem_toArray, List.getElem_cons_zero, List.getElem_cons_succ])
  refine wpAnyE_take [13] (i := 12) (v := ?v74) rfl (by kernel_rfl) (by kernel_rfl) (by kernel_rfl) (by rfl) (by kernel_rfl) (by kernel_rfl) (fun _ _ _ h => h) (Or.inl ⟨by rfl, ?hy74⟩) (r4) ?rest74
  case hy74 => intro w hSw; (try dsimp only at hSw); go_simp; try with_reducible rfl
  (try simp only [Act.put, List.setIfInBounds_toArray, List.set_cons_zero, List.set_cons_succ, List.getElem_toArray, List.getElem_cons_zero, List.getElem_cons_succ])
  refine wpAnyE_ready (rs := [13]) (by kernel_rfl) (by simp) ?_
  refine AllReadyE.cons rfl (fun K hK => ?_) AllReadyE.nil
  go_simp
  refine hK.out _ _ (fun h => absurd rfl h) ?_
  clear hK K
  (try simp only [Act.put, List.setIfInBounds_toArray, List.set_cons_zero, List.set_cons_succ, List.getElem_toArray, List.getElem_cons_zero, List.getElem_cons_succ])
  refine wpAnyE_done (by kernel_rfl) ?_ _
  obtain ⟨S2, h1, h2, h3, h4⟩ := H1.out.stepped (x := m.at_) (Below.refl _ _) hu9.out hO3.out hat9.out (Upd.refl _ _)
  have T := hid (show MAt S2 _ g F m.tick from ⟨_, h1, ha.out⟩)
  have s1 : Hid (∀ q, S2 q → S q ∨ w.heap.size ≤ q) := hid fun q hq => (h2 q hq).imp id fun e => by have := hs1.out; omega
  have s2 := hid h3
  have hU : Hid (Upd S w _) := hid (hU1.out.trans h4 fun _ _ e => e)
  clear h1 h2 h3 h4 hkeep r4 q4 r7 hu9 hO3 hat9 H1
  generalize w3.setCell _ _ = w4 at *
  obtain ⟨b, o, hA, _⟩ := hco.out
  have hX := hid (fun W (hW : Below w4.heap.size w4 W) => (show W.cell? ⟨g, 2, none⟩ = some (.slice (some ⟨b, o, none⟩) F.p.code.length F.ci) ∧ W.cell? ⟨g, 6, none⟩ = some (.int .i64 (m.at_ : Nat)) from by
    obtain ⟨a9, h9, _⟩ := T.out
    have hb := h9.blk.below_all hW
    exact ⟨by rw [← hA]; exact hb.cell 2, hb.cell 6⟩))
  have hY := hid (fun W (hW : Below w4.heap.size w4 W) => (show W.cell? ⟨b, o + m.at_ * 2, none⟩ = some (.int .i64 i.op) ∧ W.cell? ⟨b, o + m.at_ * 2 + 1, none⟩ = some (.int .i64 i.n) from by
    obtain ⟨a9, h9, _⟩ := T.out
    obtain ⟨b', o', e', _, z0, z1⟩ := (h9.code.i.below_all hW).ins_at hat.out
    rw [hA] at e'
    injection e' with e'
    injection e' with e1 e2
    subst e1 e2
    have hi2 : F.p.code[m.at_]'hat.out = i := by rw [hi.out, List.getD_eq_getElem?_getD, List.getElem?_eq_getElem hat.out]; rfl
    rw [hi2] at z0 z1
    exact ⟨z0, z1⟩))
  have ia : (m.at_ : Int) < (F.p.code.length : Int) := by have := hat.out; omega
  have ib : m.at_ < F.p.code.length := hat.out
  have hS4 : Hid (∀ q, S2 q → q < w4.heap.size) := hid T.out.lt
  go_upto_region 3 with fail
  refine wp_region_held_drew (S := fun w'' => Below w4.heap.size w4 w'') (by kernel_rfl) ?_ (fun hHeld => ?_)
  · exact (Below.refl _ _).drew
  have hd0 : Hid (Below w4.heap.size w4 w4.drew) := hid (Below.refl _ _).drew
  generalize World.drew w4 = wd at *
  refine wpAnyH_take (i := 0) (v := ?v556) rfl (by kernel_rfl) (by kernel_rfl) (by kernel_rfl) (fun _ _ _ h => h) (Or.inl ⟨by rfl, ?hy556⟩) (by assumption) ?rest556
  case hy556 => intro w' hSw; have q1 := hX.out w' hSw; obtain ⟨x2, x6⟩ := q1; obtain ⟨c0, c1⟩ := hY.out w' hSw; (try dsimp only at hSw); go_simp; try with_reducible rfl
  (try simp only [Act.put, List.setIfInBounds_toArray, List.set_cons_zero, List.set_cons_succ, List.getElem_toArray, List.getElem_cons_zero, List.getElem_cons_succ])
  refine wpAnyH_take (i := 1) (v := ?v557) rfl (by kernel_rfl) (by kernel_rfl) (by kernel_rfl) (fun _ _ _ h => h) (Or.inl ⟨by rfl, ?hy557⟩) (by assumption) ?rest557
  case hy557 => intro w' hSw; have q1 := hX.out w' hSw; obtain ⟨x2, x6⟩ := q1; obtain ⟨c0, c1⟩ := hY.out w' hSw; (try dsimp only at hSw); go_simp; try with_reducible rfl
  (try simp only [Act.put, List.setIfInBounds_toArray, List.set_cons_zero, List.set_cons_succ, List.getElem_toArray, List.getElem_cons_zero, List.getElem_cons_succ])
  refine wpAnyH_take (i := 2) (v := ?v558) rfl (by kernel_rfl) (by kernel_rfl) (by kernel_rfl) (fun _ _ _ h => h) (Or.inl ⟨by rfl, ?hy558⟩) (by assumption) ?rest558
  case hy558 => intro w' hSw; have q1 := hX.out w' hSw; obtain ⟨x2, x6⟩ := q1; obtain ⟨c0, c1⟩ := hY.out w' hSw; (try dsimp only at hSw); go_simp; try with_reducible rfl
  (try simp only [Act.put, List.setIfInBounds_toArray, List.set_cons_zero, List.set_cons_succ, List.getElem_toArray, List.getElem_cons_zero, List.getElem_cons_succ])
  refine wpAnyH_take (i := 3) (v := ?v559) rfl (by kernel_rfl) (by kernel_rfl) (by kernel_rfl) (fun _ _ _ h => h) (Or.inl ⟨by rfl, ?hy559⟩) (by assumption) ?rest559
  case hy559 => intro w' hSw; have q1 := hX.out w' hSw; obtain ⟨x2, x6⟩ := q1; obtain ⟨c0, c1⟩ := hY.out w' hSw; (try dsimp only at hSw); go_simp; try with_reducible rfl
  (try simp only [Act.put, List.setIfInBounds_toArray, List.set_cons_zero, List.set_cons_succ, List.getElem_toArray, List.getElem_cons_zero, List.getElem_cons_succ])
  refine wpAnyH_take (i := 4) (v := ?v560) rfl (by kernel_rfl) (by kernel_rfl) (by kernel_rfl) (fun _ _ _ h => h) (Or.inl ⟨by rfl, ?hy560⟩) (by assumption) ?rest560
  case hy560 => intro w' hSw; have q1 := hX.out w' hSw; obtain ⟨x2, x6⟩ := q1; obtain ⟨c0, c1⟩ := hY.out w' hSw; (try dsimp only at hSw); go_simp; try with_reducible rfl
  (try simp only [Act.put, List.setIfInBounds_toArray, List.set_cons_zero, List.set_cons_succ, List.getElem_toArray, List.getElem_cons_zero, List.getElem_cons_succ])
  refine wpAnyH_take (i := 5) (v := ?v561) rfl (by kernel_rfl) (by kernel_rfl) (by kernel_rfl) (fun _ _ _ h => h) (Or.inl ⟨by rfl, ?hy561⟩) (by assumption) ?rest561
  case hy561 => intro w' hSw; have q1 := hX.out w' hSw; obtain ⟨x2, x6⟩ := q1; obtain ⟨c0, c1⟩ := hY.out w' hSw; (try dsimp only at hSw); go_simp; try with_reducible rfl
  (try simp only [Act.put, List.setIfInBounds_toArray, List.set_cons_zero, List.set_cons_succ, List.getElem_toArray, List.getElem_cons_zero, List.getElem_cons_succ])
  refine wpAnyH_take (i := 6) (v := ?v562) rfl (by kernel_rfl) (by kernel_rfl) (by kernel_rfl) (fun _ _ _ h => h) (Or.inl ⟨by rfl, ?hy562⟩) (by assumption) ?rest562
  case hy562 => intro w' hSw; have q1 := hX.out w' hSw; obtain ⟨x2, x6⟩ := q1; obtain ⟨c0, c1⟩ := hY.out w' hSw; (try dsimp only at hSw); go_simp; try with_reducible rfl
  (try simp only [Act.put, List.setIfInBounds_toArray, List.set_cons_zero, List.set_cons_succ, List.getElem_toArray, List.getElem_cons_zero, List.getElem_cons_succ])
  refine wpAnyH_take (i := 7) (v := ?v563) rfl (by kernel_rfl) (by kernel_rfl) (by kernel_rfl) (fun _ _ _ h => h) (Or.inl ⟨by rfl, ?hy563⟩) (by assumption) ?rest563
  case hy563 => intro w' hSw; have q1 := hX.out w' hSw; obtain ⟨x2, x6⟩ := q1; obtain ⟨c0, c1⟩ := hY.out w' hSw; (try dsimp only at hSw); go_simp; try with_reducible rfl
  (try simp only [Act.put, List.setIfInBounds_toArray, List.set_cons_zero, List.set_cons_succ, List.getElem_toArray, List.getElem_cons_zero, List.getElem_cons_succ])
  refine wpAnyH_take (i := 8) (v := ?v564) rfl (by kernel_rfl) (by kernel_rfl) (by kernel_rfl) (fun _ _ _ h => h) (Or.inl ⟨by rfl, ?hy564⟩) (by assumption) ?rest564
  case hy564 => intro w' hSw; have q1 := hX.out w' hSw; obtain ⟨x2, x6⟩ := q1; obtain ⟨c0, c1⟩ := hY.out w' hSw; (try dsimp only at hSw); go_simp; try with_reducible rfl
  (try simp only [Act.put, List.setIfInBounds_toArray, List.set_cons_zero, List.set_cons_succ, List.getElem_toArray, List.getElem_cons_zero, List.getElem_cons_succ])
  refine wpAnyH_take (i := 9) (v := ?v565) rfl (by kernel_rfl) (by kernel_rfl) (by kernel_rfl) (fun _ _ _ h => h) (Or.inl ⟨by rfl, ?hy565⟩) (by assumption) ?rest565
  case hy565 => intro w' hSw; have q1 := hX.out w' hSw; obtain ⟨x2, x6⟩ := q1; obtain ⟨c0, c1⟩ := hY.out w' hSw; (try dsimp only at hSw); go_simp; try with_reducible rfl
  (try simp only [Act.put, List.setIfInBounds_toArray, List.set_cons_zero, List.set_cons_succ, List.getElem_toArray, List.getElem_cons_zero, List.getElem_cons_succ])
  refine wpAnyH_take (i := 10) (v := ?v566) rfl (by kernel_rfl) (by kernel_rfl) (by kernel_rfl) (fun _ _ _ h => h) (Or.inl ⟨by rfl, ?hy566⟩) (by assumption) ?rest566
  case hy566 => intro w' hSw; have q1 := hX.out w' hSw; obtain ⟨x2, x6⟩ := q1; obtain ⟨c0, c1⟩ := hY.out w' hSw; (try dsimp only at hSw); go_simp; try with_reducible rfl
  (try simp only [Act.put, List.setIfInBounds_toArray, List.set_cons_zero, List.set_cons_succ, List.getElem_toArray, List.getElem_cons_zero, List.getElem_cons_succ])
  refine wpAnyH_ready (rs := [11]) (by kernel_rfl) (by simp) ?_
  refine AllReadyH.cons rfl (fun K hK => ?_) AllReadyH.nil
  go_simp
  have hd1 := hid (hd0.out.alloc hd0.out.size (.cells #[.int .i64 0, .int .i64 0] 69))
  have kz := hid (Blk.new wd 69 #[.int .i64 0, .int .i64 0])
  have hdz := hid hd0.out.size
  generalize wd.alloc (.cells #[.int .i64 0, .int .i64 0] 69) = we at *
  generalize wd.heap.size = me at *
  refine hK.out _ _ ?_ (fun hHeld => ?_)
  · exact hd1.out
  clear hK K
  (try simp only [Act.put, List.setIfInBounds_toArray, List.set_cons_zero, List.set_cons_succ, List.getElem_toArray, List.getElem_cons_zero, List.getElem_cons_succ])
  refine wpAnyH_ready (rs := [12]) (by kernel_rfl) (by simp) ?_
  refine AllReadyH.cons rfl (fun K hK => ?_) AllReadyH.nil
  have z0 := kz.out.cell 0
  have z1 := kz.out.cell 1
  simp only [List.getElem?_toArray, List.getElem?_cons_zero, List.getElem?_cons_succ] at z0 z1
  have fz := fun q => kz.out.frozen q
  go_simp
  obtain ⟨w5, hwf, hd3, ki⟩ : ∃ w5, ((we.setCell ⟨me, 0, none⟩ (.int .i64 i.op)).setCell ⟨me, 1, none⟩ (.int .i64 i.n)) = w5 ∧ Hid (Below w4.heap.size w4 w5) ∧ Hid (Blk w5 me 69 #[.int .i64 i.op, .int .i64 i.n]) := ⟨_, rfl, hid ((hd1.out.setCell (p := ⟨me, 0, none⟩) hdz.out _).setCell (p := ⟨me, 1, none⟩) hdz.out _), hid (by simpa using (kz.out.set_ 0 (.int .i64 i.op)).set_ 1 (.int .i64 i.n))⟩
  rw [hwf]
  clear hwf z0 z1 fz kz
  refine hK.out _ _ ?_ (fun hHeld => ?_)
  · exact hd3.out
  clear hK K
  (try simp only [Act.put, List.setIfInBounds_toArray, List.set_cons_zero, List.set_cons_succ, List.getElem_toArray, List.getElem_cons_zero, List.getElem_cons_succ])
  refine wpAnyH_done (by kernel_rfl) ?_ _
  have T := hid (T.out.below hd3.out)
  have hU := hid (hU.out.trans (Upd.of_below' hd3.out (fun _ => False)) fun _ _ e => e.elim)
  have hSl : Hid (∀ q, S2 q → q < w5.heap.size) := hid T.out.lt
  obtain ⟨x6, fx6⟩ := T.out.at_cell
  have c0 : w5.cell? ⟨me, 0, none⟩ = some (.int .i64 i.op) := ki.out.cell 0
  have c1 : w5.cell? ⟨me, 1, none⟩ = some (.int .i64 i.n) := ki.out.cell 1
  have i9 : IntKind.i64.wrap ((m.at_ : Int) + 1) = ((m.at_ + 1 : Nat) : Int) := by rw [IntKind.wrap_i64]; have := hat.out; have := hcl.out; omega
  replace x6 : w5.cell? ⟨g, 6, none⟩ = some (.int .i64 (m.at_ : Nat)) := x6
  obtain ⟨nx, hnx⟩ : ∃ nx : Nat, Hid (nx = m.at_ + 1) := ⟨_, hid rfl⟩
  rw [← hnx.out] at i9
  have hmeS : Hid (¬ S2 me) := hid fun e => by have := hS4.out me e; have := hdz.out; omega
  clear hX hY hd0 hd1 hd3 ia ib hHeld hdz hco
  have t6 : decide (i.op ≤ 6) = false := decide_eq_false (by have := hex.out.1; omega)
  have e18 : (i.op == 18) = false := by have := hex.out.2.1; simpa using this
  have e19 : (i.op == 19) = false := by have := hex.out.2.2.1; simpa using this
  have e31 : (i.op == 31) = false := by have := hex.out.2.2.2.1; simpa using this
  have tk : (takes i.op == 2) = false := by have := hex.out.2.2.2.2; simpa using this
  have hr2 := hid (hr.out.trans (if_neg hex.out.2.2.2.1))
  have hst : ∃ a9 r9, Hid (m.tick.st = a9 :: r9) := by
    have h9 : takes i.op ≤ (m.st.length : Int) := hkt.out.2.2.1
    have h8 := one_takes hkt.out.2.2.2.2.1 hkt.out.2.2.2.2.2.1 (by have := hex.out.1; omega) hex.out.2.1 hex.out.2.2.1 hex.out.2.2.2.1 hex.out.2.2.2.2; rw [h8] at h9
    show ∃ a9 r9, Hid (m.st = a9 :: r9)
    cases hm : m.st with
    | nil => rw [hm] at h9; simp at h9
    | cons x l => exact ⟨x, l, hid rfl⟩
  obtain ⟨a9, r9, hst⟩ := hst
  have hop := hid (one_ops hkt.out.2.2.2.2.1 hkt.out.2.2.2.2.2.1 (by have := hex.out.1; omega) hex.out.2.1 hex.out.2.2.1 hex.out.2.2.2.1 hex.out.2.2.2.2)
  have hr3 : Hid (onP F.p F.args F.src m.tick i = (oneP i.op F.src m.tick a9 r9).map fun m' => { m' with at_ := m.at_ + 1 }) := hid (by
    unfold onP
    rw [if_neg (by have := hex.out.1; omega), if_neg hex.out.2.1, if_neg hex.out.2.2.1, if_neg hex.out.2.2.2.2]
    rw [hst.out]
    rfl)
  rw [hr3.out] at hr2
  clear hr3
  go_wp2_with fail
  refine (takes_any i.op _).mono ?_
  rintro e w6 ⟨rfl, hb6⟩
  have ki := hid (ki.out.below_all hb6)
  have T := hid (T.out.below hb6)
  have hU := hid (hU.out.trans (Upd.of_below' hb6 (fun _ => False)) fun _ _ e => e.elim)
  clear hb6 x6 fx6 c0 c1
  have c0 : w6.cell? ⟨me, 0, none⟩ = some (.int .i64 i.op) := ki.out.cell 0
  have hlw := hid (one_any i.op hop.out a9 r9 T.out hst.out (by have h9 := hkt.out.2.2.2.1; omega) hkt.out.1 hsrc.out hsl.out)
  cases hq : oneP i.op F.src m.tick a9 r9 with
  | ok m9 =>
    rw [hq] at hr2 hlw
    go_wp2_with fail
    refine hlw.out.mono ?_
    rintro e w7 ⟨rfl, S6, hA6, a1, a2, a3⟩
    have A6 := hid hA6
    have a1 := hid a1
    have a2 := hid a2
    have a3 := hid a3
    have hr4 : Hid (stepP F.p F.args F.src m = .inr { m9 with at_ := nx }) := hid (by rw [hr2.out, hnx.out]; rfl)
    clear hA6 hlw hr2
    have hw6 := A6.out.at_cell
    obtain ⟨x6, fx6⟩ := hw6
    go_wp2_with fail
    refine ⟨rfl, .tuple #[], by simp [results, Tryz.results72, go_sem], ?_⟩
    rw [← hres.out, hr4.out]
    exact ⟨rfl, MGo.comp s1.out s2.out hU.out (MGo.comp a1.out a2.out a3.out (A6.out.setAt _))⟩
  | error er =>
    rw [hq] at hr2 hlw
    go_wp2_with fail
    refine hlw.out.mono ?_
    rintro e w7 ⟨rfl, st9, hg9⟩
    have hg9 := hid hg9
    have hr4 : Hid (stepP F.p F.args F.src m = .inl (er, m.tick)) := hid (by rw [hr2.out]; rfl)
    clear hlw hr2
    go_wp2_with fail
    refine ⟨rfl, ?_⟩
    rw [← hres.out, hr4.out]
    exact ⟨rfl, st9, MGo.comp s1.out s2.out hU.out hg9.out⟩
theorem step_any {d : Nat → Int} (h : MAt S w g F m) (G : Good F.p F.args F.src d) (hk : m.Ok F.p d) (hsrc : ∀ x ∈ F.src, x.2.s.size ≤ 9223372036854775806) (hsl : F.src.length ≤ 1000000) : Calls Tryz.prog 72 #[.pointer (some ⟨g, 0, none⟩)] w (StepPost S w g F (stepP F.p F.args F.src m)) := by
  by_cases hf : m.fuel = 0
  · exact step_dry h hf
  by_cases h6 : (F.p.code.getD m.at_ is0).op ≤ 6
  · exact stepA h G hk hf h6
  by_cases h18 : (F.p.code.getD m.at_ is0).op = 18
  · exact stepB h G hk hf h18
  by_cases h19 : (F.p.code.getD m.at_ is0).op = 19
  · exact stepC h G hk hf h19
  by_cases h31 : (F.p.code.getD m.at_ is0).op = 31
  · exact stepD h G hk hf h31
  by_cases ht : takes (F.p.code.getD m.at_ is0).op = 2
  · exact stepE h G hk hf ⟨h6, h18, h19, h31, ht⟩
  · exact stepF h G hk hf hsrc hsl ⟨h6, h18, h19, h31, ht⟩
end
end Go.Proofs.YtdmogoaaecdbaaaGreatDoor


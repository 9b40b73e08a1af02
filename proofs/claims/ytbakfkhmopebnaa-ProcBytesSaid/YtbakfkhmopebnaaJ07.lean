/- Texts of the proof, joined: KForm, KGm, KCRd, KCUint, KCRx, KCRbyte, KCRuint64, KCRint64. -/
import Derived.Test.YtbakfkhmopebnaaJ06
import Derived.Test.YtbakfkhmopebnaaJ05
import Derived.Defers
import Derived.Recover
namespace Go.Proofs.Ytbakfkhmopebnaa
open Go.RowKit
set_option linter.unusedVariables false
set_option linter.unusedSimpArgs false

theorem opd_cases (op : Int) : opd op = 1 ∨ opd op = 2 ∨ opd op = 3 ∨ opd op = 0 := by
  unfold opd
  split
  · exact .inl rfl
  · split
    · exact .inr (.inl rfl)
    · split
      · exact .inr (.inr (.inl rfl))
      · split
        · exact .inr (.inr (.inl rfl))
        · exact .inr (.inr (.inr rfl))
theorem wordB_ne : ∀ k : Nat, 1 ≤ k → k ≤ 31 → wordB k ≠ ⟨#[]⟩ := by
  have h : (List.range 32).all (fun k => decide (k = 0) || decide (wordB k ≠ ⟨#[]⟩)) = true := by decide +kernel
  intro k h1 h2
  have := List.all_eq_true.1 h k (List.mem_range.2 (by omega))
  simp only [Bool.or_eq_true, decide_eq_true_eq] at this
  rcases this with e | e
  · omega
  · exact e
theorem wordI_nil {op : Int} (h : isOp op = false) : wordI op = ⟨#[]⟩ := by unfold wordI; rw [if_neg (by rw [h]; decide)]
theorem wordI_some {op : Int} (h : isOp op = true) : wordI op ≠ ⟨#[]⟩ := by
  unfold wordI
  rw [if_pos h]
  unfold isOp at h
  simp only [Bool.and_eq_true, decide_eq_true_eq] at h
  exact wordB_ne _ (by omega) (by omega)
/-! a program in memory -/
def Vl.cells (v : Vl) : List Value := [.int .i64 v.k, .int .i64 v.n, .string v.s]
def Is.cells (i : Is) : List Value := [.int .i64 i.op, .int .i64 i.n]
def vcells (l : List Vl) : List Value := l.flatMap Vl.cells
def icells (l : List Is) : List Value := l.flatMap Is.cells
theorem flat_at {α : Type} (f : α → List Value) (sz : Nat) (hf : ∀ a, (f a).length = sz) (l : List α) (k j : Nat) (h : k < l.length) (hj : j < sz) : (l.flatMap f)[k * sz + j]? = (f l[k])[j]? := by
  induction l generalizing k with
  | nil => simp at h
  | cons x l ih =>
    rw [List.flatMap_cons]
    cases k with
    | zero => rw [List.getElem?_append_left (by rw [hf]; omega)]; simp
    | succ k =>
      rw [List.getElem?_append_right (by rw [hf, Nat.succ_mul]; omega), hf, show (k + 1) * sz + j - sz = k * sz + j by rw [Nat.succ_mul]; omega, ih k (by simpa using h)]
      simp
theorem flat_length {α : Type} (f : α → List Value) (sz : Nat) (hf : ∀ a, (f a).length = sz) (l : List α) : (l.flatMap f).length = l.length * sz := by
  induction l with
  | nil => simp
  | cons x l ih => rw [List.flatMap_cons, List.length_append, ih, hf, List.length_cons, Nat.succ_mul]; omega
theorem Rd.val_at {S : Nat → Prop} {w : World} {A : Option Addr} {l : List Vl} {k : Nat} (h : Rd S w 3 A l.length (vcells l)) (hk : k < l.length) : ∃ b o, A = some ⟨b, o, none⟩ ∧ b < w.heap.size ∧ w.cell? ⟨b, o + k * 3, none⟩ = some (.int .i64 l[k].k) ∧ w.cell? ⟨b, o + k * 3 + 1, none⟩ = some (.int .i64 l[k].n) ∧ w.cell? ⟨b, o + k * 3 + 2, none⟩ = some (.string l[k].s) := by
  obtain ⟨b, o, e, hS, hl, hc⟩ := Rd.at_ h hk
  have g := fun j (hj : j < 3) u (hu : (Vl.cells l[k])[j]? = some u) => hc (k * 3 + j) u (by rw [vcells, flat_at Vl.cells 3 (fun _ => rfl) l k j hk hj]; exact hu)
  simp only [← Nat.add_assoc] at g
  exact ⟨b, o, e, hl, g 0 (by omega) _ rfl, g 1 (by omega) _ rfl, g 2 (by omega) _ rfl⟩
theorem Rd.ins_at {S : Nat → Prop} {w : World} {A : Option Addr} {l : List Is} {k : Nat} (h : Rd S w 2 A l.length (icells l)) (hk : k < l.length) : ∃ b o, A = some ⟨b, o, none⟩ ∧ b < w.heap.size ∧ w.cell? ⟨b, o + k * 2, none⟩ = some (.int .i64 l[k].op) ∧ w.cell? ⟨b, o + k * 2 + 1, none⟩ = some (.int .i64 l[k].n) := by
  obtain ⟨b, o, e, hS, hl, hc⟩ := Rd.at_ h hk
  have g := fun j (hj : j < 2) u (hu : (Is.cells l[k])[j]? = some u) => hc (k * 2 + j) u (by rw [icells, flat_at Is.cells 2 (fun _ => rfl) l k j hk hj]; exact hu)
  simp only [← Nat.add_assoc] at g
  exact ⟨b, o, e, hl, g 0 (by omega) _ rfl, g 1 (by omega) _ rfl⟩
structure PrIn (S : Nat → Prop) (w : World) (A1 A2 : Option Addr) (p : Pr) : Prop where
  c : Rd S w 3 A1 p.cs.length (vcells p.cs)
  i : Rd S w 2 A2 p.code.length (icells p.code)
  t : ∀ v ∈ p.cs, v.s.size ≤ 9223372036854775806
  l : p.cs.length ≤ 1000000000 ∧ p.code.length ≤ 1000000000
theorem PrIn.below {S : Nat → Prop} {w w' : World} {A1 A2 : Option Addr} {p : Pr} (h : PrIn S w A1 A2 p) (hb : Below w.heap.size w w') : PrIn S w' A1 A2 p := ⟨h.c.below_all hb, h.i.below_all hb, h.t, h.l⟩
set_option maxRecDepth 100000 in
theorem rconstant_any (v : Vl) (w : World) (hs : v.s.size ≤ 9223372036854775806) : Calls Try.prog 37 #[.agg #[.int .i64 v.k, .int .i64 v.n, .string v.s]] w fun e w' => e = .returned (.bool (decide (conE v = 0))) ∧ Below w.heap.size w w' := by
  have hva := hid (fun w => rvalid_any v w hs)
  have kb := Blk.new w 51 #[.int .i64 v.k, .int .i64 v.n, .string v.s]
  have hB : Hid (Below w.heap.size w (w.alloc (.cells #[.int .i64 v.k, .int .i64 v.n, .string v.s] 51))) := hid ((Below.refl _ _).alloc (Nat.le_refl _) _)
  have KB := hid kb
  have x0 := kb.cell 0
  have x1 := kb.cell 1
  have x2 := kb.cell 2
  simp only [List.getElem?_toArray, List.getElem?_cons_zero, List.getElem?_cons_succ] at x0 x1 x2
  clear kb hs
  go_enter Try.func37, Try.ntmps37
  go_upto_region 1 with fail
  generalize w.alloc (.cells #[.int .i64 v.k, .int .i64 v.n, .string v.s] 51) = w1 at *
  go_wp2_with fail
  refine (hva.out w1).mono ?_
  rintro e w2 ⟨rfl, hb0⟩
  have HB2 := hid (hB.out.trans (hb0.mono hB.out.size))
  have KB2 := hid (KB.out.below_all hb0)
  clear hb0 x0 x1 x2
  have y0 := KB2.out.cell 0
  simp only [List.getElem?_toArray, List.getElem?_cons_zero] at y0
  cases ho : v.ok with
  | false =>
    have hr : Hid (decide (conE v = 0) = false) := hid (decide_eq_false (by unfold conE; rw [if_neg (by rw [ho]; rintro ⟨h, _⟩; cases h)]; decide))
    go_wp2_with fail
    go_ret
    exact ⟨by rw [hr.out]; rfl, HB2.out⟩
  | true =>
    by_cases hk : v.k = 0
    · have t1 : (v.k == 0) = true := by simpa using hk
      have t2 : (v.k != 0) = false := by simpa using hk
      have hr : Hid (decide (conE v = 0) = false) := hid (decide_eq_false (by unfold conE; rw [if_neg (by rintro ⟨_, h⟩; exact h hk)]; decide))
      generalize v.k = vk at *
      clear hk
      go_wp2_with fail
      go_ret
      exact ⟨by rw [hr.out]; rfl, HB2.out⟩
    · have t1 : (v.k == 0) = false := by simpa using hk
      have t2 : (v.k != 0) = true := by simpa using hk
      have hr : Hid (decide (conE v = 0) = true) := hid (decide_eq_true (by unfold conE; rw [if_pos ⟨ho, hk⟩]))
      generalize v.k = vk at *
      clear hk
      go_wp2_with fail
      go_ret
      exact ⟨by rw [hr.out]; rfl, HB2.out⟩
set_option maxRecDepth 100000 in
theorem fits_any (p : Pr) (A1 A2 : Option Addr) (c1 c2 : Nat) (i : Is) (w : World) : Calls Try.prog 35 #[.agg #[.int .i64 p.args, .slice A1 p.cs.length c1, .slice A2 p.code.length c2], .agg #[.int .i64 i.op, .int .i64 i.n]] w fun e w' => e = .returned (.bool (decide (0 ≤ i.n ∧ i.n < p.most i.op))) ∧ Below w.heap.size w w' := by
  have hops := hid (operationOf_any i.op)
  have kp := Blk.new w 29 #[.int .i64 p.args, .slice A1 p.cs.length c1, .slice A2 p.code.length c2]
  have hB1 : Below w.heap.size w (w.alloc (.cells #[.int .i64 p.args, .slice A1 p.cs.length c1, .slice A2 p.code.length c2] 29)) := (Below.refl _ _).alloc (Nat.le_refl _) _
  have ki := Blk.new (w.alloc (.cells #[.int .i64 p.args, .slice A1 p.cs.length c1, .slice A2 p.code.length c2] 29)) 49 #[.int .i64 i.op, .int .i64 i.n]
  have hz : (w.alloc (.cells #[.int .i64 p.args, .slice A1 p.cs.length c1, .slice A2 p.code.length c2] 29)).heap.size = w.heap.size + 1 := by simp
  have hB2 : Below w.heap.size w ((w.alloc (.cells #[.int .i64 p.args, .slice A1 p.cs.length c1, .slice A2 p.code.length c2] 29)).alloc (.cells #[.int .i64 i.op, .int .i64 i.n] 49)) := hB1.alloc (by rw [hz]; omega) _
  have kp2 := kp.alloc (.cells #[.int .i64 i.op, .int .i64 i.n] 49)
  rw [hz] at ki
  have hf1 := ofd1
  have KP := hid kp2
  have KI := hid ki
  have HB := hid hB2
  have hmo : Hid (p.most i.op = if opd i.op = 1 then (p.cs.length : Int) else if opd i.op = 2 then p.args else if opd i.op = 3 then p.code.length else 1) := hid rfl
  clear kp ki kp2 hB1 hB2
  go_enter Try.func35, Try.ntmps35
  go_upto_region 2 with fail
  generalize (w.alloc (.cells #[.int .i64 p.args, .slice A1 p.cs.length c1, .slice A2 p.code.length c2] 29)).alloc (.cells #[.int .i64 i.op, .int .i64 i.n] 49) = w1 at *
  have i0 := KI.out.cell 0
  have i1 := KI.out.cell 1
  simp only [List.getElem?_toArray, List.getElem?_cons_zero, List.getElem?_cons_succ] at i0 i1
  clear hz
  go_wp2_with fail
  refine (hops.out w1).mono ?_
  rintro e w2 ⟨rfl, hb0⟩
  have KP2 := hid (KP.out.below_all hb0)
  have KI2 := hid (KI.out.below_all hb0)
  have HB2 := hid (HB.out.trans (hb0.mono HB.out.size))
  clear hb0 i0 i1
  have i0 := KI2.out.cell 0
  have i1 := KI2.out.cell 1
  simp only [List.getElem?_toArray, List.getElem?_cons_zero, List.getElem?_cons_succ] at i0 i1
  have p0 := KP2.out.cell 0
  have p1 := KP2.out.cell 1
  have p2 := KP2.out.cell 2
  simp only [List.getElem?_toArray, List.getElem?_cons_zero, List.getElem?_cons_succ] at p0 p1 p2
  clear hops
  generalize wordI i.op = wd at *
  generalize takes i.op = tk at *
  generalize lays i.op = ly at *
  rcases opd_cases i.op with h | h | h | h
  · rw [h] at hmo ⊢
    have hm : Hid (p.most i.op = (p.cs.length : Int)) := hid (by rw [hmo.out]; simp)
    clear h hmo
    by_cases h0 : 0 ≤ i.n
    · have t0 : decide (0 ≤ i.n) = true := decide_eq_true h0
      have hr : Hid (decide (0 ≤ i.n ∧ i.n < p.most i.op) = decide (i.n < (p.cs.length : Int))) := hid (by rw [hm.out]; exact decide_eq_decide.2 ⟨fun h => h.2, fun h => ⟨h0, h⟩⟩)
      go_wp2_with fail
      go_ret
      exact ⟨by rw [hr.out]; rfl, HB2.out⟩
    · have t0 : decide (0 ≤ i.n) = false := decide_eq_false h0
      have hr : Hid (decide (0 ≤ i.n ∧ i.n < p.most i.op) = false) := hid (decide_eq_false fun h => h0 h.1)
      go_wp2_with fail
      go_ret
      exact ⟨by rw [hr.out]; rfl, HB2.out⟩
  · rw [h] at hmo ⊢
    have hm : Hid (p.most i.op = p.args) := hid (by rw [hmo.out]; simp)
    clear h hmo
    by_cases h0 : 0 ≤ i.n
    · have t0 : decide (0 ≤ i.n) = true := decide_eq_true h0
      have hr : Hid (decide (0 ≤ i.n ∧ i.n < p.most i.op) = decide (i.n < p.args)) := hid (by rw [hm.out]; exact decide_eq_decide.2 ⟨fun h => h.2, fun h => ⟨h0, h⟩⟩)
      go_wp2_with fail
      go_ret
      exact ⟨by rw [hr.out]; rfl, HB2.out⟩
    · have t0 : decide (0 ≤ i.n) = false := decide_eq_false h0
      have hr : Hid (decide (0 ≤ i.n ∧ i.n < p.most i.op) = false) := hid (decide_eq_false fun h => h0 h.1)
      go_wp2_with fail
      go_ret
      exact ⟨by rw [hr.out]; rfl, HB2.out⟩
  · rw [h] at hmo ⊢
    have hm : Hid (p.most i.op = (p.code.length : Int)) := hid (by rw [hmo.out]; simp)
    clear h hmo
    by_cases h0 : 0 ≤ i.n
    · have t0 : decide (0 ≤ i.n) = true := decide_eq_true h0
      have hr : Hid (decide (0 ≤ i.n ∧ i.n < p.most i.op) = decide (i.n < (p.code.length : Int))) := hid (by rw [hm.out]; exact decide_eq_decide.2 ⟨fun h => h.2, fun h => ⟨h0, h⟩⟩)
      go_wp2_with fail
      go_ret
      exact ⟨by rw [hr.out]; rfl, HB2.out⟩
    · have t0 : decide (0 ≤ i.n) = false := decide_eq_false h0
      have hr : Hid (decide (0 ≤ i.n ∧ i.n < p.most i.op) = false) := hid (decide_eq_false fun h => h0 h.1)
      go_wp2_with fail
      go_ret
      exact ⟨by rw [hr.out]; rfl, HB2.out⟩
  · rw [h] at hmo ⊢
    have hm : Hid (p.most i.op = (1 : Int)) := hid (by rw [hmo.out]; simp)
    clear h hmo
    by_cases h0 : 0 ≤ i.n
    · have t0 : decide (0 ≤ i.n) = true := decide_eq_true h0
      have hr : Hid (decide (0 ≤ i.n ∧ i.n < p.most i.op) = decide (i.n < (1 : Int))) := hid (by rw [hm.out]; exact decide_eq_decide.2 ⟨fun h => h.2, fun h => ⟨h0, h⟩⟩)
      go_wp2_with fail
      go_ret
      exact ⟨by rw [hr.out]; rfl, HB2.out⟩
    · have t0 : decide (0 ≤ i.n) = false := decide_eq_false h0
      have hr : Hid (decide (0 ≤ i.n ∧ i.n < p.most i.op) = false) := hid (decide_eq_false fun h => h0 h.1)
      go_wp2_with fail
      go_ret
      exact ⟨by rw [hr.out]; rfl, HB2.out⟩
set_option maxRecDepth 100000 in
set_option maxHeartbeats 1000000 in
theorem rinstr_any (p : Pr) (A1 A2 : Option Addr) (c1 c2 : Nat) (i : Is) (w : World) : Calls Try.prog 38 #[.agg #[.int .i64 p.args, .slice A1 p.cs.length c1, .slice A2 p.code.length c2], .agg #[.int .i64 i.op, .int .i64 i.n]] w fun e w' => e = .returned (.int .i64 (p.insE i)) ∧ Below w.heap.size w w' := by
  have hwd := hid (rword_any i.op)
  have hod := hid (roperand_any i.op)
  have kp := Blk.new w 29 #[.int .i64 p.args, .slice A1 p.cs.length c1, .slice A2 p.code.length c2]
  have hB1 : Below w.heap.size w (w.alloc (.cells #[.int .i64 p.args, .slice A1 p.cs.length c1, .slice A2 p.code.length c2] 29)) := (Below.refl _ _).alloc (Nat.le_refl _) _
  have ki := Blk.new (w.alloc (.cells #[.int .i64 p.args, .slice A1 p.cs.length c1, .slice A2 p.code.length c2] 29)) 49 #[.int .i64 i.op, .int .i64 i.n]
  have hz : (w.alloc (.cells #[.int .i64 p.args, .slice A1 p.cs.length c1, .slice A2 p.code.length c2] 29)).heap.size = w.heap.size + 1 := by simp
  have hB2 : Below w.heap.size w ((w.alloc (.cells #[.int .i64 p.args, .slice A1 p.cs.length c1, .slice A2 p.code.length c2] 29)).alloc (.cells #[.int .i64 i.op, .int .i64 i.n] 49)) := hB1.alloc (by rw [hz]; omega) _
  have kp2 := kp.alloc (.cells #[.int .i64 i.op, .int .i64 i.n] 49)
  rw [hz] at ki
  have KP := hid kp2
  have KI := hid ki
  have HB := hid hB2
  have hmo : Hid (p.most i.op = if opd i.op = 1 then (p.cs.length : Int) else if opd i.op = 2 then p.args else if opd i.op = 3 then p.code.length else 1) := hid rfl
  have hin : Hid (p.insE i = if isOp i.op = false then 53 else if 0 ≤ i.n ∧ i.n < p.most i.op then 0 else 54) := hid rfl
  clear kp ki kp2 hB1 hB2
  go_enter Try.func38, Try.ntmps38
  go_upto_region 1 with fail
  generalize (w.alloc (.cells #[.int .i64 p.args, .slice A1 p.cs.length c1, .slice A2 p.code.length c2] 29)).alloc (.cells #[.int .i64 i.op, .int .i64 i.n] 49) = w1 at *
  have i0 := KI.out.cell 0
  have i1 := KI.out.cell 1
  simp only [List.getElem?_toArray, List.getElem?_cons_zero, List.getElem?_cons_succ] at i0 i1
  clear hz
  go_wp2_with fail
  refine (hwd.out w1).mono ?_
  rintro e w2 ⟨rfl, hb0⟩
  have KP2 := hid (KP.out.below_all hb0)
  have KI2 := hid (KI.out.below_all hb0)
  have HB2 := hid (HB.out.trans (hb0.mono HB.out.size))
  clear hb0 i0 i1 hwd
  have i0 := KI2.out.cell 0
  have i1 := KI2.out.cell 1
  simp only [List.getElem?_toArray, List.getElem?_cons_zero, List.getElem?_cons_succ] at i0 i1
  have p0 := KP2.out.cell 0
  have p1 := KP2.out.cell 1
  have p2 := KP2.out.cell 2
  simp only [List.getElem?_toArray, List.getElem?_cons_zero, List.getElem?_cons_succ] at p0 p1 p2
  cases ho : isOp i.op with
  | false =>
    have hv : Hid (p.insE i = 53) := hid (by rw [hin.out, ho]; rfl)
    have e0 := wordI_nil ho
    rw [e0]
    go_wp2_with fail
    go_ret
    exact ⟨by rw [hv.out]; rfl, HB2.out⟩
  | true =>
    obtain ⟨e1, e2, e3⟩ := str_nil (wordI_some ho)
    have hin2 : Hid (p.insE i = if 0 ≤ i.n ∧ i.n < p.most i.op then 0 else 54) := hid (by rw [hin.out, ho]; rfl)
    clear ho hin
    generalize wordI i.op = wd at *
    go_wp2_with fail
    refine (hod.out w2).mono ?_
    rintro e w3 ⟨rfl, hw3⟩
    obtain rfl := hw3.symm
    clear hod
    rcases opd_cases i.op with h | h | h | h
    · rw [h] at hmo ⊢
      have hm : Hid (p.most i.op = (p.cs.length : Int)) := hid (by rw [hmo.out]; simp)
      clear h hmo
      rw [hm.out] at hin2
      by_cases h0 : i.n < 0
      · have t0 : decide (i.n < 0) = true := decide_eq_true h0
        have hr : Hid (p.insE i = 54) := hid (by rw [hin2.out, if_neg (by omega)])
        go_wp2_with fail
        go_ret
        exact ⟨by rw [hr.out]; rfl, HB2.out⟩
      · have t0 : decide (i.n < 0) = false := decide_eq_false h0
        by_cases h1 : (p.cs.length : Int) ≤ i.n
        · have t1 : decide ((p.cs.length : Int) ≤ i.n) = true := decide_eq_true h1
          have hr : Hid (p.insE i = 54) := hid (by rw [hin2.out, if_neg (by omega)])
          go_wp2_with fail
          go_ret
          exact ⟨by rw [hr.out]; rfl, HB2.out⟩
        · have t1 : decide ((p.cs.length : Int) ≤ i.n) = false := decide_eq_false h1
          have hr : Hid (p.insE i = 0) := hid (by rw [hin2.out, if_pos (by omega)])
          go_wp2_with fail
          go_ret
          exact ⟨by rw [hr.out]; rfl, HB2.out⟩
    · rw [h] at hmo ⊢
      have hm : Hid (p.most i.op = p.args) := hid (by rw [hmo.out]; simp)
      clear h hmo
      rw [hm.out] at hin2
      by_cases h0 : i.n < 0
      · have t0 : decide (i.n < 0) = true := decide_eq_true h0
        have hr : Hid (p.insE i = 54) := hid (by rw [hin2.out, if_neg (by omega)])
        go_wp2_with fail
        go_ret
        exact ⟨by rw [hr.out]; rfl, HB2.out⟩
      · have t0 : decide (i.n < 0) = false := decide_eq_false h0
        by_cases h1 : p.args ≤ i.n
        · have t1 : decide (p.args ≤ i.n) = true := decide_eq_true h1
          have hr : Hid (p.insE i = 54) := hid (by rw [hin2.out, if_neg (by omega)])
          go_wp2_with fail
          go_ret
          exact ⟨by rw [hr.out]; rfl, HB2.out⟩
        · have t1 : decide (p.args ≤ i.n) = false := decide_eq_false h1
          have hr : Hid (p.insE i = 0) := hid (by rw [hin2.out, if_pos (by omega)])
          go_wp2_with fail
          go_ret
          exact ⟨by rw [hr.out]; rfl, HB2.out⟩
    · rw [h] at hmo ⊢
      have hm : Hid (p.most i.op = (p.code.length : Int)) := hid (by rw [hmo.out]; simp)
      clear h hmo
      rw [hm.out] at hin2
      by_cases h0 : i.n < 0
      · have t0 : decide (i.n < 0) = true := decide_eq_true h0
        have hr : Hid (p.insE i = 54) := hid (by rw [hin2.out, if_neg (by omega)])
        go_wp2_with fail
        go_ret
        exact ⟨by rw [hr.out]; rfl, HB2.out⟩
      · have t0 : decide (i.n < 0) = false := decide_eq_false h0
        by_cases h1 : (p.code.length : Int) ≤ i.n
        · have t1 : decide ((p.code.length : Int) ≤ i.n) = true := decide_eq_true h1
          have hr : Hid (p.insE i = 54) := hid (by rw [hin2.out, if_neg (by omega)])
          go_wp2_with fail
          go_ret
          exact ⟨by rw [hr.out]; rfl, HB2.out⟩
        · have t1 : decide ((p.code.length : Int) ≤ i.n) = false := decide_eq_false h1
          have hr : Hid (p.insE i = 0) := hid (by rw [hin2.out, if_pos (by omega)])
          go_wp2_with fail
          go_ret
          exact ⟨by rw [hr.out]; rfl, HB2.out⟩
    · rw [h] at hmo ⊢
      have hm : Hid (p.most i.op = (1 : Int)) := hid (by rw [hmo.out]; simp)
      clear h hmo
      rw [hm.out] at hin2
      by_cases h0 : i.n < 0
      · have t0 : decide (i.n < 0) = true := decide_eq_true h0
        have hr : Hid (p.insE i = 54) := hid (by rw [hin2.out, if_neg (by omega)])
        go_wp2_with fail
        go_ret
        exact ⟨by rw [hr.out]; rfl, HB2.out⟩
      · have t0 : decide (i.n < 0) = false := decide_eq_false h0
        by_cases h1 : (1 : Int) ≤ i.n
        · have t1 : decide ((1 : Int) ≤ i.n) = true := decide_eq_true h1
          have hr : Hid (p.insE i = 54) := hid (by rw [hin2.out, if_neg (by omega)])
          go_wp2_with fail
          go_ret
          exact ⟨by rw [hr.out]; rfl, HB2.out⟩
        · have t1 : decide ((1 : Int) ≤ i.n) = false := decide_eq_false h1
          have hr : Hid (p.insE i = 0) := hid (by rw [hin2.out, if_pos (by omega)])
          go_wp2_with fail
          go_ret
          exact ⟨by rw [hr.out]; rfl, HB2.out⟩

end Go.Proofs.Ytbakfkhmopebnaa

namespace Go.Proofs.Ytbakfkhmopebnaa
open Go.RowKit
set_option linter.unusedVariables false
set_option linter.unusedSimpArgs false

theorem own_other {w w' : World} {base base' : Nat} {e e' : TypeId} {size size' n n' : Nat} {v v' : Value} {xs xs' : List Value} (h : w.ownsRow base e size v n xs) (h' : w.ownsRow base' e' size' v' n' xs') (hne : e ≠ e') (hg : w.grownBy w' v'.ownBlock) : w'.ownsRow base e size v n xs := by
  refine ⟨h.1, ?_⟩
  rcases h.2 with hn | ⟨g, cap, cur, rfl, hb, hh, rest⟩
  · exact .inl hn
  · have hl : g < w.heap.size := (Array.getElem?_eq_some_iff.1 hh).1
    refine .inr ⟨g, cap, cur, rfl, hb, (hg.block g hl fun e => ?_).trans hh, rest⟩
    rcases h'.2 with ⟨rfl, _⟩ | ⟨g', cap', cur', rfl, _, hh', _⟩
    · cases e
    · simp only [Value.ownBlock, Option.some.injEq] at e
      subst e
      rw [hh] at hh'
      injection hh' with hh'
      injection hh' with _ ht
      exact hne ht
/-- a reader, the result at w's end, the program read so far at bp; rows of one's own behind N -/
structure GM (T : TypeId) (S : Nat → Prop) (w W : World) (N g : Nat) (A : Option Addr) (c : Nat) (r : Rr) (bp : Nat) (a : Int) (V1 V2 : Value) (cs : List Vl) (code : List Is) : Prop where
  rd : RrOf T S W g A c r
  sb : ∀ k, S k → k < N ∧ k ≠ bp ∧ k ≠ w.heap.size
  gb : g < N ∧ g ≠ bp ∧ w.heap.size < g ∧ w.heap.size < bp ∧ bp < N
  zv : Blk W w.heap.size 29 #[.int .i64 0, .slice none 0 0, .slice none 0 0]
  pv : Blk W bp 29 #[.int .i64 a, V1, V2]
  o1 : W.ownsRow N 51 3 V1 cs.length (vcells cs)
  o2 : W.ownsRow N 49 2 V2 code.length (icells code)
  up : Below w.heap.size w W
  sz : N ≤ W.heap.size
section
variable {T : TypeId} {S : Nat → Prop} {w W W' : World} {N g : Nat} {A : Option Addr} {c : Nat} {r r' : Rr} {bp : Nat} {a : Int} {V1 V2 : Value} {cs : List Vl} {code : List Is}
theorem GM.upd {M : Nat → Prop} (h : GM T S w W N g A c r bp a V1 V2 cs code) (hu : Upd M W W') (hM : ∀ k, k < W.heap.size → M k → k = g) (hr : RrOf T S W' g A c r') : GM T S w W' N g A c r' bp a V1 V2 cs code := by
  obtain ⟨g1, g2, g3, g4, g5⟩ := h.gb
  have hz := h.sz
  exact ⟨hr, h.sb, h.gb, h.zv.upd hu fun hm => by have := hM _ h.zv.lt hm; omega, h.pv.upd hu fun hm => by have := hM _ h.pv.lt hm; omega,
    own_updB h.o1 hu fun k h1 h2 hm => by have := hM k h2 hm; omega, own_updB h.o2 hu fun k h1 h2 hm => by have := hM k h2 hm; omega,
    h.up.trans (hu.below h.up.size fun k hk hm => by have := hM k (Nat.lt_of_lt_of_le hk h.up.size) hm; omega), Nat.le_trans hz hu.size⟩
theorem GM.call (h : GM T S w W N g A c r bp a V1 V2 cs code) (hu : Upd (fun k => k = g) W W') (hr : RrOf T S W' g A c r') : GM T S w W' N g A c r' bp a V1 V2 cs code := h.upd hu (fun _ _ h => h) hr
theorem GM.below (h : GM T S w W N g A c r bp a V1 V2 cs code) (hb : Below W.heap.size W W') : GM T S w W' N g A c r bp a V1 V2 cs code := h.upd (Upd.of_below' hb Nil) (fun _ _ h => h.elim) (h.rd.below_all hb)
theorem GM.drewN (h : GM T S w W N g A c r bp a V1 V2 cs code) (n : Nat) : GM T S w (W.drewN n) N g A c r bp a V1 V2 cs code := h.upd ((Upd.refl Nil W).drewN n) (fun _ _ h => h.elim) (h.rd.drewN n)
/-- a store into the program's variable, the rows as given -/
theorem GM.put {U1 U2 : Value} {a' : Int} {cs' : List Vl} {code' : List Is} (h : GM T S w W N g A c r bp a V1 V2 cs code) (i : Nat) (u : Value) (hc : (#[.int .i64 a, V1, V2] : Array Value).setIfInBounds i u = #[.int .i64 a', U1, U2])
    (o1 : W.ownsRow N 51 3 U1 cs'.length (vcells cs')) (o2 : W.ownsRow N 49 2 U2 code'.length (icells code')) : GM T S w (W.setCell ⟨bp, i, none⟩ u) N g A c r bp a' U1 U2 cs' code' := by
  obtain ⟨g1, g2, g3, g4, g5⟩ := h.gb
  have U : Upd (fun k => k = bp) W (W.setCell ⟨bp, i, none⟩ u) := (Upd.refl (fun k => k = bp) W).setCell (p := ⟨bp, i, none⟩) (fun _ => rfl) _
  exact ⟨h.rd.upd U g2 fun b hb e => (h.sb b hb).2.1 e, h.sb, h.gb, h.zv.upd U (by omega), by rw [← hc]; exact h.pv.set_ i u, own_updB o1 U fun k h1 _ e => by omega, own_updB o2 U fun k h1 _ e => by omega,
    h.up.trans (U.below h.up.size fun k hk e => by omega), by simpa [World.setCell] using h.sz⟩
theorem GM.put0 {U1 U2 : Value} {a' : Int} {cs' : List Vl} {code' : List Is} (h : RrOf T S W g A c r ∧ Blk W w.heap.size 29 #[.int .i64 0, .slice none 0 0, .slice none 0 0] ∧ Blk W bp 29 #[.int .i64 a, V1, V2] ∧ Below w.heap.size w W ∧ N ≤ W.heap.size) (sb : ∀ k, S k → k < N ∧ k ≠ bp ∧ k ≠ w.heap.size) (gb : g < N ∧ g ≠ bp ∧ w.heap.size < g ∧ w.heap.size < bp ∧ bp < N)
    (i : Nat) (u : Value) (hc : (#[.int .i64 a, V1, V2] : Array Value).setIfInBounds i u = #[.int .i64 a', U1, U2]) (o1 : W.ownsRow N 51 3 U1 cs'.length (vcells cs')) (o2 : W.ownsRow N 49 2 U2 code'.length (icells code')) : GM T S w (W.setCell ⟨bp, i, none⟩ u) N g A c r bp a' U1 U2 cs' code' := by
  obtain ⟨g1, g2, g3, g4, g5⟩ := gb
  obtain ⟨h1, h2, h3, h4, h5⟩ := h
  have U : Upd (fun k => k = bp) W (W.setCell ⟨bp, i, none⟩ u) := (Upd.refl (fun k => k = bp) W).setCell (p := ⟨bp, i, none⟩) (fun _ => rfl) _
  exact ⟨h1.upd U g2 fun b hb e => (sb b hb).2.1 e, sb, ⟨g1, g2, g3, g4, g5⟩, h2.upd U (by omega), by rw [← hc]; exact h3.set_ i u, own_updB o1 U fun k h1 _ e => by omega, own_updB o2 U fun k h1 _ e => by omega,
    h4.trans (U.below h4.size fun k hk e => by omega), by simpa [World.setCell] using h5⟩
theorem GM.setA (h : GM T S w W N g A c r bp a V1 V2 cs code) (a' : Int) : GM T S w (W.setCell ⟨bp, 0, none⟩ (.int .i64 a')) N g A c r bp a' V1 V2 cs code := h.put 0 _ rfl h.o1 h.o2
theorem GM.grown {row : Option Nat} (h : GM T S w W N g A c r bp a V1 V2 cs code) (hg : W.grownBy W' row) (hrow : ∀ k, row = some k → N ≤ k) : RrOf T S W' g A c r ∧ Blk W' w.heap.size 29 #[.int .i64 0, .slice none 0 0, .slice none 0 0] ∧ Blk W' bp 29 #[.int .i64 a, V1, V2] ∧ Below w.heap.size w W' ∧ N ≤ W'.heap.size := by
  obtain ⟨g1, g2, g3, g4, g5⟩ := h.gb
  have hz := h.sz
  have U : Upd (fun k => row = some k) W W' := (Upd.refl _ W).grown hg fun k hk _ => hk
  exact ⟨h.rd.upd U (fun e => by have := hrow _ e; omega) fun b hb e => by have := hrow _ e; have := (h.sb b hb).1; omega, h.zv.upd U fun e => by have := hrow _ e; omega, h.pv.upd U fun e => by have := hrow _ e; omega,
    h.up.trans (U.below h.up.size fun k hk e => by have := hrow _ e; omega), Nat.le_trans hz U.size⟩
/-- a constant more -/
theorem GM.addC {U : Value} {v : Vl} (h : GM T S w W N g A c r bp a V1 V2 cs code) (hg : W.grownBy W' V1.ownBlock) (ho : W'.ownsRow N 51 3 U (cs.length + 1) (vcells cs ++ v.cells)) : GM T S w (W'.setCell ⟨bp, 1, none⟩ U) N g A c r bp a U V2 (cs ++ [v]) code := by
  obtain ⟨e1, e2, e3, e4, e5⟩ := h.grown hg fun k hk => (h.o1.lt k hk).1
  have o1 : W'.ownsRow N 51 3 U (cs ++ [v]).length (vcells (cs ++ [v])) := by unfold vcells at ho ⊢; rw [List.length_append, List.flatMap_append]; simpa using ho
  exact GM.put0 ⟨e1, e2, e3, e4, e5⟩ h.sb h.gb 1 U rfl o1 (own_other h.o2 h.o1 (by decide) hg)
theorem GM.addI {U : Value} {i : Is} (h : GM T S w W N g A c r bp a V1 V2 cs code) (hg : W.grownBy W' V2.ownBlock) (ho : W'.ownsRow N 49 2 U (code.length + 1) (icells code ++ i.cells)) : GM T S w (W'.setCell ⟨bp, 2, none⟩ U) N g A c r bp a V1 U cs (code ++ [i]) := by
  obtain ⟨e1, e2, e3, e4, e5⟩ := h.grown hg fun k hk => (h.o2.lt k hk).1
  have o2 : W'.ownsRow N 49 2 U (code ++ [i]).length (icells (code ++ [i])) := by unfold icells at ho ⊢; rw [List.length_append, List.flatMap_append]; simpa using ho
  exact GM.put0 ⟨e1, e2, e3, e4, e5⟩ h.sb h.gb 2 U rfl (own_other h.o1 h.o2 (by decide) hg) o2
end
/-- the result written -/
theorem GM.res {T : TypeId} {S : Nat → Prop} {w W : World} {N g : Nat} {A : Option Addr} {c : Nat} {r : Rr} {bp : Nat} {a : Int} {V1 V2 : Value} {cs : List Vl} {code : List Is} (h : GM T S w W N g A c r bp a V1 V2 cs code) (u0 u1 u2 : Value) :
    Below w.heap.size w (((W.setCell ⟨w.heap.size, 0, none⟩ u0).setCell ⟨w.heap.size, 1, none⟩ u1).setCell ⟨w.heap.size, 2, none⟩ u2) ∧ Blk (((W.setCell ⟨w.heap.size, 0, none⟩ u0).setCell ⟨w.heap.size, 1, none⟩ u1).setCell ⟨w.heap.size, 2, none⟩ u2) w.heap.size 29 #[u0, u1, u2] ∧
    (((W.setCell ⟨w.heap.size, 0, none⟩ u0).setCell ⟨w.heap.size, 1, none⟩ u1).setCell ⟨w.heap.size, 2, none⟩ u2).ownsRow w.heap.size 51 3 V1 cs.length (vcells cs) ∧ (((W.setCell ⟨w.heap.size, 0, none⟩ u0).setCell ⟨w.heap.size, 1, none⟩ u1).setCell ⟨w.heap.size, 2, none⟩ u2).ownsRow w.heap.size 49 2 V2 code.length (icells code) := by
  obtain ⟨g1, g2, g3, g4, g5⟩ := h.gb
  have U : Upd (fun k => k = w.heap.size) W (((W.setCell ⟨w.heap.size, 0, none⟩ u0).setCell ⟨w.heap.size, 1, none⟩ u1).setCell ⟨w.heap.size, 2, none⟩ u2) := (((Upd.refl (fun k => k = w.heap.size) W).setCell (p := ⟨w.heap.size, 0, none⟩) (fun _ => rfl) _).setCell (p := ⟨w.heap.size, 1, none⟩) (fun _ => rfl) _).setCell (p := ⟨w.heap.size, 2, none⟩) (fun _ => rfl) _
  exact ⟨h.up.trans (U.below h.up.size fun k hk e => by omega), by simpa using ((h.zv.set_ 0 u0).set_ 1 u1).set_ 2 u2, own_base (by omega) (own_updB h.o1 U fun k h1 _ e => by omega), own_base (by omega) (own_updB h.o2 U fun k h1 _ e => by omega)⟩
theorem GM.cells {T : TypeId} {S : Nat → Prop} {w W : World} {N g : Nat} {A : Option Addr} {c : Nat} {r : Rr} {bp : Nat} {a : Int} {V1 V2 : Value} {cs : List Vl} {code : List Is} (h : GM T S w W N g A c r bp a V1 V2 cs code) :
    W.cell? ⟨w.heap.size, 0, none⟩ = some (.int .i64 0) ∧ W.cell? ⟨w.heap.size, 1, none⟩ = some (.slice none 0 0) ∧ W.cell? ⟨w.heap.size, 2, none⟩ = some (.slice none 0 0) ∧ W.cell? ⟨bp, 0, none⟩ = some (.int .i64 a) ∧ W.cell? ⟨bp, 1, none⟩ = some V1 ∧ W.cell? ⟨bp, 2, none⟩ = some V2 ∧ (∀ q, W.frozen? ⟨w.heap.size, q, none⟩ = false) ∧ (∀ q, W.frozen? ⟨bp, q, none⟩ = false) ∧ w.heap.size < W.heap.size ∧ bp < W.heap.size :=
  ⟨h.zv.cell 0, h.zv.cell 1, h.zv.cell 2, h.pv.cell 0, h.pv.cell 1, h.pv.cell 2, fun q => h.zv.frozen q, fun q => h.pv.frozen q, h.zv.lt, h.pv.lt⟩
theorem GM.prIn {T : TypeId} {S : Nat → Prop} {w W : World} {N g : Nat} {A A1 A2 : Option Addr} {c c1 c2 : Nat} {r : Rr} {bp : Nat} {a : Int} {cs : List Vl} {code : List Is} (h : GM T S w W N g A c r bp a (.slice A1 cs.length c1) (.slice A2 code.length c2) cs code) (hs : ∀ v ∈ cs, v.s.size ≤ 64) (hl : cs.length ≤ 1000000000 ∧ code.length ≤ 1000000000) : PrIn (fun k => N ≤ k) W A1 A2 ⟨a, cs, code⟩ :=
  ⟨Rd.of_own' h.o1, Rd.of_own' h.o2, fun v hv => by have := hs v hv; omega, hl⟩
theorem scan_nn (f : Nat → Int) (k : Nat) : ∀ i, 0 ≤ (scan f k i).2 := by
  intro i
  rcases scan_form f k i with ⟨h, _⟩ | ⟨j, _, _, _, h, _⟩
  · rw [h]; decide
  · rw [h]; simp
theorem form_nn (p : Pr) : 0 ≤ p.form.2 := by
  unfold Pr.form
  split
  · decide
  · split
    · decide
    · split
      · exact scan_nn _ _ _
      · split
        · decide
        · exact scan_nn _ _ _
theorem runD_nn {code : List Is} {e : Int × Int} : ∀ (k : Nat) (c : Ck), runD code k c = .inr e → 0 ≤ e.2 := by
  intro k
  induction k with
  | zero => intro c h; cases h
  | succ k ih =>
    intro c h
    unfold runD at h
    split at h
    · cases h
    · split at h
      · rename_i e' he
        injection h with h; subst h
        rw [(lookAt_bad he).2]; omega
      · exact ih _ h
theorem check_nn (p : Pr) : ((p.check.2.toNat : Nat) : Int) = p.check.2 := by
  refine Int.toNat_of_nonneg ?_
  unfold Pr.check
  split
  · exact form_nn p
  · split
    · decide
    · rename_i h; exact runD_nn _ _ h
/-! the plain reading, step by step -/
theorem getC_bad {k : Nat} {r : Rr} {l : List Vl} (h : r.e ≠ 0) : getC k r l = .inl (r, l) := by
  cases k with
  | zero => rfl
  | succ k => rw [getC, if_pos h]
theorem getI_bad {k : Nat} {r : Rr} {l : List Is} {x : Option Nat} (h : r.e ≠ 0) : getI k r l x = (r, l, x) := by
  cases k with
  | zero => rfl
  | succ k => rw [getI, if_pos h]
theorem getC_step {n k : Nat} {r : Rr} {l : List Vl} (hk : k < n) (h : r.e = 0) : getC (n - k) r l = if r.take.2.e = 0 ∧ r.take.1.k = 0 then .inr (51, r.at_) else getC (n - (k + 1)) r.take.2 (l ++ [r.take.1]) := by
  rw [show n - k = (n - (k + 1)) + 1 by omega, getC, if_neg (by simp [h])]
theorem getI_step {n k : Nat} {r : Rr} {l : List Is} {x : Option Nat} (hk : k < n) (h : r.e = 0) : getI (n - k) r l x = getI (n - (k + 1)) r.byte.2.uint.2 (l ++ [⟨r.byte.1, ((min r.byte.2.uint.1 255 : Nat) : Int)⟩]) (if 255 < r.byte.2.uint.1 ∧ x = none then some r.byte.2.at_ else x) := by
  rw [show n - k = (n - (k + 1)) + 1 by omega, getI, if_neg (by simp [h])]
theorem Rr.take_bad {r : Rr} (h : r.e ≠ 0) : r.take = (vl0, r) := by
  have hb : r.byte = (0, r) := by unfold Rr.byte; rw [if_pos h]
  unfold Rr.take
  rw [hb]
  simp
theorem Rr.byte_e {r : Rr} (h : r.e ≠ 0) : r.byte = (0, r) := by unfold Rr.byte; rw [if_pos h]
theorem Rr.uint_e {r : Rr} (h : r.e ≠ 0) : r.uint = (0, r) := by unfold Rr.uint; rw [if_pos h]
theorem Rr.byte_b (r : Rr) : r.byte.2.b = r.b := by
  unfold Rr.byte
  split
  · rfl
  · split <;> rfl
theorem Rr.uint_b (r : Rr) : r.uint.2.b = r.b := by
  unfold Rr.uint
  split
  · rfl
  · split <;> rfl
theorem Rr.int_b (r : Rr) : r.int.2.b = r.b := by
  unfold Rr.int
  split
  · rfl
  · split <;> rfl
theorem Rr.count_b (r : Rr) (m : Int) : (r.count m).2.b = r.b := by
  unfold Rr.count
  split
  · rfl
  · split
    · rfl
    · split <;> rfl
theorem Rr.text_b (r : Rr) (m : Int) : (r.text m).2.b = r.b := by
  unfold Rr.text
  split
  · rfl
  · split
    · rfl
    · split
      · rfl
      · split <;> rfl
theorem Rr.fail_b (r : Rr) (e : Int) : (r.fail e).b = r.b := by
  unfold Rr.fail; split <;> rfl
theorem Rr.take_b (r : Rr) : r.take.2.b = r.b := by
  unfold Rr.take
  simp only
  split
  · exact r.byte_b
  · split
    · show r.byte.2.int.2.b = r.b
      rw [Rr.int_b, Rr.byte_b]
    · split
      · split
        · show (r.byte.2.text 64).2.b = r.b
          rw [Rr.text_b, Rr.byte_b]
        · show ((r.byte.2.text 64).2.fail 20).b = r.b
          rw [Rr.fail_b, Rr.text_b, Rr.byte_b]
      · show (r.byte.2.fail 20).b = r.b
        rw [Rr.fail_b, Rr.byte_b]
theorem Rr.take_sz (r : Rr) : r.take.1.s.size ≤ 64 := by
  have h := r.byte.2.text_le 64
  rw [show ((64 : Nat) : Int) = 64 from rfl] at h
  unfold Rr.take
  simp only
  split
  · simp [vl0, ByteArray.size]
  · split
    · split <;> simp [vl0, ByteArray.size]
    · split
      · split
        · split
          · exact h
          · simp [vl0, ByteArray.size]
        · simp [vl0, ByteArray.size]
      · simp [vl0, ByteArray.size]
theorem Rr.count_le (r : Rr) (m : Nat) : (r.count m).1 ≤ m := by
  unfold Rr.count
  split
  · simp
  · split
    · simp
    · split
      · simp
      · rename_i h; simp only; omega
theorem Rr.byte_lt {r : Rr} (h : ∀ x ∈ r.b, x < 256) : r.byte.1 < 256 := by
  unfold Rr.byte
  split
  · simp
  · split
    · simp
    · rename_i c hc; exact h c (List.mem_of_getElem? hc)

end Go.Proofs.Ytbakfkhmopebnaa

namespace Go.Proofs.Ytbakfkhmopebnaa
open Go.RowKit
set_option linter.unusedVariables false
set_option linter.unusedSimpArgs false

abbrev CrIn := RrOf 111
def CGave (e : Int) (en : Ending) : Prop := en = .panicked [{ v := .iface 125 (.agg #[.int .i64 e]), recovered := false }]
def Rr.to (r : Rr) (a : Nat) : Rr := { r with at_ := a }
/-- what a taking leaves: a value and the place behind it, or it gave up -/
def CPost (S : Nat → Prop) (w : World) (g : Nat) (A : Option Addr) (c : Nat) (r : Rr) (res : (Value × Nat) ⊕ Int) (e : Ending) (w' : World) : Prop :=
  Upd (fun k => k = g) w w' ∧ match res with
  | .inl (v, a) => e = .returned v ∧ CrIn S w' g A c (r.to a)
  | .inr x => CGave x e ∧ ∃ a, CrIn S w' g A c (r.to a)
section
variable {S : Nat → Prop} {w : World} {g : Nat} {A : Option Addr} {c : Nat} {r : Rr} {res : (Value × Nat) ⊕ Int} {F : FuncId} {args : Array Value}
theorem cp_ok {v : Value} {a : Nat} (hr : res = .inl (v, a)) (h : Calls Try.prog F args w (CPost S w g A c r res)) : Calls Try.prog F args w fun e w' => e = .returned v ∧ Upd (fun k => k = g) w w' ∧ CrIn S w' g A c (r.to a) :=
  h.mono fun e w' h => by subst hr; exact ⟨h.2.1, h.1, h.2.2⟩
theorem cp_bad {x : Int} (hr : res = .inr x) (h : Calls Try.prog F args w (CPost S w g A c r res)) : Calls Try.prog F args w fun e w' => e = .panicked [{ v := .iface 125 (.agg #[.int .i64 x]), recovered := false }] ∧ Upd (fun k => k = g) w w' ∧ ∃ a, CrIn S w' g A c (r.to a) :=
  h.mono fun e w' h => by subst hr; exact ⟨h.2.1, h.1, h.2.2⟩
end
def cbyteR (r : Rr) : (Value × Nat) ⊕ Int := match r.b[r.at_]? with | none => .inr 3 | some c => .inl (.int .u8 (c : Nat), r.at_ + 1)
def cuintR (r : Rr) : (Value × Nat) ⊕ Int := match num r.b r.at_ with | .inr e => .inr e | .inl (n, k) => .inl (.int .u64 (n : Nat), r.at_ + k)
def cintR (r : Rr) : (Value × Nat) ⊕ Int := match num r.b r.at_ with | .inr e => .inr e | .inl (n, k) => .inl (.int .i64 (zag n), r.at_ + k)
def climR (r : Rr) (most : Int) (er : Int) : (Value × Nat) ⊕ Int := match num r.b r.at_ with | .inr e => .inr e | .inl (n, k) => if most < n then .inr er else .inl (.int .i64 (n : Nat), r.at_ + k)
theorem Rr.to_self (r : Rr) : r.to r.at_ = r := rfl
theorem u8_low (m : Nat) (h : m < 256) : bits BinOp.andNot IntKind.u8 (m : Int) 128 = ((m % 128 : Nat) : Int) := by
  have h1 : ∀ x : Fin 256, bits BinOp.andNot IntKind.u8 ((x.val : Nat) : Int) 128 = ((x.val % 128 : Nat) : Int) := by decide +kernel
  exact h1 ⟨m, h⟩
theorem bits_or_u64_nat (a b : Nat) (ha : a < 18446744073709551616) (hb : b < 18446744073709551616) : bits .or .u64 (a : Int) (b : Int) = ((a ||| b : Nat) : Int) := by
  have hx : a ||| b < 2 ^ 64 := Nat.or_lt_two_pow (by omega) (by omega)
  have h1 : (BitVec.ofInt 64 (a : Int)).toNat = a := by
    rw [BitVec.ofInt_natCast, BitVec.toNat_ofNat]; exact Nat.mod_eq_of_lt (by omega)
  have h2 : (BitVec.ofInt 64 (b : Int)).toNat = b := by
    rw [BitVec.ofInt_natCast, BitVec.toNat_ofNat]; exact Nat.mod_eq_of_lt (by omega)
  show IntKind.u64.wrap ((BitVec.ofInt 64 (a : Int) ||| BitVec.ofInt 64 (b : Int)).toNat : Int) = _
  rw [BitVec.toNat_or, h1, h2, IntKind.wrap_u64]
  omega
theorem or_add (i acc m : Nat) (ha : acc < 128 ^ i) : acc ||| m * 128 ^ i = acc + m * 128 ^ i := by
  have e : (128 : Nat) ^ i = 2 ^ (7 * i) := by rw [Nat.pow_mul]
  rw [e] at ha ⊢
  have := Nat.two_pow_add_eq_or_of_lt ha m
  rw [Nat.mul_comm, Nat.or_comm, ← this]; omega
set_option maxRecDepth 100000 in
theorem cbyte_any {S : Nat → Prop} {w : World} {g : Nat} {A : Option Addr} {c : Nat} {r : Rr} (h : CrIn S w g A c r) : Calls Try.prog 82 #[.pointer (some ⟨g, 0, none⟩)] w (CPost S w g A c r (cbyteR r)) := by
  have H := hid h
  have kb := h.blk
  have x0 := kb.cell 0
  have x1 := kb.cell 1
  have x2 := kb.cell 2
  have x3 := kb.cell 3
  have x4 := kb.cell 4
  simp only [List.getElem?_toArray, List.getElem?_cons_zero, List.getElem?_cons_succ] at x0 x1 x2 x3 x4
  have fz := fun q => kb.frozen q
  have hlt := kb.lt
  have hat0 : (r.at_ : Int) ≤ (r.b.length : Int) := by have := h.at_le; omega
  by_cases hat : r.at_ < r.b.length
  · obtain ⟨ba, o, hA, hSb, hbl, hc⟩ := h.row.at_ (k := r.at_) (by omega)
    have hbg : ba ≠ g := h.ne _ hSb
    have y0 := hc r.at_ _ (bcells_at hat)
    have i2 : ¬ ((r.b.length : Int) ≤ (r.at_ : Int)) := by omega
    have i3 : (r.at_ : Int) < (r.b.length : Int) := by omega
    have hres : Hid (cbyteR r = .inl (.int .u8 ((r.b[r.at_] : Nat) : Int), r.at_ + 1)) := hid (by unfold cbyteR; rw [List.getElem?_eq_getElem hat])
    have f1 : IntKind.i64.wrap ((r.at_ : Int) + 1) = (r.at_ : Int) + 1 := by have := h.len; rw [IntKind.wrap_i64]; omega
    have f2 : IntKind.i64.wrap (r.at_ : Int) = (r.at_ : Int) := by have := h.len; rw [IntKind.wrap_i64]; omega
    have f3 : wrap64 (r.at_ : Int) = (r.at_ : Int) := by have := h.len; unfold wrap64; omega
    have U1 : Upd (fun k => k = g) w ((w.drewN 0).setCell ⟨g, 1, none⟩ (.int .i64 ((r.at_ : Int) + 1))) := ((Upd.refl (fun k => k = g) w).drewN 0).setCell (p := ⟨g, 1, none⟩) (fun _ => rfl) _
    have hcap := hid h.cap
    generalize r.b[r.at_] = cv at *
    subst hA
    clear hc h kb U1
    go_enter Try.func82, Try.ntmps82
    go_upto_region 1 with fail
    go_quiet (fail)
    go_upto_region 4 with fail
    have U1 : Upd (fun k => k = g) w ((w.drewN nq).setCell ⟨g, 1, none⟩ (.int .i64 ((r.at_ : Int) + 1))) := ((Upd.refl (fun k => k = g) w).drewN nq).setCell (p := ⟨g, 1, none⟩) (fun _ => rfl) _
    have hr1 : CrIn S ((w.drewN nq).setCell ⟨g, 1, none⟩ (.int .i64 ((r.at_ : Int) + 1))) g (some ⟨ba, o, none⟩) c (r.to (r.at_ + 1)) := H.out.go U1 (by simpa [Rr.to] using (H.out.blk.drewN nq).set_ 1 (.int .i64 ((r.at_ : Int) + 1))) rfl (by show r.at_ + 1 ≤ _; omega)
    have z0 : ((w.drewN nq).setCell ⟨g, 1, none⟩ (.int .i64 ((r.at_ : Int) + 1))).cell? ⟨ba, o + r.at_, none⟩ = some (.int .u8 (cv : Nat)) := U1.cell y0 hbg
    have hU1 := hid U1; have hR1 := hid hr1
    generalize (w.drewN nq).setCell ⟨g, 1, none⟩ (.int .i64 ((r.at_ : Int) + 1)) = w1 at *
    clear x0 x1 x2 x3 x4 fz hlt U1 hr1 y0
    have kb := hR1.out.blk
    have x0 : w1.cell? ⟨g, 0, none⟩ = some (.slice (some ⟨ba, o, none⟩) r.b.length c) := kb.cell 0
    have x1 : w1.cell? ⟨g, 1, none⟩ = some (.int .i64 ((r.at_ : Int) + 1)) := kb.cell 1
    have fz := fun q => kb.frozen q
    have hlt := kb.lt
    clear kb
    go_quiet (fail)
    go_wp2_with fail
    go_ret
    refine ⟨hU1.out.drewN _, ?_⟩
    rw [hres.out]
    exact ⟨rfl, hR1.out.drewN _⟩
  · have i2 : (r.b.length : Int) ≤ (r.at_ : Int) := by omega
    have hres : Hid (cbyteR r = .inr 3) := hid (by unfold cbyteR; rw [List.getElem?_eq_none (by omega)])
    clear h hat kb
    go_enter Try.func82, Try.ntmps82
    go_upto_region 1 with fail
    go_quiet (fail)
    go_wp2_with fail
    refine ⟨rfl, ?_⟩
    refine ⟨(Upd.refl _ _).drewN _, ?_⟩
    rw [hres.out]
    exact ⟨rfl, r.at_, H.out.drewN _⟩

end Go.Proofs.Ytbakfkhmopebnaa

namespace Go.Proofs.Ytbakfkhmopebnaa
open Go.RowKit
set_option linter.unusedVariables false
set_option linter.unusedSimpArgs false

set_option maxRecDepth 100000 in
set_option maxHeartbeats 2000000 in
theorem cuint_any {S : Nat → Prop} {w : World} {g : Nat} {A : Option Addr} {c : Nat} {r : Rr} (h : CrIn S w g A c r) : Calls Try.prog 84 #[.pointer (some ⟨g, 0, none⟩)] w (CPost S w g A c r (cuintR r)) := by
  have H := hid h
  have hbyt := hid h.byt
  clear h
  go_enter Try.func84, Try.ntmps84
  go_wp2_with fail
  go_loopw [3, 6] (fun n v wr => ∃ (i acc : Nat), n = .int .u64 (acc : Nat) ∧ v = .int .i64 i ∧ i ≤ 9 ∧ acc < 128 ^ i ∧ numF r.b r.at_ (10 - i) i acc = num r.b r.at_ ∧ Upd (fun k => k = g) w wr ∧ CrIn S wr g A c (r.to (r.at_ + i))) (fun n v _ => 10 - (intOf v).toNat)
  case atStart => exact ⟨0, 0, rfl, rfl, by omega, by simp, rfl, Upd.refl _ _, H.out⟩
  case round =>
    obtain ⟨i, acc, rfl, rfl, hi, hacc0, hn0, hU0, hR0⟩ := hrel
    have hacc := hid hacc0; have hn := hid hn0; have hU := hid hU0; have hR := hid hR0
    clear hacc0 hn0 hU0 hR0
    have hcby := hid (cbyte_any hR.out)
    have i1 : (i : Int) < 10 := by omega
    have f9 : IntKind.i64.wrap ((i : Int) + 1) = (i : Int) + 1 := by rw [IntKind.wrap_i64]; omega
    cases hb : r.b[r.at_ + i]? with
    | none =>
      have hok : cbyteR (r.to (r.at_ + i)) = .inr 3 := by unfold cbyteR Rr.to; simp only; rw [hb]
      have hf : Hid (num r.b r.at_ = .inr 3) := hid (by rw [← hn.out, show 10 - i = (10 - (i + 1)) + 1 by omega, numF, hb])
      clear hb hi
      go_wp2_with fail
      refine (cp_bad hok hcby.out).mono ?_
      rintro e w2 ⟨rfl, hu0, a2, hr0⟩
      have hU2 := hid (hU.out.trans hu0 fun _ _ h => h)
      have hR2 : Hid (CrIn S w2 g A c (r.to a2)) := hid hr0
      clear hu0 hr0 hok hcby
      go_wp2_with fail
      refine ⟨rfl, ?_⟩
      refine ⟨hU2.out, ?_⟩
      rw [show cuintR r = .inr 3 by unfold cuintR; rw [hf.out]]
      exact ⟨rfl, _, hR2.out⟩
    | some cv =>
      have hok : cbyteR (r.to (r.at_ + i)) = .inl (.int .u8 (cv : Nat), r.at_ + i + 1) := by unfold cbyteR Rr.to; simp only; rw [hb]
      have hcb : cv < 256 := hbyt.out cv (List.mem_of_getElem? hb)
      have hst : num r.b r.at_ = if i = 9 ∧ 1 < cv then .inr 11 else if cv < 128 then (if 0 < i ∧ cv = 0 then .inr 10 else .inl (acc + cv * 128 ^ i, i + 1)) else numF r.b r.at_ (10 - (i + 1)) (i + 1) (acc + cv % 128 * 128 ^ i) := by
        rw [← hn.out, show 10 - i = (10 - (i + 1)) + 1 by omega, numF, hb]
      clear hb
      by_cases h9 : i = 9
      · have t9 : ((i : Int) == 9) = true := by simp [h9]
        by_cases h1 : 1 < cv
        · have h1' : (1 : Int) < (cv : Int) := by omega
          have hf : Hid (num r.b r.at_ = .inr 11) := hid (by rw [hst, if_pos ⟨h9, h1⟩])
          clear hst h1 h9
          go_wp2_with fail
          refine (cp_ok hok hcby.out).mono ?_
          rintro e w2 ⟨rfl, hu0, hr0⟩
          have hU2 := hid (hU.out.trans hu0 fun _ _ h => h)
          have hR2 : Hid (CrIn S w2 g A c (r.to (r.at_ + i + 1))) := hid hr0
          clear hu0 hr0 hok hcby
          go_wp2_with fail
          refine ⟨rfl, ?_⟩
          refine ⟨hU2.out, ?_⟩
          rw [show cuintR r = .inr 11 by unfold cuintR; rw [hf.out]]
          exact ⟨rfl, _, hR2.out⟩
        · have h1' : ¬ ((1 : Int) < (cv : Int)) := by omega
          have hc8 : (cv : Int) < 128 := by omega
          have i0 : (0 : Int) < (i : Int) := by omega
          by_cases hz : cv = 0
          · have z1 : ((cv : Int) == 0) = true := by simpa using hz
            have hf : Hid (num r.b r.at_ = .inr 10) := hid (by rw [hst, if_neg (by omega), if_pos (by omega), if_pos ⟨by omega, hz⟩])
            obtain ⟨m, hm⟩ : ∃ m, m = cv % 128 := ⟨_, rfl⟩
            obtain ⟨s, hs⟩ : ∃ s, s = 7 * i := ⟨_, rfl⟩
            obtain ⟨Q, hQ⟩ : ∃ Q, Q = acc + m * 128 ^ i := ⟨_, rfl⟩
            have hQl : Q < 18446744073709551616 := by rw [hQ, hm, hz]; have := hacc.out; have h4 : 128 ^ 9 < 18446744073709551616 := (by decide); rw [h9] at this; omega
            have fl : bits BinOp.andNot IntKind.u8 (cv : Int) 128 = (m : Int) := by rw [hm]; exact u8_low cv hcb
            have fc : IntKind.u64.wrap (m : Int) = (m : Int) := by rw [IntKind.wrap_u64]; omega
            have f7 : IntKind.i64.wrap (7 * (i : Int)) = (s : Int) := by rw [IntKind.wrap_i64]; omega
            have s64 : (s : Int) ≤ 64 := by omega
            have s64' : s ≤ 64 := by omega
            have fs : bits BinOp.or IntKind.u64 (acc : Int) (IntKind.u64.wrap ((m : Int) * 2 ^ s)) = (Q : Int) := by
              have e : (m : Int) * 2 ^ s = ((m * 128 ^ i : Nat) : Int) := by rw [hs, shl7, Int.natCast_mul]
              have e2 : IntKind.u64.wrap ((m * 128 ^ i : Nat) : Int) = ((m * 128 ^ i : Nat) : Int) := by
                rw [IntKind.wrap_u64]
                generalize m * 128 ^ i = X at *
                omega
              rw [e, e2, bits_or_u64_nat _ _ (by omega) (by generalize m * 128 ^ i = X at *; omega), or_add i acc m hacc.out, ← hQ]
            clear hst h1 hz hQ hQl hm hs h9 hi hcb
            go_wp2_with fail
            refine (cp_ok hok hcby.out).mono ?_
            rintro e w2 ⟨rfl, hu0, hr0⟩
            have hU2 := hid (hU.out.trans hu0 fun _ _ h => h)
            have hR2 : Hid (CrIn S w2 g A c (r.to (r.at_ + i + 1))) := hid hr0
            clear hu0 hr0 hok hcby
            go_wp2_with fail
            refine ⟨rfl, ?_⟩
            refine ⟨hU2.out, ?_⟩
            rw [show cuintR r = .inr 10 by unfold cuintR; rw [hf.out]]
            exact ⟨rfl, _, hR2.out⟩
          · have z1 : ((cv : Int) == 0) = false := by simpa using hz
            obtain ⟨m, hm⟩ : ∃ m, m = cv % 128 := ⟨_, rfl⟩
            obtain ⟨s, hs⟩ : ∃ s, s = 7 * i := ⟨_, rfl⟩
            obtain ⟨Q, hQ⟩ : ∃ Q, Q = acc + m * 128 ^ i := ⟨_, rfl⟩
            have hQl : Q < 18446744073709551616 := by have hc1 : m = 1 := (by omega); rw [hQ, hc1]; have := hacc.out; have h4 : 128 ^ 9 * 2 = 18446744073709551616 := (by decide); rw [h9] at this ⊢; omega
            have fl : bits BinOp.andNot IntKind.u8 (cv : Int) 128 = (m : Int) := by rw [hm]; exact u8_low cv hcb
            have fc : IntKind.u64.wrap (m : Int) = (m : Int) := by rw [IntKind.wrap_u64]; omega
            have f7 : IntKind.i64.wrap (7 * (i : Int)) = (s : Int) := by rw [IntKind.wrap_i64]; omega
            have s64 : (s : Int) ≤ 64 := by omega
            have s64' : s ≤ 64 := by omega
            have fs : bits BinOp.or IntKind.u64 (acc : Int) (IntKind.u64.wrap ((m : Int) * 2 ^ s)) = (Q : Int) := by
              have e : (m : Int) * 2 ^ s = ((m * 128 ^ i : Nat) : Int) := by rw [hs, shl7, Int.natCast_mul]
              have e2 : IntKind.u64.wrap ((m * 128 ^ i : Nat) : Int) = ((m * 128 ^ i : Nat) : Int) := by
                rw [IntKind.wrap_u64]
                generalize m * 128 ^ i = X at *
                omega
              rw [e, e2, bits_or_u64_nat _ _ (by omega) (by generalize m * 128 ^ i = X at *; omega), or_add i acc m hacc.out, ← hQ]
            have hf : Hid (num r.b r.at_ = .inl (Q, i + 1)) := hid (by rw [hst, if_neg (by omega), if_pos (by omega), if_neg (by omega), hQ, hm, Nat.mod_eq_of_lt (by omega)])
            clear hst h1 hz hQ hQl hm hs h9 hi hcb
            go_wp2_with fail
            refine (cp_ok hok hcby.out).mono ?_
            rintro e w2 ⟨rfl, hu0, hr0⟩
            have hU2 := hid (hU.out.trans hu0 fun _ _ h => h)
            have hR2 : Hid (CrIn S w2 g A c (r.to (r.at_ + i + 1))) := hid hr0
            clear hu0 hr0 hok hcby
            go_wp2_with fail
            go_ret
            refine ⟨hU2.out, ?_⟩
            rw [show cuintR r = .inl (.int .u64 (Q : Nat), r.at_ + (i + 1)) by unfold cuintR; rw [hf.out]]
            exact ⟨rfl, hR2.out⟩
      · have t9 : ((i : Int) == 9) = false := by simp; omega
        have hq := acc_lt (c := cv) (show i < 9 by omega) hacc.out
        obtain ⟨m, hm⟩ : ∃ m, m = cv % 128 := ⟨_, rfl⟩
        obtain ⟨s, hs⟩ : ∃ s, s = 7 * i := ⟨_, rfl⟩
        obtain ⟨Q, hQ⟩ : ∃ Q, Q = acc + m * 128 ^ i := ⟨_, rfl⟩
        have hQl : Q < 18446744073709551616 := by rw [hQ, hm]; exact hq.2
        have fl : bits BinOp.andNot IntKind.u8 (cv : Int) 128 = (m : Int) := by rw [hm]; exact u8_low cv hcb
        have fc : IntKind.u64.wrap (m : Int) = (m : Int) := by rw [IntKind.wrap_u64]; omega
        have f7 : IntKind.i64.wrap (7 * (i : Int)) = (s : Int) := by rw [IntKind.wrap_i64]; omega
        have s64 : (s : Int) ≤ 64 := by omega
        have s64' : s ≤ 64 := by omega
        have fs : bits BinOp.or IntKind.u64 (acc : Int) (IntKind.u64.wrap ((m : Int) * 2 ^ s)) = (Q : Int) := by
          have e : (m : Int) * 2 ^ s = ((m * 128 ^ i : Nat) : Int) := by rw [hs, shl7, Int.natCast_mul]
          have e2 : IntKind.u64.wrap ((m * 128 ^ i : Nat) : Int) = ((m * 128 ^ i : Nat) : Int) := by
            rw [IntKind.wrap_u64]
            generalize m * 128 ^ i = X at *
            omega
          rw [e, e2, bits_or_u64_nat _ _ (by omega) (by generalize m * 128 ^ i = X at *; omega), or_add i acc m hacc.out, ← hQ]
        by_cases h8 : cv < 128
        · have hc8 : (cv : Int) < 128 := by omega
          by_cases hi0 : 0 < i
          · have i0 : (0 : Int) < (i : Int) := by omega
            by_cases hz : cv = 0
            · have z1 : ((cv : Int) == 0) = true := by simpa using hz
              have hf : Hid (num r.b r.at_ = .inr 10) := hid (by rw [hst, if_neg (by omega), if_pos h8, if_pos ⟨hi0, hz⟩])
              clear hst h8 hz hi0 hq hQ hQl hm hs h9 hi hcb
              go_wp2_with fail
              refine (cp_ok hok hcby.out).mono ?_
              rintro e w2 ⟨rfl, hu0, hr0⟩
              have hU2 := hid (hU.out.trans hu0 fun _ _ h => h)
              have hR2 : Hid (CrIn S w2 g A c (r.to (r.at_ + i + 1))) := hid hr0
              clear hu0 hr0 hok hcby
              go_wp2_with fail
              refine ⟨rfl, ?_⟩
              refine ⟨hU2.out, ?_⟩
              rw [show cuintR r = .inr 10 by unfold cuintR; rw [hf.out]]
              exact ⟨rfl, _, hR2.out⟩
            · have z1 : ((cv : Int) == 0) = false := by simpa using hz
              have hf : Hid (num r.b r.at_ = .inl (Q, i + 1)) := hid (by rw [hst, if_neg (by omega), if_pos h8, if_neg (by omega), hQ, hm, Nat.mod_eq_of_lt h8])
              clear hst h8 hz hi0 hq hQ hQl hm hs h9 hi hcb
              go_wp2_with fail
              refine (cp_ok hok hcby.out).mono ?_
              rintro e w2 ⟨rfl, hu0, hr0⟩
              have hU2 := hid (hU.out.trans hu0 fun _ _ h => h)
              have hR2 : Hid (CrIn S w2 g A c (r.to (r.at_ + i + 1))) := hid hr0
              clear hu0 hr0 hok hcby
              go_wp2_with fail
              go_ret
              refine ⟨hU2.out, ?_⟩
              rw [show cuintR r = .inl (.int .u64 (Q : Nat), r.at_ + (i + 1)) by unfold cuintR; rw [hf.out]]
              exact ⟨rfl, hR2.out⟩
          · have i0 : ¬ ((0 : Int) < (i : Int)) := by omega
            have hf : Hid (num r.b r.at_ = .inl (Q, i + 1)) := hid (by rw [hst, if_neg (by omega), if_pos h8, if_neg (by omega), hQ, hm, Nat.mod_eq_of_lt h8])
            clear hst h8 hi0 hq hQ hQl hm hs h9 hi hcb
            go_wp2_with fail
            refine (cp_ok hok hcby.out).mono ?_
            rintro e w2 ⟨rfl, hu0, hr0⟩
            have hU2 := hid (hU.out.trans hu0 fun _ _ h => h)
            have hR2 : Hid (CrIn S w2 g A c (r.to (r.at_ + i + 1))) := hid hr0
            clear hu0 hr0 hok hcby
            go_wp2_with fail
            go_ret
            refine ⟨hU2.out, ?_⟩
            rw [show cuintR r = .inl (.int .u64 (Q : Nat), r.at_ + (i + 1)) by unfold cuintR; rw [hf.out]]
            exact ⟨rfl, hR2.out⟩
        · have hc8 : ¬ ((cv : Int) < 128) := by omega
          have hc9 : (128 : Int) ≤ (cv : Int) := by omega
          have hnx := hid (show numF r.b r.at_ (10 - (i + 1)) (i + 1) Q = num r.b r.at_ by rw [hst, if_neg (by omega), if_neg h8, hQ, hm])
          have hqa := hid (show Q < 128 ^ (i + 1) by rw [hQ, hm]; exact hq.1)
          have hi9 := hid (show i + 1 ≤ 9 by omega)
          clear hst h8 hq hQ hQl hm hs h9 hi hcb
          go_wp2_with fail
          refine (cp_ok hok hcby.out).mono ?_
          rintro e w2 ⟨rfl, hu0, hr0⟩
          have hU2 := hid (hU.out.trans hu0 fun _ _ h => h)
          have hR2 : Hid (CrIn S w2 g A c (r.to (r.at_ + i + 1))) := hid hr0
          clear hu0 hr0 hok hcby
          go_wp2_with fail
          go_roundw
          case rel => exact ⟨i + 1, Q, rfl, by go_num, hi9.out, hqa.out, hnx.out, hU2.out, hR2.out⟩
          case measure => simp [intOf]; have := hi9.out; omega

end Go.Proofs.Ytbakfkhmopebnaa

namespace Go.Proofs.Ytbakfkhmopebnaa
open Go.RowKit
set_option linter.unusedVariables false
set_option linter.unusedSimpArgs false

/-- memory while a thing is read: the box of r, the result x, the place from -/
structure RX (S : Nat → Prop) (w W : World) (g : Nat) (A : Option Addr) (c : Nat) (r : Rr) (TX : TypeId) (vx : Value) (fr : Nat) : Prop where
  rd : CrIn S W g A c r
  sb : ∀ k, S k → k < w.heap.size
  gb : g < w.heap.size
  bx : Blk W w.heap.size 70 #[.pointer (some ⟨g, 0, none⟩)]
  x : Blk W (w.heap.size + 1) TX #[vx]
  fr : Blk W (w.heap.size + 1 + 1) 3 #[.int .i64 (fr : Nat)]
  up : Upd (fun k => k = g) w W
section
variable {S : Nat → Prop} {w W W' : World} {g : Nat} {A : Option Addr} {c : Nat} {r r' : Rr} {TX : TypeId} {vx : Value} {fr : Nat}
theorem RX.call (h : RX S w W g A c r TX vx fr) (hu : Upd (fun k => k = g) W W') (hr : CrIn S W' g A c r') : RX S w W' g A c r' TX vx fr :=
  have := h.gb
  ⟨hr, h.sb, h.gb, h.bx.upd hu (by omega), h.x.upd hu (by omega), h.fr.upd hu (by omega), h.up.trans hu fun _ _ h => h⟩
theorem RX.below (h : RX S w W g A c r TX vx fr) (hb : Below W.heap.size W W') : RX S w W' g A c r TX vx fr :=
  ⟨h.rd.below_all hb, h.sb, h.gb, h.bx.below_all hb, h.x.below_all hb, h.fr.below_all hb, h.up.trans (Upd.of_below' hb Nil) fun _ _ h => h.elim⟩
theorem RX.drewN (h : RX S w W g A c r TX vx fr) (n : Nat) : RX S w (W.drewN n) g A c r TX vx fr := ⟨h.rd.drewN n, h.sb, h.gb, h.bx.drewN n, h.x.drewN n, h.fr.drewN n, h.up.drewN n⟩
theorem RX.drew (h : RX S w W g A c r TX vx fr) : RX S w W.drew g A c r TX vx fr := h.drewN 1
theorem RX.setX (h : RX S w W g A c r TX vx fr) (v : Value) : RX S w (W.setCell ⟨w.heap.size + 1, 0, none⟩ v) g A c r TX v fr := by
  have hg := h.gb
  have U : Upd (fun k => k = w.heap.size + 1) W (W.setCell ⟨w.heap.size + 1, 0, none⟩ v) := (Upd.refl (fun k => k = w.heap.size + 1) W).setCell (p := ⟨w.heap.size + 1, 0, none⟩) (fun _ => rfl) _
  refine ⟨h.rd.upd U (by omega) (fun b hb => by have := h.sb b hb; omega), h.sb, h.gb, h.bx.upd U (by omega), ?_, h.fr.upd U (by omega), h.up.trans U fun b hb e => by omega⟩
  simpa using h.x.set_ 0 v
theorem RX.setR (h : RX S w W g A c r TX vx fr) (i : Nat) (u : Value) (hc : (#[.slice A r.b.length c, .int .i64 (r.at_ : Nat), .int .i64 (r.last : Nat), .int .i64 r.e, .int .i64 (r.spot : Nat)] : Array Value).setIfInBounds i u = #[.slice A r.b.length c, .int .i64 (r'.at_ : Nat), .int .i64 (r'.last : Nat), .int .i64 r'.e, .int .i64 (r'.spot : Nat)]) (hb : r'.b = r.b) (ha : r'.at_ ≤ r.b.length) : RX S w (W.setCell ⟨g, i, none⟩ u) g A c r' TX vx fr := by
  have U : Upd (fun k => k = g) W (W.setCell ⟨g, i, none⟩ u) := (Upd.refl (fun k => k = g) W).setCell (p := ⟨g, i, none⟩) (fun _ => rfl) _
  exact h.call U (h.rd.go U (by rw [← hc]; exact h.rd.blk.set_ i u) hb ha)
theorem RX.cells (h : RX S w W g A c r TX vx fr) : W.cell? ⟨w.heap.size, 0, none⟩ = some (.pointer (some ⟨g, 0, none⟩)) ∧ W.cell? ⟨w.heap.size + 1, 0, none⟩ = some vx ∧ W.cell? ⟨w.heap.size + 1 + 1, 0, none⟩ = some (.int .i64 (fr : Nat)) ∧ (∀ q, W.frozen? ⟨w.heap.size + 1, q, none⟩ = false) ∧ (∀ q, W.frozen? ⟨g, q, none⟩ = false) ∧ W.cell? ⟨g, 1, none⟩ = some (.int .i64 (r.at_ : Nat)) ∧ W.cell? ⟨g, 2, none⟩ = some (.int .i64 (r.last : Nat)) ∧ W.cell? ⟨g, 3, none⟩ = some (.int .i64 r.e) ∧ W.cell? ⟨g, 4, none⟩ = some (.int .i64 (r.spot : Nat)) ∧ g < W.heap.size ∧ w.heap.size + 1 + 1 < W.heap.size :=
  ⟨h.bx.cell 0, h.x.cell 0, h.fr.cell 0, fun q => h.x.frozen q, fun q => h.rd.blk.frozen q, h.rd.blk.cell 1, h.rd.blk.cell 2, h.rd.blk.cell 3, h.rd.blk.cell 4, h.rd.blk.lt, h.fr.lt⟩
end

end Go.Proofs.Ytbakfkhmopebnaa

namespace Go.Proofs.Ytbakfkhmopebnaa
open Go.RowKit
set_option linter.unusedVariables false
set_option linter.unusedSimpArgs false

set_option maxRecDepth 100000 in
set_option maxHeartbeats 2000000 in
theorem cidle_byte {S : Nat → Prop} {w W : World} {g : Nat} {A : Option Addr} {c : Nat} {r : Rr} {vx : Value} {fr : Nat} (h : RX S w W g A c r 5 vx fr) :
    CallsD Try.prog 101 #[.pointer (some ⟨w.heap.size + 1 + 1, 0, none⟩), .pointer (some ⟨w.heap.size + 1, 0, none⟩), .pointer (some ⟨w.heap.size, 0, none⟩)] .returning W fun e u' W' => e = .returned (.tuple #[]) ∧ u' = .returning ∧ W' = W := by
  refine callsD_of_wpS Try.func101 rfl fun c₀ cs hu => ?_
  apply wpS_seq
  apply wpS_region
  simp [wpOpsS, go_sem, recoverD, hu, Try.ntmps101, Exit.thenS]
  refine wpS_of_wp ?_
  refine Code.wp_mono (Q := fun e a' W' => e = .normal ∧ a'.defers = [] ∧ W' = W) ?_ ?_
  · rintro e a' w' ⟨rfl, h1, rfl⟩
    simp [bodyPostS, Go.results, Try.results101, h1, hu]
    cases c₀
    simp_all
  clear hu
  have hne : ∀ w, (binOp .neq 20 .nilIface .nilIface).run Try.prog w = .ok (.bool false) w := fun w => by kernel_rfl
  have hfm : (#[.pointer (some ⟨w.heap.size + 1 + 1, 0, none⟩), .pointer (some ⟨w.heap.size + 1, 0, none⟩), .pointer (some ⟨w.heap.size, 0, none⟩)] : Array Value) ++ ((Array.replicate 29 undef).setIfInBounds 4 .nilIface).setIfInBounds 0 .nilIface = #[.pointer (some ⟨w.heap.size + 1 + 1, 0, none⟩), .pointer (some ⟨w.heap.size + 1, 0, none⟩), .pointer (some ⟨w.heap.size, 0, none⟩), .nilIface, undef, undef, undef, .nilIface, undef, undef, undef, undef, undef, undef, undef, undef, undef, undef, undef, undef, undef, undef, undef, undef, undef, undef, undef, undef, undef, undef, undef, undef] := by kernel_rfl
  rw [hfm]
  clear hfm
  go_wp2_with fail
set_option maxRecDepth 100000 in
set_option maxHeartbeats 2000000 in
theorem cpanic_byte {S : Nat → Prop} {w W : World} {g : Nat} {A : Option Addr} {c : Nat} {r : Rr} {vx : Value} {fr : Nat} (x : Int) (older : List PanicEntry) (hfr : fr ≤ r.b.length) (h : RX S w W g A c r 5 vx fr) :
    CallsD Try.prog 101 #[.pointer (some ⟨w.heap.size + 1 + 1, 0, none⟩), .pointer (some ⟨w.heap.size + 1, 0, none⟩), .pointer (some ⟨w.heap.size, 0, none⟩)] (.panicking ({ v := .iface 125 (.agg #[.int .i64 x]), recovered := false } :: older)) W fun e u' W' =>
      e = .returned (.tuple #[]) ∧ u' = .panicking ({ v := .iface 125 (.agg #[.int .i64 x]), recovered := true } :: older) ∧ RX S w W' g A c { r with at_ := fr, e := x, spot := fr } 5 (.int .u8 0) fr := by
  have hass : ∀ w, (Instr.typeAssert (.iface 125 (.agg #[.int .i64 x])) 20 125 true).run Try.prog w = .ok (.tuple #[.agg #[.int .i64 x], .bool true]) w := fun w => by kernel_rfl
  have hne : ∀ w, (binOp .neq 20 (.iface 125 (.agg #[.int .i64 x])) .nilIface).run Try.prog w = .ok (.bool true) w := fun w => by kernel_rfl
  refine callsD_of_wpS Try.func101 rfl fun c₀ cs hu => ?_
  apply wpS_seq
  apply wpS_region
  simp [wpOpsS, go_sem, recoverD, hu, Try.ntmps101, Exit.thenS]
  refine wpS_of_wp ?_
  refine Code.wp_mono (Q := fun e a' W' => e = .normal ∧ a'.defers = [] ∧ RX S w W' g A c { r with at_ := fr, e := x, spot := fr } 5 (.int .u8 0) fr) ?_ ?_
  · rintro e a' W' ⟨rfl, h1, h2⟩
    simp [bodyPostS, Go.results, Try.results101, h1]
    exact h2
  clear hu
  have kn := Blk.new W 125 #[.int .i64 x]
  have hb1 : Below W.heap.size W (W.alloc (.cells #[.int .i64 x] 125)) := (Below.refl _ _).alloc (Nat.le_refl _) _
  have H1 := hid (h.below hb1)
  have hz := hid h.fr.lt
  have hgz := hid h.gb
  have hF := hid hfr
  clear h hb1 hfr
  have hfm : (#[.pointer (some ⟨w.heap.size + 1 + 1, 0, none⟩), .pointer (some ⟨w.heap.size + 1, 0, none⟩), .pointer (some ⟨w.heap.size, 0, none⟩)] : Array Value) ++ ((Array.replicate 29 undef).setIfInBounds 4 (.iface 125 (.agg #[.int .i64 x]))).setIfInBounds 0 (.iface 125 (.agg #[.int .i64 x])) = #[.pointer (some ⟨w.heap.size + 1 + 1, 0, none⟩), .pointer (some ⟨w.heap.size + 1, 0, none⟩), .pointer (some ⟨w.heap.size, 0, none⟩), (.iface 125 (.agg #[.int .i64 x])), undef, undef, undef, (.iface 125 (.agg #[.int .i64 x])), undef, undef, undef, undef, undef, undef, undef, undef, undef, undef, undef, undef, undef, undef, undef, undef, undef, undef, undef, undef, undef, undef, undef, undef] := by kernel_rfl
  rw [hfm]
  clear hfm
  go_upto_region 6 with fail
  have n0 : (W.alloc (.cells #[.int .i64 x] 125)).cell? ⟨W.heap.size, 0, none⟩ = some (.int .i64 x) := kn.cell 0
  generalize W.alloc (.cells #[.int .i64 x] 125) = W1 at *
  clear kn
  obtain ⟨b0, x0, f0, fx, fg, r1, r2, r3, r4, hgl, hfl⟩ := H1.out.cells
  have e1 : ¬ W.heap.size = w.heap.size + 1 := by have := hz.out; omega
  have e2 : ¬ W.heap.size = g := by have := hz.out; have := hgz.out; omega
  have e3 : ¬ w.heap.size + 1 = W.heap.size := fun h => e1 h.symm
  have e4 : ¬ g = W.heap.size := fun h => e2 h.symm
  have e5 : ¬ w.heap.size + 1 = g := by have := hgz.out; omega
  have e6 : ¬ g = w.heap.size + 1 := fun h => e5 h.symm
  have e7 : ¬ w.heap.size = g := by have := hgz.out; omega
  have e8 : ¬ g = w.heap.size := fun h => e7 h.symm
  have e9 : ¬ w.heap.size + 1 + 1 = g := by have := hgz.out; omega
  have e10 : ¬ g = w.heap.size + 1 + 1 := fun h => e9 h.symm
  go_region
  all_goals
    refine ⟨rfl, rfl, ?_⟩
    refine RX.drew ?_
    exact ((((H1.out.setX _).setR (r' := { r with at_ := fr }) 1 (.int .i64 (fr : Nat)) rfl rfl hF.out).setR (r' := { r with at_ := fr, e := x }) 3 (.int .i64 x) rfl rfl hF.out).setR (r' := { r with at_ := fr, e := x, spot := fr }) 4 (.int .i64 (fr : Nat)) rfl rfl hF.out)
set_option maxRecDepth 100000 in
set_option maxHeartbeats 1000000 in
theorem cread_byte_err {S : Nat → Prop} {w : World} {g : Nat} {A : Option Addr} {c : Nat} {r : Rr} (h : CrIn S w g A c r) (hS : ∀ k, S k → k < w.heap.size) (he : r.e ≠ 0) : Calls Try.prog 81 #[.pointer (some ⟨g, 0, none⟩), .func (Fn.func 82) #[.pointer (some ⟨g, 0, none⟩)] #[]] w fun e w' => e = .returned (.int .u8 0) ∧ Upd (fun k => k = g) w w' ∧ CrIn S w' g A c r := by
  have hmf : ∀ (fn : Fn) (first cap : Array Value) (w : World), (Instr.makeFunc fn first cap).run Try.prog w = .ok (.func fn first cap) w := fun _ _ _ _ => rfl
  obtain ⟨W, hW⟩ : ∃ W, W = ((w.alloc (.cells #[.pointer (some ⟨g, 0, none⟩)] 70)).alloc (.cells #[.int .u8 0] 5)) := ⟨_, rfl⟩
  have hB0 : Hid (Below w.heap.size w W) := hid (by subst hW; exact ((Below.refl _ _).alloc (Nat.le_refl _) _).alloc (by simp) _)
  have kb : Hid (Blk W w.heap.size 70 #[.pointer (some ⟨g, 0, none⟩)]) := hid (by subst hW; exact (Blk.new w _ _).alloc _)
  have kx : Hid (Blk W (w.heap.size + 1) 5 #[.int .u8 0]) := hid (by subst hW; exact Blk.new' _ _ _ (by simp))
  have hsz : W.heap.size = w.heap.size + 1 + 1 := by subst hW; simp
  have hr0 := hid (h.below_all hB0.out)
  have hgb := hid h.blk.lt
  have hSb := hid hS
  have hne := hid h.ne
  have t1 : (r.e != 0) = true := by simpa using he
  clear h hS he
  go_enter_defers Try.func81, Try.ntmps81
  go_upto_region 1 with fail
  rw [← hW]
  clear hW
  have b0 : W.cell? ⟨w.heap.size, 0, none⟩ = some (.pointer (some ⟨g, 0, none⟩)) := kb.out.cell 0
  have x0 : W.cell? ⟨w.heap.size + 1, 0, none⟩ = some (.int .u8 0) := kx.out.cell 0
  have fx := fun q => kx.out.frozen q
  have r1 : W.cell? ⟨g, 1, none⟩ = some (.int .i64 (r.at_ : Nat)) := hr0.out.blk.cell 1
  have r3 : W.cell? ⟨g, 3, none⟩ = some (.int .i64 r.e) := hr0.out.blk.cell 3
  go_wp2_with fail
  have U : Upd (fun k => k = w.heap.size + 1) W (W.setCell ⟨w.heap.size + 1, 0, none⟩ (.int .u8 0)) := (Upd.refl (fun k => k = w.heap.size + 1) W).setCell (p := ⟨w.heap.size + 1, 0, none⟩) (fun _ => rfl) _
  refine ⟨.int .u8 0, ?_, rfl, (Upd.of_below' hB0.out _).trans U fun b hb e => by omega, hr0.out.upd U (by have := hgb.out; omega) fun b hb => by have := hSb.out b hb; omega⟩
  have HX : (W.setCell ⟨w.heap.size + 1, 0, none⟩ (.int .u8 0)).cell? ⟨w.heap.size + 1, 0, none⟩ = some (.int .u8 0) := (kx.out.set_ 0 (.int .u8 0)).cell 0
  simp [Go.results, Try.results81, asAddr, go_sem, HX]
set_option maxRecDepth 100000 in
set_option maxHeartbeats 1000000 in
theorem cread_byte_bad {S : Nat → Prop} {w : World} {g : Nat} {A : Option Addr} {c : Nat} {r : Rr} (h : CrIn S w g A c r) (hS : ∀ k, S k → k < w.heap.size) (he : r.e = 0) (res : (Value × Nat) ⊕ Int) (hT : ∀ W, Below w.heap.size w W → CrIn S W g A c r → Calls Try.prog 82 #[.pointer (some ⟨g, 0, none⟩)] W (CPost S W g A c r res)) (x : Int) (hres : res = .inr x) : Calls Try.prog 81 #[.pointer (some ⟨g, 0, none⟩), .func (Fn.func 82) #[.pointer (some ⟨g, 0, none⟩)] #[]] w fun e w' => e = .returned (.int .u8 0) ∧ Upd (fun k => k = g) w w' ∧ CrIn S w' g A c (r.fails x) := by
  have hmf : ∀ (fn : Fn) (first cap : Array Value) (w : World), (Instr.makeFunc fn first cap).run Try.prog w = .ok (.func fn first cap) w := fun _ _ _ _ => rfl
  obtain ⟨W, hW⟩ : ∃ W, W = ((w.alloc (.cells #[.pointer (some ⟨g, 0, none⟩)] 70)).alloc (.cells #[.int .u8 0] 5)) := ⟨_, rfl⟩
  have hB0 : Hid (Below w.heap.size w W) := hid (by subst hW; exact ((Below.refl _ _).alloc (Nat.le_refl _) _).alloc (by simp) _)
  have kb : Hid (Blk W w.heap.size 70 #[.pointer (some ⟨g, 0, none⟩)]) := hid (by subst hW; exact (Blk.new w _ _).alloc _)
  have kx : Hid (Blk W (w.heap.size + 1) 5 #[.int .u8 0]) := hid (by subst hW; exact Blk.new' _ _ _ (by simp))
  have hsz : W.heap.size = w.heap.size + 1 + 1 := by subst hW; simp
  have hr0 := hid (h.below_all hB0.out)
  have hgb := hid h.blk.lt
  have hSb := hid hS
  have hne := hid h.ne
  have t1 : (r.e != 0) = false := by simpa using he
  have hal := hid h.at_le
  obtain ⟨W4, hW4⟩ : ∃ W4, W4 = (W.alloc (.cells #[.int .i64 (r.at_ : Nat)] 3)) := ⟨_, rfl⟩
  have hB4 : Below W.heap.size W W4 := by subst hW4; exact (Below.refl _ _).alloc (Nat.le_refl _) _
  have kf : Blk W4 (w.heap.size + 1 + 1) 3 #[.int .i64 (r.at_ : Nat)] := by subst hW4; exact Blk.new' W 3 _ hsz.symm
  have hX4 : Hid (RX S w W4 g A c r 5 (.int .u8 0) r.at_) := hid ⟨hr0.out.below_all hB4, hS, hgb.out, kb.out.below_all hB4, kx.out.below_all hB4, kf, Upd.of_below' (hB0.out.trans (hB4.mono hB0.out.size)) _⟩
  have hT4 := hid (hT W4 (hB0.out.trans (hB4.mono hB0.out.size)) hX4.out.rd)
  clear h hS he hB4 kf hT
  go_enter_defers Try.func81, Try.ntmps81
  go_upto_region 1 with fail
  rw [← hW]
  clear hW
  have hre : Hid (r.e = r.e) := hid rfl
  have b0 : W.cell? ⟨w.heap.size, 0, none⟩ = some (.pointer (some ⟨g, 0, none⟩)) := kb.out.cell 0
  have x0 : W.cell? ⟨w.heap.size + 1, 0, none⟩ = some (.int .u8 0) := kx.out.cell 0
  have fx := fun q => kx.out.frozen q
  have r1 : W.cell? ⟨g, 1, none⟩ = some (.int .i64 (r.at_ : Nat)) := hr0.out.blk.cell 1
  have r3 : W.cell? ⟨g, 3, none⟩ = some (.int .i64 r.e) := hr0.out.blk.cell 3
  go_upto_region 4 with fail
  rw [← hW4]
  clear hW4 b0 x0 fx r1 r3 hr0 kb kx hB0
  go_wp2_with fail
  refine (cp_bad hres hT4.out).mono ?_
  rintro e w5 ⟨rfl, hu0, a, hr5⟩
  have hX5 := hid (hX4.out.call hu0 hr5)
  clear hu0 hr5 hX4 hT4 hres
  go_wp2_with fail
  refine leaves_cons (f := 101) (args := #[.pointer (some ⟨w.heap.size + 1 + 1, 0, none⟩), .pointer (some ⟨w.heap.size + 1, 0, none⟩), .pointer (some ⟨w.heap.size, 0, none⟩)]) (by simp) (by simp [go_sem]) ?_
  refine (cpanic_byte (r := r.to a) x [] hal.out hX5.out).mono ?_
  rintro e u' w'' ⟨rfl, rfl, hX6⟩
  refine ⟨.int .u8 0, ?_, rfl, hX6.up, hX6.rd⟩
  have HX : w''.cell? ⟨w.heap.size + 1, 0, none⟩ = some (.int .u8 0) := hX6.x.cell 0
  simp [Go.results, Try.results81, asAddr, go_sem, HX]
set_option maxRecDepth 100000 in
set_option maxHeartbeats 1000000 in
theorem cread_byte_ok {S : Nat → Prop} {w : World} {g : Nat} {A : Option Addr} {c : Nat} {r : Rr} (h : CrIn S w g A c r) (hS : ∀ k, S k → k < w.heap.size) (he : r.e = 0) (res : (Value × Nat) ⊕ Int) (hT : ∀ W, Below w.heap.size w W → CrIn S W g A c r → Calls Try.prog 82 #[.pointer (some ⟨g, 0, none⟩)] W (CPost S W g A c r res)) (n : Int) (a : Nat) (hres : res = .inl (.int .u8 n, a)) : Calls Try.prog 81 #[.pointer (some ⟨g, 0, none⟩), .func (Fn.func 82) #[.pointer (some ⟨g, 0, none⟩)] #[]] w fun e w' => e = .returned (.int .u8 n) ∧ Upd (fun k => k = g) w w' ∧ CrIn S w' g A c { r with at_ := a, last := r.at_ } := by
  have hmf : ∀ (fn : Fn) (first cap : Array Value) (w : World), (Instr.makeFunc fn first cap).run Try.prog w = .ok (.func fn first cap) w := fun _ _ _ _ => rfl
  obtain ⟨W, hW⟩ : ∃ W, W = ((w.alloc (.cells #[.pointer (some ⟨g, 0, none⟩)] 70)).alloc (.cells #[.int .u8 0] 5)) := ⟨_, rfl⟩
  have hB0 : Hid (Below w.heap.size w W) := hid (by subst hW; exact ((Below.refl _ _).alloc (Nat.le_refl _) _).alloc (by simp) _)
  have kb : Hid (Blk W w.heap.size 70 #[.pointer (some ⟨g, 0, none⟩)]) := hid (by subst hW; exact (Blk.new w _ _).alloc _)
  have kx : Hid (Blk W (w.heap.size + 1) 5 #[.int .u8 0]) := hid (by subst hW; exact Blk.new' _ _ _ (by simp))
  have hsz : W.heap.size = w.heap.size + 1 + 1 := by subst hW; simp
  have hr0 := hid (h.below_all hB0.out)
  have hgb := hid h.blk.lt
  have hSb := hid hS
  have hne := hid h.ne
  have t1 : (r.e != 0) = false := by simpa using he
  have hal := hid h.at_le
  obtain ⟨W4, hW4⟩ : ∃ W4, W4 = (W.alloc (.cells #[.int .i64 (r.at_ : Nat)] 3)) := ⟨_, rfl⟩
  have hB4 : Below W.heap.size W W4 := by subst hW4; exact (Below.refl _ _).alloc (Nat.le_refl _) _
  have kf : Blk W4 (w.heap.size + 1 + 1) 3 #[.int .i64 (r.at_ : Nat)] := by subst hW4; exact Blk.new' W 3 _ hsz.symm
  have hX4 : Hid (RX S w W4 g A c r 5 (.int .u8 0) r.at_) := hid ⟨hr0.out.below_all hB4, hS, hgb.out, kb.out.below_all hB4, kx.out.below_all hB4, kf, Upd.of_below' (hB0.out.trans (hB4.mono hB0.out.size)) _⟩
  have hT4 := hid (hT W4 (hB0.out.trans (hB4.mono hB0.out.size)) hX4.out.rd)
  clear h hS he hB4 kf hT
  go_enter_defers Try.func81, Try.ntmps81
  go_upto_region 1 with fail
  rw [← hW]
  clear hW
  have hre : Hid (r.e = r.e) := hid rfl
  have b0 : W.cell? ⟨w.heap.size, 0, none⟩ = some (.pointer (some ⟨g, 0, none⟩)) := kb.out.cell 0
  have x0 : W.cell? ⟨w.heap.size + 1, 0, none⟩ = some (.int .u8 0) := kx.out.cell 0
  have fx := fun q => kx.out.frozen q
  have r1 : W.cell? ⟨g, 1, none⟩ = some (.int .i64 (r.at_ : Nat)) := hr0.out.blk.cell 1
  have r3 : W.cell? ⟨g, 3, none⟩ = some (.int .i64 r.e) := hr0.out.blk.cell 3
  go_upto_region 4 with fail
  rw [← hW4]
  clear hW4 b0 x0 fx r1 r3 hr0 kb kx hB0
  go_wp2_with fail
  refine (cp_ok hres hT4.out).mono ?_
  rintro e w5 ⟨rfl, hu0, hr5⟩
  have hX5 := hid (hX4.out.call hu0 hr5)
  clear hu0 hr5 hX4 hT4 hres
  obtain ⟨b0, x0, f0, fx, fg, r1, r2, r3, r4, hgl, hfl⟩ := hX5.out.cells
  go_upto_region 6 with fail
  have hX6 := hid (hX5.out.setX (.int .u8 n))
  generalize w5.setCell ⟨w.heap.size + 1, 0, none⟩ (.int .u8 n) = w6 at *
  clear b0 x0 f0 fx fg r1 r2 r3 r4 hgl hfl hX5
  obtain ⟨b0, x0, f0, fx, fg, r1, r2, r3, r4, hgl, hfl⟩ := hX6.out.cells
  go_upto_region 7 with fail
  have hX7 := hid (hX6.out.setR (r' := { r with at_ := a, last := r.at_ }) 2 (.int .i64 (r.at_ : Nat)) rfl rfl hX6.out.rd.at_le)
  generalize w6.setCell ⟨g, 2, none⟩ (.int .i64 (r.at_ : Nat)) = w7 at *
  clear b0 x0 f0 fx fg r1 r2 r3 r4 hgl hfl hX6
  obtain ⟨b0, x0, f0, fx, fg, r1, r2, r3, r4, hgl, hfl⟩ := hX7.out.cells
  go_wp2_with fail
  have hX8 := hX7.out.setX (.int .u8 n)
  refine leaves_cons (f := 101) (args := #[.pointer (some ⟨w.heap.size + 1 + 1, 0, none⟩), .pointer (some ⟨w.heap.size + 1, 0, none⟩), .pointer (some ⟨w.heap.size, 0, none⟩)]) (by simp) (by simp [go_sem]) ?_
  refine (cidle_byte hX8).mono ?_
  rintro e u' w'' ⟨rfl, rfl, rfl⟩
  refine ⟨.int .u8 n, ?_, rfl, hX8.up, hX8.rd⟩
  have HX := hX8.x.cell 0
  have HX : (w7.setCell ⟨w.heap.size + 1, 0, none⟩ (.int .u8 n)).cell? ⟨w.heap.size + 1, 0, none⟩ = some (.int .u8 n) := hX8.x.cell 0
  simp [Go.results, Try.results81, asAddr, go_sem, HX]

end Go.Proofs.Ytbakfkhmopebnaa

namespace Go.Proofs.Ytbakfkhmopebnaa
open Go.RowKit
set_option linter.unusedVariables false
set_option linter.unusedSimpArgs false

set_option maxRecDepth 100000 in
set_option maxHeartbeats 2000000 in
theorem cidle_uint64 {S : Nat → Prop} {w W : World} {g : Nat} {A : Option Addr} {c : Nat} {r : Rr} {vx : Value} {fr : Nat} (h : RX S w W g A c r 68 vx fr) :
    CallsD Try.prog 102 #[.pointer (some ⟨w.heap.size + 1 + 1, 0, none⟩), .pointer (some ⟨w.heap.size + 1, 0, none⟩), .pointer (some ⟨w.heap.size, 0, none⟩)] .returning W fun e u' W' => e = .returned (.tuple #[]) ∧ u' = .returning ∧ W' = W := by
  refine callsD_of_wpS Try.func102 rfl fun c₀ cs hu => ?_
  apply wpS_seq
  apply wpS_region
  simp [wpOpsS, go_sem, recoverD, hu, Try.ntmps102, Exit.thenS]
  refine wpS_of_wp ?_
  refine Code.wp_mono (Q := fun e a' W' => e = .normal ∧ a'.defers = [] ∧ W' = W) ?_ ?_
  · rintro e a' w' ⟨rfl, h1, rfl⟩
    simp [bodyPostS, Go.results, Try.results102, h1, hu]
    cases c₀
    simp_all
  clear hu
  have hne : ∀ w, (binOp .neq 20 .nilIface .nilIface).run Try.prog w = .ok (.bool false) w := fun w => by kernel_rfl
  have hfm : (#[.pointer (some ⟨w.heap.size + 1 + 1, 0, none⟩), .pointer (some ⟨w.heap.size + 1, 0, none⟩), .pointer (some ⟨w.heap.size, 0, none⟩)] : Array Value) ++ ((Array.replicate 29 undef).setIfInBounds 4 .nilIface).setIfInBounds 0 .nilIface = #[.pointer (some ⟨w.heap.size + 1 + 1, 0, none⟩), .pointer (some ⟨w.heap.size + 1, 0, none⟩), .pointer (some ⟨w.heap.size, 0, none⟩), .nilIface, undef, undef, undef, .nilIface, undef, undef, undef, undef, undef, undef, undef, undef, undef, undef, undef, undef, undef, undef, undef, undef, undef, undef, undef, undef, undef, undef, undef, undef] := by kernel_rfl
  rw [hfm]
  clear hfm
  go_wp2_with fail
set_option maxRecDepth 100000 in
set_option maxHeartbeats 2000000 in
theorem cpanic_uint64 {S : Nat → Prop} {w W : World} {g : Nat} {A : Option Addr} {c : Nat} {r : Rr} {vx : Value} {fr : Nat} (x : Int) (older : List PanicEntry) (hfr : fr ≤ r.b.length) (h : RX S w W g A c r 68 vx fr) :
    CallsD Try.prog 102 #[.pointer (some ⟨w.heap.size + 1 + 1, 0, none⟩), .pointer (some ⟨w.heap.size + 1, 0, none⟩), .pointer (some ⟨w.heap.size, 0, none⟩)] (.panicking ({ v := .iface 125 (.agg #[.int .i64 x]), recovered := false } :: older)) W fun e u' W' =>
      e = .returned (.tuple #[]) ∧ u' = .panicking ({ v := .iface 125 (.agg #[.int .i64 x]), recovered := true } :: older) ∧ RX S w W' g A c { r with at_ := fr, e := x, spot := fr } 68 (.int .u64 0) fr := by
  have hass : ∀ w, (Instr.typeAssert (.iface 125 (.agg #[.int .i64 x])) 20 125 true).run Try.prog w = .ok (.tuple #[.agg #[.int .i64 x], .bool true]) w := fun w => by kernel_rfl
  have hne : ∀ w, (binOp .neq 20 (.iface 125 (.agg #[.int .i64 x])) .nilIface).run Try.prog w = .ok (.bool true) w := fun w => by kernel_rfl
  refine callsD_of_wpS Try.func102 rfl fun c₀ cs hu => ?_
  apply wpS_seq
  apply wpS_region
  simp [wpOpsS, go_sem, recoverD, hu, Try.ntmps102, Exit.thenS]
  refine wpS_of_wp ?_
  refine Code.wp_mono (Q := fun e a' W' => e = .normal ∧ a'.defers = [] ∧ RX S w W' g A c { r with at_ := fr, e := x, spot := fr } 68 (.int .u64 0) fr) ?_ ?_
  · rintro e a' W' ⟨rfl, h1, h2⟩
    simp [bodyPostS, Go.results, Try.results102, h1]
    exact h2
  clear hu
  have kn := Blk.new W 125 #[.int .i64 x]
  have hb1 : Below W.heap.size W (W.alloc (.cells #[.int .i64 x] 125)) := (Below.refl _ _).alloc (Nat.le_refl _) _
  have H1 := hid (h.below hb1)
  have hz := hid h.fr.lt
  have hgz := hid h.gb
  have hF := hid hfr
  clear h hb1 hfr
  have hfm : (#[.pointer (some ⟨w.heap.size + 1 + 1, 0, none⟩), .pointer (some ⟨w.heap.size + 1, 0, none⟩), .pointer (some ⟨w.heap.size, 0, none⟩)] : Array Value) ++ ((Array.replicate 29 undef).setIfInBounds 4 (.iface 125 (.agg #[.int .i64 x]))).setIfInBounds 0 (.iface 125 (.agg #[.int .i64 x])) = #[.pointer (some ⟨w.heap.size + 1 + 1, 0, none⟩), .pointer (some ⟨w.heap.size + 1, 0, none⟩), .pointer (some ⟨w.heap.size, 0, none⟩), (.iface 125 (.agg #[.int .i64 x])), undef, undef, undef, (.iface 125 (.agg #[.int .i64 x])), undef, undef, undef, undef, undef, undef, undef, undef, undef, undef, undef, undef, undef, undef, undef, undef, undef, undef, undef, undef, undef, undef, undef, undef] := by kernel_rfl
  rw [hfm]
  clear hfm
  go_upto_region 6 with fail
  have n0 : (W.alloc (.cells #[.int .i64 x] 125)).cell? ⟨W.heap.size, 0, none⟩ = some (.int .i64 x) := kn.cell 0
  generalize W.alloc (.cells #[.int .i64 x] 125) = W1 at *
  clear kn
  obtain ⟨b0, x0, f0, fx, fg, r1, r2, r3, r4, hgl, hfl⟩ := H1.out.cells
  have e1 : ¬ W.heap.size = w.heap.size + 1 := by have := hz.out; omega
  have e2 : ¬ W.heap.size = g := by have := hz.out; have := hgz.out; omega
  have e3 : ¬ w.heap.size + 1 = W.heap.size := fun h => e1 h.symm
  have e4 : ¬ g = W.heap.size := fun h => e2 h.symm
  have e5 : ¬ w.heap.size + 1 = g := by have := hgz.out; omega
  have e6 : ¬ g = w.heap.size + 1 := fun h => e5 h.symm
  have e7 : ¬ w.heap.size = g := by have := hgz.out; omega
  have e8 : ¬ g = w.heap.size := fun h => e7 h.symm
  have e9 : ¬ w.heap.size + 1 + 1 = g := by have := hgz.out; omega
  have e10 : ¬ g = w.heap.size + 1 + 1 := fun h => e9 h.symm
  go_region
  all_goals
    refine ⟨rfl, rfl, ?_⟩
    refine RX.drew ?_
    exact ((((H1.out.setX _).setR (r' := { r with at_ := fr }) 1 (.int .i64 (fr : Nat)) rfl rfl hF.out).setR (r' := { r with at_ := fr, e := x }) 3 (.int .i64 x) rfl rfl hF.out).setR (r' := { r with at_ := fr, e := x, spot := fr }) 4 (.int .i64 (fr : Nat)) rfl rfl hF.out)
set_option maxRecDepth 100000 in
set_option maxHeartbeats 1000000 in
theorem cread_uint64_err {S : Nat → Prop} {w : World} {g : Nat} {A : Option Addr} {c : Nat} {r : Rr} (h : CrIn S w g A c r) (hS : ∀ k, S k → k < w.heap.size) (he : r.e ≠ 0) : Calls Try.prog 83 #[.pointer (some ⟨g, 0, none⟩), .func (Fn.func 84) #[.pointer (some ⟨g, 0, none⟩)] #[]] w fun e w' => e = .returned (.int .u64 0) ∧ Upd (fun k => k = g) w w' ∧ CrIn S w' g A c r := by
  have hmf : ∀ (fn : Fn) (first cap : Array Value) (w : World), (Instr.makeFunc fn first cap).run Try.prog w = .ok (.func fn first cap) w := fun _ _ _ _ => rfl
  obtain ⟨W, hW⟩ : ∃ W, W = ((w.alloc (.cells #[.pointer (some ⟨g, 0, none⟩)] 70)).alloc (.cells #[.int .u64 0] 68)) := ⟨_, rfl⟩
  have hB0 : Hid (Below w.heap.size w W) := hid (by subst hW; exact ((Below.refl _ _).alloc (Nat.le_refl _) _).alloc (by simp) _)
  have kb : Hid (Blk W w.heap.size 70 #[.pointer (some ⟨g, 0, none⟩)]) := hid (by subst hW; exact (Blk.new w _ _).alloc _)
  have kx : Hid (Blk W (w.heap.size + 1) 68 #[.int .u64 0]) := hid (by subst hW; exact Blk.new' _ _ _ (by simp))
  have hsz : W.heap.size = w.heap.size + 1 + 1 := by subst hW; simp
  have hr0 := hid (h.below_all hB0.out)
  have hgb := hid h.blk.lt
  have hSb := hid hS
  have hne := hid h.ne
  have t1 : (r.e != 0) = true := by simpa using he
  clear h hS he
  go_enter_defers Try.func83, Try.ntmps83
  go_upto_region 1 with fail
  rw [← hW]
  clear hW
  have b0 : W.cell? ⟨w.heap.size, 0, none⟩ = some (.pointer (some ⟨g, 0, none⟩)) := kb.out.cell 0
  have x0 : W.cell? ⟨w.heap.size + 1, 0, none⟩ = some (.int .u64 0) := kx.out.cell 0
  have fx := fun q => kx.out.frozen q
  have r1 : W.cell? ⟨g, 1, none⟩ = some (.int .i64 (r.at_ : Nat)) := hr0.out.blk.cell 1
  have r3 : W.cell? ⟨g, 3, none⟩ = some (.int .i64 r.e) := hr0.out.blk.cell 3
  go_wp2_with fail
  have U : Upd (fun k => k = w.heap.size + 1) W (W.setCell ⟨w.heap.size + 1, 0, none⟩ (.int .u64 0)) := (Upd.refl (fun k => k = w.heap.size + 1) W).setCell (p := ⟨w.heap.size + 1, 0, none⟩) (fun _ => rfl) _
  refine ⟨.int .u64 0, ?_, rfl, (Upd.of_below' hB0.out _).trans U fun b hb e => by omega, hr0.out.upd U (by have := hgb.out; omega) fun b hb => by have := hSb.out b hb; omega⟩
  have HX : (W.setCell ⟨w.heap.size + 1, 0, none⟩ (.int .u64 0)).cell? ⟨w.heap.size + 1, 0, none⟩ = some (.int .u64 0) := (kx.out.set_ 0 (.int .u64 0)).cell 0
  simp [Go.results, Try.results83, asAddr, go_sem, HX]
set_option maxRecDepth 100000 in
set_option maxHeartbeats 1000000 in
theorem cread_uint64_bad {S : Nat → Prop} {w : World} {g : Nat} {A : Option Addr} {c : Nat} {r : Rr} (h : CrIn S w g A c r) (hS : ∀ k, S k → k < w.heap.size) (he : r.e = 0) (res : (Value × Nat) ⊕ Int) (hT : ∀ W, Below w.heap.size w W → CrIn S W g A c r → Calls Try.prog 84 #[.pointer (some ⟨g, 0, none⟩)] W (CPost S W g A c r res)) (x : Int) (hres : res = .inr x) : Calls Try.prog 83 #[.pointer (some ⟨g, 0, none⟩), .func (Fn.func 84) #[.pointer (some ⟨g, 0, none⟩)] #[]] w fun e w' => e = .returned (.int .u64 0) ∧ Upd (fun k => k = g) w w' ∧ CrIn S w' g A c (r.fails x) := by
  have hmf : ∀ (fn : Fn) (first cap : Array Value) (w : World), (Instr.makeFunc fn first cap).run Try.prog w = .ok (.func fn first cap) w := fun _ _ _ _ => rfl
  obtain ⟨W, hW⟩ : ∃ W, W = ((w.alloc (.cells #[.pointer (some ⟨g, 0, none⟩)] 70)).alloc (.cells #[.int .u64 0] 68)) := ⟨_, rfl⟩
  have hB0 : Hid (Below w.heap.size w W) := hid (by subst hW; exact ((Below.refl _ _).alloc (Nat.le_refl _) _).alloc (by simp) _)
  have kb : Hid (Blk W w.heap.size 70 #[.pointer (some ⟨g, 0, none⟩)]) := hid (by subst hW; exact (Blk.new w _ _).alloc _)
  have kx : Hid (Blk W (w.heap.size + 1) 68 #[.int .u64 0]) := hid (by subst hW; exact Blk.new' _ _ _ (by simp))
  have hsz : W.heap.size = w.heap.size + 1 + 1 := by subst hW; simp
  have hr0 := hid (h.below_all hB0.out)
  have hgb := hid h.blk.lt
  have hSb := hid hS
  have hne := hid h.ne
  have t1 : (r.e != 0) = false := by simpa using he
  have hal := hid h.at_le
  obtain ⟨W4, hW4⟩ : ∃ W4, W4 = (W.alloc (.cells #[.int .i64 (r.at_ : Nat)] 3)) := ⟨_, rfl⟩
  have hB4 : Below W.heap.size W W4 := by subst hW4; exact (Below.refl _ _).alloc (Nat.le_refl _) _
  have kf : Blk W4 (w.heap.size + 1 + 1) 3 #[.int .i64 (r.at_ : Nat)] := by subst hW4; exact Blk.new' W 3 _ hsz.symm
  have hX4 : Hid (RX S w W4 g A c r 68 (.int .u64 0) r.at_) := hid ⟨hr0.out.below_all hB4, hS, hgb.out, kb.out.below_all hB4, kx.out.below_all hB4, kf, Upd.of_below' (hB0.out.trans (hB4.mono hB0.out.size)) _⟩
  have hT4 := hid (hT W4 (hB0.out.trans (hB4.mono hB0.out.size)) hX4.out.rd)
  clear h hS he hB4 kf hT
  go_enter_defers Try.func83, Try.ntmps83
  go_upto_region 1 with fail
  rw [← hW]
  clear hW
  have hre : Hid (r.e = r.e) := hid rfl
  have b0 : W.cell? ⟨w.heap.size, 0, none⟩ = some (.pointer (some ⟨g, 0, none⟩)) := kb.out.cell 0
  have x0 : W.cell? ⟨w.heap.size + 1, 0, none⟩ = some (.int .u64 0) := kx.out.cell 0
  have fx := fun q => kx.out.frozen q
  have r1 : W.cell? ⟨g, 1, none⟩ = some (.int .i64 (r.at_ : Nat)) := hr0.out.blk.cell 1
  have r3 : W.cell? ⟨g, 3, none⟩ = some (.int .i64 r.e) := hr0.out.blk.cell 3
  go_upto_region 4 with fail
  rw [← hW4]
  clear hW4 b0 x0 fx r1 r3 hr0 kb kx hB0
  go_wp2_with fail
  refine (cp_bad hres hT4.out).mono ?_
  rintro e w5 ⟨rfl, hu0, a, hr5⟩
  have hX5 := hid (hX4.out.call hu0 hr5)
  clear hu0 hr5 hX4 hT4 hres
  go_wp2_with fail
  refine leaves_cons (f := 102) (args := #[.pointer (some ⟨w.heap.size + 1 + 1, 0, none⟩), .pointer (some ⟨w.heap.size + 1, 0, none⟩), .pointer (some ⟨w.heap.size, 0, none⟩)]) (by simp) (by simp [go_sem]) ?_
  refine (cpanic_uint64 (r := r.to a) x [] hal.out hX5.out).mono ?_
  rintro e u' w'' ⟨rfl, rfl, hX6⟩
  refine ⟨.int .u64 0, ?_, rfl, hX6.up, hX6.rd⟩
  have HX : w''.cell? ⟨w.heap.size + 1, 0, none⟩ = some (.int .u64 0) := hX6.x.cell 0
  simp [Go.results, Try.results83, asAddr, go_sem, HX]
set_option maxRecDepth 100000 in
set_option maxHeartbeats 1000000 in
theorem cread_uint64_ok {S : Nat → Prop} {w : World} {g : Nat} {A : Option Addr} {c : Nat} {r : Rr} (h : CrIn S w g A c r) (hS : ∀ k, S k → k < w.heap.size) (he : r.e = 0) (res : (Value × Nat) ⊕ Int) (hT : ∀ W, Below w.heap.size w W → CrIn S W g A c r → Calls Try.prog 84 #[.pointer (some ⟨g, 0, none⟩)] W (CPost S W g A c r res)) (n : Int) (a : Nat) (hres : res = .inl (.int .u64 n, a)) : Calls Try.prog 83 #[.pointer (some ⟨g, 0, none⟩), .func (Fn.func 84) #[.pointer (some ⟨g, 0, none⟩)] #[]] w fun e w' => e = .returned (.int .u64 n) ∧ Upd (fun k => k = g) w w' ∧ CrIn S w' g A c { r with at_ := a, last := r.at_ } := by
  have hmf : ∀ (fn : Fn) (first cap : Array Value) (w : World), (Instr.makeFunc fn first cap).run Try.prog w = .ok (.func fn first cap) w := fun _ _ _ _ => rfl
  obtain ⟨W, hW⟩ : ∃ W, W = ((w.alloc (.cells #[.pointer (some ⟨g, 0, none⟩)] 70)).alloc (.cells #[.int .u64 0] 68)) := ⟨_, rfl⟩
  have hB0 : Hid (Below w.heap.size w W) := hid (by subst hW; exact ((Below.refl _ _).alloc (Nat.le_refl _) _).alloc (by simp) _)
  have kb : Hid (Blk W w.heap.size 70 #[.pointer (some ⟨g, 0, none⟩)]) := hid (by subst hW; exact (Blk.new w _ _).alloc _)
  have kx : Hid (Blk W (w.heap.size + 1) 68 #[.int .u64 0]) := hid (by subst hW; exact Blk.new' _ _ _ (by simp))
  have hsz : W.heap.size = w.heap.size + 1 + 1 := by subst hW; simp
  have hr0 := hid (h.below_all hB0.out)
  have hgb := hid h.blk.lt
  have hSb := hid hS
  have hne := hid h.ne
  have t1 : (r.e != 0) = false := by simpa using he
  have hal := hid h.at_le
  obtain ⟨W4, hW4⟩ : ∃ W4, W4 = (W.alloc (.cells #[.int .i64 (r.at_ : Nat)] 3)) := ⟨_, rfl⟩
  have hB4 : Below W.heap.size W W4 := by subst hW4; exact (Below.refl _ _).alloc (Nat.le_refl _) _
  have kf : Blk W4 (w.heap.size + 1 + 1) 3 #[.int .i64 (r.at_ : Nat)] := by subst hW4; exact Blk.new' W 3 _ hsz.symm
  have hX4 : Hid (RX S w W4 g A c r 68 (.int .u64 0) r.at_) := hid ⟨hr0.out.below_all hB4, hS, hgb.out, kb.out.below_all hB4, kx.out.below_all hB4, kf, Upd.of_below' (hB0.out.trans (hB4.mono hB0.out.size)) _⟩
  have hT4 := hid (hT W4 (hB0.out.trans (hB4.mono hB0.out.size)) hX4.out.rd)
  clear h hS he hB4 kf hT
  go_enter_defers Try.func83, Try.ntmps83
  go_upto_region 1 with fail
  rw [← hW]
  clear hW
  have hre : Hid (r.e = r.e) := hid rfl
  have b0 : W.cell? ⟨w.heap.size, 0, none⟩ = some (.pointer (some ⟨g, 0, none⟩)) := kb.out.cell 0
  have x0 : W.cell? ⟨w.heap.size + 1, 0, none⟩ = some (.int .u64 0) := kx.out.cell 0
  have fx := fun q => kx.out.frozen q
  have r1 : W.cell? ⟨g, 1, none⟩ = some (.int .i64 (r.at_ : Nat)) := hr0.out.blk.cell 1
  have r3 : W.cell? ⟨g, 3, none⟩ = some (.int .i64 r.e) := hr0.out.blk.cell 3
  go_upto_region 4 with fail
  rw [← hW4]
  clear hW4 b0 x0 fx r1 r3 hr0 kb kx hB0
  go_wp2_with fail
  refine (cp_ok hres hT4.out).mono ?_
  rintro e w5 ⟨rfl, hu0, hr5⟩
  have hX5 := hid (hX4.out.call hu0 hr5)
  clear hu0 hr5 hX4 hT4 hres
  obtain ⟨b0, x0, f0, fx, fg, r1, r2, r3, r4, hgl, hfl⟩ := hX5.out.cells
  go_upto_region 6 with fail
  have hX6 := hid (hX5.out.setX (.int .u64 n))
  generalize w5.setCell ⟨w.heap.size + 1, 0, none⟩ (.int .u64 n) = w6 at *
  clear b0 x0 f0 fx fg r1 r2 r3 r4 hgl hfl hX5
  obtain ⟨b0, x0, f0, fx, fg, r1, r2, r3, r4, hgl, hfl⟩ := hX6.out.cells
  go_upto_region 7 with fail
  have hX7 := hid (hX6.out.setR (r' := { r with at_ := a, last := r.at_ }) 2 (.int .i64 (r.at_ : Nat)) rfl rfl hX6.out.rd.at_le)
  generalize w6.setCell ⟨g, 2, none⟩ (.int .i64 (r.at_ : Nat)) = w7 at *
  clear b0 x0 f0 fx fg r1 r2 r3 r4 hgl hfl hX6
  obtain ⟨b0, x0, f0, fx, fg, r1, r2, r3, r4, hgl, hfl⟩ := hX7.out.cells
  go_wp2_with fail
  have hX8 := hX7.out.setX (.int .u64 n)
  refine leaves_cons (f := 102) (args := #[.pointer (some ⟨w.heap.size + 1 + 1, 0, none⟩), .pointer (some ⟨w.heap.size + 1, 0, none⟩), .pointer (some ⟨w.heap.size, 0, none⟩)]) (by simp) (by simp [go_sem]) ?_
  refine (cidle_uint64 hX8).mono ?_
  rintro e u' w'' ⟨rfl, rfl, rfl⟩
  refine ⟨.int .u64 n, ?_, rfl, hX8.up, hX8.rd⟩
  have HX := hX8.x.cell 0
  have HX : (w7.setCell ⟨w.heap.size + 1, 0, none⟩ (.int .u64 n)).cell? ⟨w.heap.size + 1, 0, none⟩ = some (.int .u64 n) := hX8.x.cell 0
  simp [Go.results, Try.results83, asAddr, go_sem, HX]

end Go.Proofs.Ytbakfkhmopebnaa

namespace Go.Proofs.Ytbakfkhmopebnaa
open Go.RowKit
set_option linter.unusedVariables false
set_option linter.unusedSimpArgs false

set_option maxRecDepth 100000 in
set_option maxHeartbeats 2000000 in
theorem cidle_int64 {S : Nat → Prop} {w W : World} {g : Nat} {A : Option Addr} {c : Nat} {r : Rr} {vx : Value} {fr : Nat} (h : RX S w W g A c r 2 vx fr) :
    CallsD Try.prog 103 #[.pointer (some ⟨w.heap.size + 1 + 1, 0, none⟩), .pointer (some ⟨w.heap.size + 1, 0, none⟩), .pointer (some ⟨w.heap.size, 0, none⟩)] .returning W fun e u' W' => e = .returned (.tuple #[]) ∧ u' = .returning ∧ W' = W := by
  refine callsD_of_wpS Try.func103 rfl fun c₀ cs hu => ?_
  apply wpS_seq
  apply wpS_region
  simp [wpOpsS, go_sem, recoverD, hu, Try.ntmps103, Exit.thenS]
  refine wpS_of_wp ?_
  refine Code.wp_mono (Q := fun e a' W' => e = .normal ∧ a'.defers = [] ∧ W' = W) ?_ ?_
  · rintro e a' w' ⟨rfl, h1, rfl⟩
    simp [bodyPostS, Go.results, Try.results103, h1, hu]
    cases c₀
    simp_all
  clear hu
  have hne : ∀ w, (binOp .neq 20 .nilIface .nilIface).run Try.prog w = .ok (.bool false) w := fun w => by kernel_rfl
  have hfm : (#[.pointer (some ⟨w.heap.size + 1 + 1, 0, none⟩), .pointer (some ⟨w.heap.size + 1, 0, none⟩), .pointer (some ⟨w.heap.size, 0, none⟩)] : Array Value) ++ ((Array.replicate 29 undef).setIfInBounds 4 .nilIface).setIfInBounds 0 .nilIface = #[.pointer (some ⟨w.heap.size + 1 + 1, 0, none⟩), .pointer (some ⟨w.heap.size + 1, 0, none⟩), .pointer (some ⟨w.heap.size, 0, none⟩), .nilIface, undef, undef, undef, .nilIface, undef, undef, undef, undef, undef, undef, undef, undef, undef, undef, undef, undef, undef, undef, undef, undef, undef, undef, undef, undef, undef, undef, undef, undef] := by kernel_rfl
  rw [hfm]
  clear hfm
  go_wp2_with fail
set_option maxRecDepth 100000 in
set_option maxHeartbeats 2000000 in
theorem cpanic_int64 {S : Nat → Prop} {w W : World} {g : Nat} {A : Option Addr} {c : Nat} {r : Rr} {vx : Value} {fr : Nat} (x : Int) (older : List PanicEntry) (hfr : fr ≤ r.b.length) (h : RX S w W g A c r 2 vx fr) :
    CallsD Try.prog 103 #[.pointer (some ⟨w.heap.size + 1 + 1, 0, none⟩), .pointer (some ⟨w.heap.size + 1, 0, none⟩), .pointer (some ⟨w.heap.size, 0, none⟩)] (.panicking ({ v := .iface 125 (.agg #[.int .i64 x]), recovered := false } :: older)) W fun e u' W' =>
      e = .returned (.tuple #[]) ∧ u' = .panicking ({ v := .iface 125 (.agg #[.int .i64 x]), recovered := true } :: older) ∧ RX S w W' g A c { r with at_ := fr, e := x, spot := fr } 2 (.int .i64 0) fr := by
  have hass : ∀ w, (Instr.typeAssert (.iface 125 (.agg #[.int .i64 x])) 20 125 true).run Try.prog w = .ok (.tuple #[.agg #[.int .i64 x], .bool true]) w := fun w => by kernel_rfl
  have hne : ∀ w, (binOp .neq 20 (.iface 125 (.agg #[.int .i64 x])) .nilIface).run Try.prog w = .ok (.bool true) w := fun w => by kernel_rfl
  refine callsD_of_wpS Try.func103 rfl fun c₀ cs hu => ?_
  apply wpS_seq
  apply wpS_region
  simp [wpOpsS, go_sem, recoverD, hu, Try.ntmps103, Exit.thenS]
  refine wpS_of_wp ?_
  refine Code.wp_mono (Q := fun e a' W' => e = .normal ∧ a'.defers = [] ∧ RX S w W' g A c { r with at_ := fr, e := x, spot := fr } 2 (.int .i64 0) fr) ?_ ?_
  · rintro e a' W' ⟨rfl, h1, h2⟩
    simp [bodyPostS, Go.results, Try.results103, h1]
    exact h2
  clear hu
  have kn := Blk.new W 125 #[.int .i64 x]
  have hb1 : Below W.heap.size W (W.alloc (.cells #[.int .i64 x] 125)) := (Below.refl _ _).alloc (Nat.le_refl _) _
  have H1 := hid (h.below hb1)
  have hz := hid h.fr.lt
  have hgz := hid h.gb
  have hF := hid hfr
  clear h hb1 hfr
  have hfm : (#[.pointer (some ⟨w.heap.size + 1 + 1, 0, none⟩), .pointer (some ⟨w.heap.size + 1, 0, none⟩), .pointer (some ⟨w.heap.size, 0, none⟩)] : Array Value) ++ ((Array.replicate 29 undef).setIfInBounds 4 (.iface 125 (.agg #[.int .i64 x]))).setIfInBounds 0 (.iface 125 (.agg #[.int .i64 x])) = #[.pointer (some ⟨w.heap.size + 1 + 1, 0, none⟩), .pointer (some ⟨w.heap.size + 1, 0, none⟩), .pointer (some ⟨w.heap.size, 0, none⟩), (.iface 125 (.agg #[.int .i64 x])), undef, undef, undef, (.iface 125 (.agg #[.int .i64 x])), undef, undef, undef, undef, undef, undef, undef, undef, undef, undef, undef, undef, undef, undef, undef, undef, undef, undef, undef, undef, undef, undef, undef, undef] := by kernel_rfl
  rw [hfm]
  clear hfm
  go_upto_region 6 with fail
  have n0 : (W.alloc (.cells #[.int .i64 x] 125)).cell? ⟨W.heap.size, 0, none⟩ = some (.int .i64 x) := kn.cell 0
  generalize W.alloc (.cells #[.int .i64 x] 125) = W1 at *
  clear kn
  obtain ⟨b0, x0, f0, fx, fg, r1, r2, r3, r4, hgl, hfl⟩ := H1.out.cells
  have e1 : ¬ W.heap.size = w.heap.size + 1 := by have := hz.out; omega
  have e2 : ¬ W.heap.size = g := by have := hz.out; have := hgz.out; omega
  have e3 : ¬ w.heap.size + 1 = W.heap.size := fun h => e1 h.symm
  have e4 : ¬ g = W.heap.size := fun h => e2 h.symm
  have e5 : ¬ w.heap.size + 1 = g := by have := hgz.out; omega
  have e6 : ¬ g = w.heap.size + 1 := fun h => e5 h.symm
  have e7 : ¬ w.heap.size = g := by have := hgz.out; omega
  have e8 : ¬ g = w.heap.size := fun h => e7 h.symm
  have e9 : ¬ w.heap.size + 1 + 1 = g := by have := hgz.out; omega
  have e10 : ¬ g = w.heap.size + 1 + 1 := fun h => e9 h.symm
  go_region
  all_goals
    refine ⟨rfl, rfl, ?_⟩
    refine RX.drew ?_
    exact ((((H1.out.setX _).setR (r' := { r with at_ := fr }) 1 (.int .i64 (fr : Nat)) rfl rfl hF.out).setR (r' := { r with at_ := fr, e := x }) 3 (.int .i64 x) rfl rfl hF.out).setR (r' := { r with at_ := fr, e := x, spot := fr }) 4 (.int .i64 (fr : Nat)) rfl rfl hF.out)
set_option maxRecDepth 100000 in
set_option maxHeartbeats 1000000 in
theorem cread_int64_err {S : Nat → Prop} {w : World} {g : Nat} {A : Option Addr} {c : Nat} {r : Rr} (h : CrIn S w g A c r) (hS : ∀ k, S k → k < w.heap.size) (he : r.e ≠ 0) : Calls Try.prog 97 #[.pointer (some ⟨g, 0, none⟩), .func (Fn.func 98) #[.pointer (some ⟨g, 0, none⟩)] #[]] w fun e w' => e = .returned (.int .i64 0) ∧ Upd (fun k => k = g) w w' ∧ CrIn S w' g A c r := by
  have hmf : ∀ (fn : Fn) (first cap : Array Value) (w : World), (Instr.makeFunc fn first cap).run Try.prog w = .ok (.func fn first cap) w := fun _ _ _ _ => rfl
  obtain ⟨W, hW⟩ : ∃ W, W = ((w.alloc (.cells #[.pointer (some ⟨g, 0, none⟩)] 70)).alloc (.cells #[.int .i64 0] 2)) := ⟨_, rfl⟩
  have hB0 : Hid (Below w.heap.size w W) := hid (by subst hW; exact ((Below.refl _ _).alloc (Nat.le_refl _) _).alloc (by simp) _)
  have kb : Hid (Blk W w.heap.size 70 #[.pointer (some ⟨g, 0, none⟩)]) := hid (by subst hW; exact (Blk.new w _ _).alloc _)
  have kx : Hid (Blk W (w.heap.size + 1) 2 #[.int .i64 0]) := hid (by subst hW; exact Blk.new' _ _ _ (by simp))
  have hsz : W.heap.size = w.heap.size + 1 + 1 := by subst hW; simp
  have hr0 := hid (h.below_all hB0.out)
  have hgb := hid h.blk.lt
  have hSb := hid hS
  have hne := hid h.ne
  have t1 : (r.e != 0) = true := by simpa using he
  clear h hS he
  go_enter_defers Try.func97, Try.ntmps97
  go_upto_region 1 with fail
  rw [← hW]
  clear hW
  have b0 : W.cell? ⟨w.heap.size, 0, none⟩ = some (.pointer (some ⟨g, 0, none⟩)) := kb.out.cell 0
  have x0 : W.cell? ⟨w.heap.size + 1, 0, none⟩ = some (.int .i64 0) := kx.out.cell 0
  have fx := fun q => kx.out.frozen q
  have r1 : W.cell? ⟨g, 1, none⟩ = some (.int .i64 (r.at_ : Nat)) := hr0.out.blk.cell 1
  have r3 : W.cell? ⟨g, 3, none⟩ = some (.int .i64 r.e) := hr0.out.blk.cell 3
  go_wp2_with fail
  have U : Upd (fun k => k = w.heap.size + 1) W (W.setCell ⟨w.heap.size + 1, 0, none⟩ (.int .i64 0)) := (Upd.refl (fun k => k = w.heap.size + 1) W).setCell (p := ⟨w.heap.size + 1, 0, none⟩) (fun _ => rfl) _
  refine ⟨.int .i64 0, ?_, rfl, (Upd.of_below' hB0.out _).trans U fun b hb e => by omega, hr0.out.upd U (by have := hgb.out; omega) fun b hb => by have := hSb.out b hb; omega⟩
  have HX : (W.setCell ⟨w.heap.size + 1, 0, none⟩ (.int .i64 0)).cell? ⟨w.heap.size + 1, 0, none⟩ = some (.int .i64 0) := (kx.out.set_ 0 (.int .i64 0)).cell 0
  simp [Go.results, Try.results97, asAddr, go_sem, HX]
set_option maxRecDepth 100000 in
set_option maxHeartbeats 1000000 in
theorem cread_int64_bad {S : Nat → Prop} {w : World} {g : Nat} {A : Option Addr} {c : Nat} {r : Rr} (h : CrIn S w g A c r) (hS : ∀ k, S k → k < w.heap.size) (he : r.e = 0) (res : (Value × Nat) ⊕ Int) (hT : ∀ W, Below w.heap.size w W → CrIn S W g A c r → Calls Try.prog 98 #[.pointer (some ⟨g, 0, none⟩)] W (CPost S W g A c r res)) (x : Int) (hres : res = .inr x) : Calls Try.prog 97 #[.pointer (some ⟨g, 0, none⟩), .func (Fn.func 98) #[.pointer (some ⟨g, 0, none⟩)] #[]] w fun e w' => e = .returned (.int .i64 0) ∧ Upd (fun k => k = g) w w' ∧ CrIn S w' g A c (r.fails x) := by
  have hmf : ∀ (fn : Fn) (first cap : Array Value) (w : World), (Instr.makeFunc fn first cap).run Try.prog w = .ok (.func fn first cap) w := fun _ _ _ _ => rfl
  obtain ⟨W, hW⟩ : ∃ W, W = ((w.alloc (.cells #[.pointer (some ⟨g, 0, none⟩)] 70)).alloc (.cells #[.int .i64 0] 2)) := ⟨_, rfl⟩
  have hB0 : Hid (Below w.heap.size w W) := hid (by subst hW; exact ((Below.refl _ _).alloc (Nat.le_refl _) _).alloc (by simp) _)
  have kb : Hid (Blk W w.heap.size 70 #[.pointer (some ⟨g, 0, none⟩)]) := hid (by subst hW; exact (Blk.new w _ _).alloc _)
  have kx : Hid (Blk W (w.heap.size + 1) 2 #[.int .i64 0]) := hid (by subst hW; exact Blk.new' _ _ _ (by simp))
  have hsz : W.heap.size = w.heap.size + 1 + 1 := by subst hW; simp
  have hr0 := hid (h.below_all hB0.out)
  have hgb := hid h.blk.lt
  have hSb := hid hS
  have hne := hid h.ne
  have t1 : (r.e != 0) = false := by simpa using he
  have hal := hid h.at_le
  obtain ⟨W4, hW4⟩ : ∃ W4, W4 = (W.alloc (.cells #[.int .i64 (r.at_ : Nat)] 3)) := ⟨_, rfl⟩
  have hB4 : Below W.heap.size W W4 := by subst hW4; exact (Below.refl _ _).alloc (Nat.le_refl _) _
  have kf : Blk W4 (w.heap.size + 1 + 1) 3 #[.int .i64 (r.at_ : Nat)] := by subst hW4; exact Blk.new' W 3 _ hsz.symm
  have hX4 : Hid (RX S w W4 g A c r 2 (.int .i64 0) r.at_) := hid ⟨hr0.out.below_all hB4, hS, hgb.out, kb.out.below_all hB4, kx.out.below_all hB4, kf, Upd.of_below' (hB0.out.trans (hB4.mono hB0.out.size)) _⟩
  have hT4 := hid (hT W4 (hB0.out.trans (hB4.mono hB0.out.size)) hX4.out.rd)
  clear h hS he hB4 kf hT
  go_enter_defers Try.func97, Try.ntmps97
  go_upto_region 1 with fail
  rw [← hW]
  clear hW
  have hre : Hid (r.e = r.e) := hid rfl
  have b0 : W.cell? ⟨w.heap.size, 0, none⟩ = some (.pointer (some ⟨g, 0, none⟩)) := kb.out.cell 0
  have x0 : W.cell? ⟨w.heap.size + 1, 0, none⟩ = some (.int .i64 0) := kx.out.cell 0
  have fx := fun q => kx.out.frozen q
  have r1 : W.cell? ⟨g, 1, none⟩ = some (.int .i64 (r.at_ : Nat)) := hr0.out.blk.cell 1
  have r3 : W.cell? ⟨g, 3, none⟩ = some (.int .i64 r.e) := hr0.out.blk.cell 3
  go_upto_region 4 with fail
  rw [← hW4]
  clear hW4 b0 x0 fx r1 r3 hr0 kb kx hB0
  go_wp2_with fail
  refine (cp_bad hres hT4.out).mono ?_
  rintro e w5 ⟨rfl, hu0, a, hr5⟩
  have hX5 := hid (hX4.out.call hu0 hr5)
  clear hu0 hr5 hX4 hT4 hres
  go_wp2_with fail
  refine leaves_cons (f := 103) (args := #[.pointer (some ⟨w.heap.size + 1 + 1, 0, none⟩), .pointer (some ⟨w.heap.size + 1, 0, none⟩), .pointer (some ⟨w.heap.size, 0, none⟩)]) (by simp) (by simp [go_sem]) ?_
  refine (cpanic_int64 (r := r.to a) x [] hal.out hX5.out).mono ?_
  rintro e u' w'' ⟨rfl, rfl, hX6⟩
  refine ⟨.int .i64 0, ?_, rfl, hX6.up, hX6.rd⟩
  have HX : w''.cell? ⟨w.heap.size + 1, 0, none⟩ = some (.int .i64 0) := hX6.x.cell 0
  simp [Go.results, Try.results97, asAddr, go_sem, HX]
set_option maxRecDepth 100000 in
set_option maxHeartbeats 1000000 in
theorem cread_int64_ok {S : Nat → Prop} {w : World} {g : Nat} {A : Option Addr} {c : Nat} {r : Rr} (h : CrIn S w g A c r) (hS : ∀ k, S k → k < w.heap.size) (he : r.e = 0) (res : (Value × Nat) ⊕ Int) (hT : ∀ W, Below w.heap.size w W → CrIn S W g A c r → Calls Try.prog 98 #[.pointer (some ⟨g, 0, none⟩)] W (CPost S W g A c r res)) (n : Int) (a : Nat) (hres : res = .inl (.int .i64 n, a)) : Calls Try.prog 97 #[.pointer (some ⟨g, 0, none⟩), .func (Fn.func 98) #[.pointer (some ⟨g, 0, none⟩)] #[]] w fun e w' => e = .returned (.int .i64 n) ∧ Upd (fun k => k = g) w w' ∧ CrIn S w' g A c { r with at_ := a, last := r.at_ } := by
  have hmf : ∀ (fn : Fn) (first cap : Array Value) (w : World), (Instr.makeFunc fn first cap).run Try.prog w = .ok (.func fn first cap) w := fun _ _ _ _ => rfl
  obtain ⟨W, hW⟩ : ∃ W, W = ((w.alloc (.cells #[.pointer (some ⟨g, 0, none⟩)] 70)).alloc (.cells #[.int .i64 0] 2)) := ⟨_, rfl⟩
  have hB0 : Hid (Below w.heap.size w W) := hid (by subst hW; exact ((Below.refl _ _).alloc (Nat.le_refl _) _).alloc (by simp) _)
  have kb : Hid (Blk W w.heap.size 70 #[.pointer (some ⟨g, 0, none⟩)]) := hid (by subst hW; exact (Blk.new w _ _).alloc _)
  have kx : Hid (Blk W (w.heap.size + 1) 2 #[.int .i64 0]) := hid (by subst hW; exact Blk.new' _ _ _ (by simp))
  have hsz : W.heap.size = w.heap.size + 1 + 1 := by subst hW; simp
  have hr0 := hid (h.below_all hB0.out)
  have hgb := hid h.blk.lt
  have hSb := hid hS
  have hne := hid h.ne
  have t1 : (r.e != 0) = false := by simpa using he
  have hal := hid h.at_le
  obtain ⟨W4, hW4⟩ : ∃ W4, W4 = (W.alloc (.cells #[.int .i64 (r.at_ : Nat)] 3)) := ⟨_, rfl⟩
  have hB4 : Below W.heap.size W W4 := by subst hW4; exact (Below.refl _ _).alloc (Nat.le_refl _) _
  have kf : Blk W4 (w.heap.size + 1 + 1) 3 #[.int .i64 (r.at_ : Nat)] := by subst hW4; exact Blk.new' W 3 _ hsz.symm
  have hX4 : Hid (RX S w W4 g A c r 2 (.int .i64 0) r.at_) := hid ⟨hr0.out.below_all hB4, hS, hgb.out, kb.out.below_all hB4, kx.out.below_all hB4, kf, Upd.of_below' (hB0.out.trans (hB4.mono hB0.out.size)) _⟩
  have hT4 := hid (hT W4 (hB0.out.trans (hB4.mono hB0.out.size)) hX4.out.rd)
  clear h hS he hB4 kf hT
  go_enter_defers Try.func97, Try.ntmps97
  go_upto_region 1 with fail
  rw [← hW]
  clear hW
  have hre : Hid (r.e = r.e) := hid rfl
  have b0 : W.cell? ⟨w.heap.size, 0, none⟩ = some (.pointer (some ⟨g, 0, none⟩)) := kb.out.cell 0
  have x0 : W.cell? ⟨w.heap.size + 1, 0, none⟩ = some (.int .i64 0) := kx.out.cell 0
  have fx := fun q => kx.out.frozen q
  have r1 : W.cell? ⟨g, 1, none⟩ = some (.int .i64 (r.at_ : Nat)) := hr0.out.blk.cell 1
  have r3 : W.cell? ⟨g, 3, none⟩ = some (.int .i64 r.e) := hr0.out.blk.cell 3
  go_upto_region 4 with fail
  rw [← hW4]
  clear hW4 b0 x0 fx r1 r3 hr0 kb kx hB0
  go_wp2_with fail
  refine (cp_ok hres hT4.out).mono ?_
  rintro e w5 ⟨rfl, hu0, hr5⟩
  have hX5 := hid (hX4.out.call hu0 hr5)
  clear hu0 hr5 hX4 hT4 hres
  obtain ⟨b0, x0, f0, fx, fg, r1, r2, r3, r4, hgl, hfl⟩ := hX5.out.cells
  go_upto_region 6 with fail
  have hX6 := hid (hX5.out.setX (.int .i64 n))
  generalize w5.setCell ⟨w.heap.size + 1, 0, none⟩ (.int .i64 n) = w6 at *
  clear b0 x0 f0 fx fg r1 r2 r3 r4 hgl hfl hX5
  obtain ⟨b0, x0, f0, fx, fg, r1, r2, r3, r4, hgl, hfl⟩ := hX6.out.cells
  go_upto_region 7 with fail
  have hX7 := hid (hX6.out.setR (r' := { r with at_ := a, last := r.at_ }) 2 (.int .i64 (r.at_ : Nat)) rfl rfl hX6.out.rd.at_le)
  generalize w6.setCell ⟨g, 2, none⟩ (.int .i64 (r.at_ : Nat)) = w7 at *
  clear b0 x0 f0 fx fg r1 r2 r3 r4 hgl hfl hX6
  obtain ⟨b0, x0, f0, fx, fg, r1, r2, r3, r4, hgl, hfl⟩ := hX7.out.cells
  go_wp2_with fail
  have hX8 := hX7.out.setX (.int .i64 n)
  refine leaves_cons (f := 103) (args := #[.pointer (some ⟨w.heap.size + 1 + 1, 0, none⟩), .pointer (some ⟨w.heap.size + 1, 0, none⟩), .pointer (some ⟨w.heap.size, 0, none⟩)]) (by simp) (by simp [go_sem]) ?_
  refine (cidle_int64 hX8).mono ?_
  rintro e u' w'' ⟨rfl, rfl, rfl⟩
  refine ⟨.int .i64 n, ?_, rfl, hX8.up, hX8.rd⟩
  have HX := hX8.x.cell 0
  have HX : (w7.setCell ⟨w.heap.size + 1, 0, none⟩ (.int .i64 n)).cell? ⟨w.heap.size + 1, 0, none⟩ = some (.int .i64 n) := hX8.x.cell 0
  simp [Go.results, Try.results97, asAddr, go_sem, HX]

end Go.Proofs.Ytbakfkhmopebnaa


/- proc: the document's Check, Depths. -/
import Derived.Test.YtdmogoaaecdbaaaGreatDoorZRFind
namespace Go.Proofs.YtdmogoaaecdbaaaGreatDoor
open Go.RowKit
set_option linter.unusedVariables false
set_option linter.unusedSimpArgs false

theorem rfind_all (p : Pr) (S : Nat → Prop) (A1 A2 : Option Addr) (c1 c2 : Nat) (w : World) (hp : PrIn S w A1 A2 p) (hf : p.form.1 = 0) : Calls Tryz.prog 46 #[.agg #[.int .i64 p.args, .slice A1 p.cs.length c1, .slice A2 p.code.length c2]] w (FindAll p w) := by
  refine (rfind_any p S A1 A2 c1 c2 w hp hf).mono fun e w' ⟨hb, hm⟩ => ⟨hb, ?_⟩
  cases hfi : p.find with
  | inl d =>
    rw [hfi] at hm
    obtain ⟨v, rfl, hown⟩ := hm
    obtain ⟨A, c, rfl, _⟩ := own_form hown
    obtain ⟨h1, h2⟩ := check_ok hf hfi
    have hl : p.deps.length = p.code.length := by rw [h2]; simp
    refine ⟨A, c, by rw [h1, hl], ?_⟩
    rw [hl, h2, List.map_map]
    exact hown
  | inr x =>
    rw [hfi] at hm
    obtain ⟨h1, h2⟩ := check_bad hf hfi
    refine ⟨none, 0, by rw [hm, h1, h2]; rfl, ?_⟩
    rw [h2]
    exact World.ownsRow_nil _ _ _ _
set_option maxRecDepth 100000 in
theorem rcheck_any (p : Pr) (S : Nat → Prop) (A1 A2 : Option Addr) (c1 c2 : Nat) (w : World) (hp : PrIn S w A1 A2 p) : Calls Tryz.prog 23 #[.agg #[.int .i64 p.args, .slice A1 p.cs.length c1, .slice A2 p.code.length c2]] w fun e w' => e = .returned (.tuple #[.int .i64 p.check.1, .int .i64 p.check.2]) ∧ Below w.heap.size w w' := by
  have hB0 : Below w.heap.size w (w.alloc (.cells #[.int .i64 p.args, .slice A1 p.cs.length c1, .slice A2 p.code.length c2] 33)) := (Below.refl _ _).alloc (Nat.le_refl _) _
  have kp0 := Blk.new w 33 #[.int .i64 p.args, .slice A1 p.cs.length c1, .slice A2 p.code.length c2]
  have HP : Hid (∀ W, Below w.heap.size w W → PrIn S W A1 A2 p) := hid fun W hb => hp.below hb
  have hB := hid hB0
  have kp := hid kp0
  clear hB0 kp0 hp
  have hfo := hid (fun W hb => rform_any p S A1 A2 c1 c2 W (HP.out W hb))
  by_cases hf : p.form.1 = 0
  · have hfi := hid (fun W hb => rfind_all p S A1 A2 c1 c2 W (HP.out W hb) hf)
    have t1 : (p.form.1 == 0) = true := by simpa using hf
    have t2 : (p.form.1 != 0) = false := by simpa using hf
    generalize p.form.1 = f1 at *
    clear hf
    go_enter Tryz.func23, Tryz.ntmps23
    go_upto_region 1 with fail
    generalize w.alloc (.cells #[.int .i64 p.args, .slice A1 p.cs.length c1, .slice A2 p.code.length c2] 33) = w1 at *
    have p0 := kp.out.cell 0
    have p1 := kp.out.cell 1
    have p2 := kp.out.cell 2
    simp only [List.getElem?_toArray, List.getElem?_cons_zero, List.getElem?_cons_succ] at p0 p1 p2
    go_wp2_with fail
    refine (hfo.out _ hB.out).mono ?_
    rintro e w2 ⟨rfl, hb0⟩
    have hB2 := hid (hB.out.trans (hb0.mono hB.out.size))
    have kp2 := hid (kp.out.below_all hb0)
    clear hb0 p0 p1 p2
    have p0 := kp2.out.cell 0
    have p1 := kp2.out.cell 1
    have p2 := kp2.out.cell 2
    simp only [List.getElem?_toArray, List.getElem?_cons_zero, List.getElem?_cons_succ] at p0 p1 p2
    go_wp2_with fail
    refine (hfi.out _ hB2.out).mono ?_
    rintro e w3 ⟨hb0, A, c, rfl, _⟩
    have hB3 := hid (hB2.out.trans (hb0.mono hB2.out.size))
    clear hb0
    go_wp2_with fail
    go_ret2
    exact ⟨rfl, hB3.out⟩
  · have hch := hid (check_form hf).1
    have t1 : (p.form.1 == 0) = false := by simpa using hf
    have t2 : (p.form.1 != 0) = true := by simpa using hf
    clear hf
    go_enter Tryz.func23, Tryz.ntmps23
    go_upto_region 1 with fail
    generalize w.alloc (.cells #[.int .i64 p.args, .slice A1 p.cs.length c1, .slice A2 p.code.length c2] 33) = w1 at *
    have p0 := kp.out.cell 0
    have p1 := kp.out.cell 1
    have p2 := kp.out.cell 2
    simp only [List.getElem?_toArray, List.getElem?_cons_zero, List.getElem?_cons_succ] at p0 p1 p2
    go_wp2_with fail
    refine (hfo.out _ hB.out).mono ?_
    rintro e w2 ⟨rfl, hb0⟩
    have hB2 := hid (hB.out.trans (hb0.mono hB.out.size))
    clear hb0
    go_wp2_with fail
    go_ret2
    exact ⟨by rw [hch.out]; rfl, hB2.out⟩
end Go.Proofs.YtdmogoaaecdbaaaGreatDoor

/- InterpSums: what each operation comes to: right. -/
import Derived.Test.YtdmogoaaecdbaaaGreatDoorZSame2
import Derived.Test.YtdmogoaaecdbaaaGreatDoorJ21
namespace Go.Proofs.YtdmogoaaecdbaaaGreatDoor
open Go.RowKit
set_option linter.unusedVariables false
set_option linter.unusedSimpArgs false

set_option maxRecDepth 100000 in
theorem ofI_any (n : Int) (w : World) : Calls Tryz.prog 27 #[.int .i64 n] w fun e w' => e = .returned (.agg #[.int .i64 1, .int .i64 n, .string ⟨#[]⟩]) ∧ Below w.heap.size w w' := by
  have k0 := hid (Blk.new w 55 #[.int .i64 0, .int .i64 0, .string ⟨#[]⟩])
  have hB0 := hid ((Below.refl w.heap.size w).alloc (Nat.le_refl _) (.cells #[.int .i64 0, .int .i64 0, .string ⟨#[]⟩] 55))
  go_enter Tryz.func27, Tryz.ntmps27
  go_upto_region 1 with fail
  generalize w.alloc (.cells #[.int .i64 0, .int .i64 0, .string ⟨#[]⟩] 55) = w1 at *
  have z0 := k0.out.cell 0
  have z1 := k0.out.cell 1
  have z2 := k0.out.cell 2
  simp only [List.getElem?_toArray, List.getElem?_cons_zero, List.getElem?_cons_succ] at z0 z1 z2
  have zf := fun q => k0.out.frozen q
  go_wp2_with fail
  refine bodyPost_ret (v := .agg #[.int .i64 1, .int .i64 n, .string ⟨#[]⟩]) ?_ rfl ⟨rfl, ?_⟩
  · exact results_cell_row (P := Tryz.prog) rfl _ _ w.heap.size 55 _ (0, 0) _ rfl (show Blk _ _ _ #[.int .i64 1, .int .i64 n, .string ⟨#[]⟩] from by simpa using (((k0.out.set_ 0 (.int .i64 1)).set_ 1 (.int .i64 n)).set_ 2 (.string ⟨#[]⟩))) Tryz.underlying55 rfl (by kernel_rfl)
  · exact ((hB0.out.setCell (p := ⟨w.heap.size, 0, none⟩) (Nat.le_refl _) _).setCell (p := ⟨w.heap.size, 1, none⟩) (Nat.le_refl _) _).setCell (p := ⟨w.heap.size, 2, none⟩) (Nat.le_refl _) _
section
variable {w : World} {a b : Int}
set_option maxRecDepth 100000 in
set_option maxHeartbeats 4000000 in
theorem right_addE {A1 A2 A3 A4 : Option Addr} {ac1 ac2 ac3 ac4 : Nat} (ha : inR a = true) (hb : inR b = true) (h : ¬ (-9223372036854775808 ≤ a + b ∧ a + b ≤ 9223372036854775807)) : Calls Tryz.prog 28 #[.int .i64 7, .int .i64 a, .int .i64 b, .agg #[.int .i64 70, .int .i64 2, .int .i64 0, .slice A1 0 ac1, .slice A2 0 ac2, .slice A3 0 ac3, .slice A4 0 ac4, .int .i64 97]] w fun e w' => e = .returned (.bool true) ∧ Below w.heap.size w w' := by
  rw [inR_iff] at ha hb
  have ko := hid (Blk.new w 29 #[.int .i64 70, .int .i64 2, .int .i64 0, .slice A1 0 ac1, .slice A2 0 ac2, .slice A3 0 ac3, .slice A4 0 ac4, .int .i64 97])
  have hB := hid ((Below.refl w.heap.size w).alloc (Nat.le_refl _) (.cells #[.int .i64 70, .int .i64 2, .int .i64 0, .slice A1 0 ac1, .slice A2 0 ac2, .slice A3 0 ac3, .slice A4 0 ac4, .int .i64 97] 29))
  have hn0 : (b == 0) = false := by simp; omega
  obtain ⟨c, hc⟩ : ∃ c, IntKind.i64.wrap (a + b) = c := ⟨_, rfl⟩
  have hcase : (0 < a ∧ 0 < b ∧ c < 0) ∨ (¬ 0 < a ∧ a < 0 ∧ b < 0 ∧ 0 ≤ c) := by rw [IntKind.wrap_i64] at hc; omega
  clear h
  rcases hcase with ⟨c1, c2, c3⟩ | ⟨c1, c2, c3, c4⟩
  · have d1 : decide (0 < a) = true := decide_eq_true c1
    have d2 : decide (0 < b) = true := decide_eq_true c2
    have d3 : decide (c < 0) = true := decide_eq_true c3
    clear c1 c2 c3
    clear ha hb
    go_enter Tryz.func28, Tryz.ntmps28
    go_upto_region 1 with fail
    generalize w.alloc (.cells #[.int .i64 70, .int .i64 2, .int .i64 0, .slice A1 0 ac1, .slice A2 0 ac2, .slice A3 0 ac3, .slice A4 0 ac4, .int .i64 97] 29) = w1 at *
    have x0 : w1.cell? ⟨w.heap.size, 0, none⟩ = some (.int .i64 70) := ko.out.cell 0
    go_wp2_with fail
    refine (numI_any _ _).mono ?_
    rintro e wq ⟨rfl, hwq⟩
    obtain rfl := hwq.symm
    go_wp2_with fail
    go_ret
    exact ⟨rfl, hB.out⟩
  · have d1 : decide (0 < a) = false := decide_eq_false c1
    have d2 : decide (a < 0) = true := decide_eq_true c2
    have d3 : decide (b < 0) = true := decide_eq_true c3
    have d4 : decide (0 ≤ c) = true := decide_eq_true c4
    clear c1 c2 c3 c4
    clear ha hb
    go_enter Tryz.func28, Tryz.ntmps28
    go_upto_region 1 with fail
    generalize w.alloc (.cells #[.int .i64 70, .int .i64 2, .int .i64 0, .slice A1 0 ac1, .slice A2 0 ac2, .slice A3 0 ac3, .slice A4 0 ac4, .int .i64 97] 29) = w1 at *
    have x0 : w1.cell? ⟨w.heap.size, 0, none⟩ = some (.int .i64 70) := ko.out.cell 0
    go_wp2_with fail
    refine (numI_any _ _).mono ?_
    rintro e wq ⟨rfl, hwq⟩
    obtain rfl := hwq.symm
    go_wp2_with fail
    go_ret
    exact ⟨rfl, hB.out⟩
set_option maxRecDepth 100000 in
set_option maxHeartbeats 4000000 in
theorem right_subE {A1 A2 A3 A4 : Option Addr} {ac1 ac2 ac3 ac4 : Nat} (ha : inR a = true) (hb : inR b = true) (h : ¬ (-9223372036854775808 ≤ a - b ∧ a - b ≤ 9223372036854775807)) : Calls Tryz.prog 28 #[.int .i64 8, .int .i64 a, .int .i64 b, .agg #[.int .i64 70, .int .i64 2, .int .i64 0, .slice A1 0 ac1, .slice A2 0 ac2, .slice A3 0 ac3, .slice A4 0 ac4, .int .i64 97]] w fun e w' => e = .returned (.bool true) ∧ Below w.heap.size w w' := by
  rw [inR_iff] at ha hb
  have ko := hid (Blk.new w 29 #[.int .i64 70, .int .i64 2, .int .i64 0, .slice A1 0 ac1, .slice A2 0 ac2, .slice A3 0 ac3, .slice A4 0 ac4, .int .i64 97])
  have hB := hid ((Below.refl w.heap.size w).alloc (Nat.le_refl _) (.cells #[.int .i64 70, .int .i64 2, .int .i64 0, .slice A1 0 ac1, .slice A2 0 ac2, .slice A3 0 ac3, .slice A4 0 ac4, .int .i64 97] 29))
  have hn0 : (b == 0) = false := by simp; omega
  obtain ⟨c, hc⟩ : ∃ c, IntKind.i64.wrap (a - b) = c := ⟨_, rfl⟩
  have hcase : (0 ≤ a ∧ b < 0 ∧ c < 0) ∨ (¬ 0 ≤ a ∧ a < 0 ∧ 0 < b ∧ 0 ≤ c) := by rw [IntKind.wrap_i64] at hc; omega
  clear h
  rcases hcase with ⟨c1, c2, c3⟩ | ⟨c1, c2, c3, c4⟩
  · have d1 : decide (0 ≤ a) = true := decide_eq_true c1
    have d2 : decide (b < 0) = true := decide_eq_true c2
    have d3 : decide (c < 0) = true := decide_eq_true c3
    clear c1 c2 c3
    clear ha hb
    go_enter Tryz.func28, Tryz.ntmps28
    go_upto_region 1 with fail
    generalize w.alloc (.cells #[.int .i64 70, .int .i64 2, .int .i64 0, .slice A1 0 ac1, .slice A2 0 ac2, .slice A3 0 ac3, .slice A4 0 ac4, .int .i64 97] 29) = w1 at *
    have x0 : w1.cell? ⟨w.heap.size, 0, none⟩ = some (.int .i64 70) := ko.out.cell 0
    go_wp2_with fail
    refine (numI_any _ _).mono ?_
    rintro e wq ⟨rfl, hwq⟩
    obtain rfl := hwq.symm
    go_wp2_with fail
    go_ret
    exact ⟨rfl, hB.out⟩
  · have d1 : decide (0 ≤ a) = false := decide_eq_false c1
    have d2 : decide (a < 0) = true := decide_eq_true c2
    have d3 : decide (0 < b) = true := decide_eq_true c3
    have d4 : decide (0 ≤ c) = true := decide_eq_true c4
    clear c1 c2 c3 c4
    clear ha hb
    go_enter Tryz.func28, Tryz.ntmps28
    go_upto_region 1 with fail
    generalize w.alloc (.cells #[.int .i64 70, .int .i64 2, .int .i64 0, .slice A1 0 ac1, .slice A2 0 ac2, .slice A3 0 ac3, .slice A4 0 ac4, .int .i64 97] 29) = w1 at *
    have x0 : w1.cell? ⟨w.heap.size, 0, none⟩ = some (.int .i64 70) := ko.out.cell 0
    go_wp2_with fail
    refine (numI_any _ _).mono ?_
    rintro e wq ⟨rfl, hwq⟩
    obtain rfl := hwq.symm
    go_wp2_with fail
    go_ret
    exact ⟨rfl, hB.out⟩
set_option maxRecDepth 100000 in
set_option maxHeartbeats 4000000 in
theorem right_mulE {A1 A2 A3 A4 : Option Addr} {ac1 ac2 ac3 ac4 : Nat} (ha : inR a = true) (hb : inR b = true) (h : ¬ (-9223372036854775808 ≤ a * b ∧ a * b ≤ 9223372036854775807)) : Calls Tryz.prog 28 #[.int .i64 9, .int .i64 a, .int .i64 b, .agg #[.int .i64 70, .int .i64 2, .int .i64 0, .slice A1 0 ac1, .slice A2 0 ac2, .slice A3 0 ac3, .slice A4 0 ac4, .int .i64 97]] w fun e w' => e = .returned (.bool true) ∧ Below w.heap.size w w' := by
  rw [inR_iff] at ha hb
  have ko := hid (Blk.new w 29 #[.int .i64 70, .int .i64 2, .int .i64 0, .slice A1 0 ac1, .slice A2 0 ac2, .slice A3 0 ac3, .slice A4 0 ac4, .int .i64 97])
  have hB := hid ((Below.refl w.heap.size w).alloc (Nat.le_refl _) (.cells #[.int .i64 70, .int .i64 2, .int .i64 0, .slice A1 0 ac1, .slice A2 0 ac2, .slice A3 0 ac3, .slice A4 0 ac4, .int .i64 97] 29))
  have hb0 : b ≠ 0 := fun e => by subst e; rw [Int.mul_zero] at h; omega
  have ha0 : a ≠ 0 := fun e => by subst e; rw [Int.zero_mul] at h; omega
  have hn0 : (b == 0) = false := by simpa using hb0
  have hn2 : (b != 0) = true := by simpa using hb0
  have hn1 : (a != 0) = true := by simpa using ha0
  by_cases c1 : a = -9223372036854775808
  · have d1 : (a == -9223372036854775808) = true := by simpa using c1
    clear c1 h hb0 ha0
    clear ha hb
    go_enter Tryz.func28, Tryz.ntmps28
    go_upto_region 1 with fail
    generalize w.alloc (.cells #[.int .i64 70, .int .i64 2, .int .i64 0, .slice A1 0 ac1, .slice A2 0 ac2, .slice A3 0 ac3, .slice A4 0 ac4, .int .i64 97] 29) = w1 at *
    have x0 : w1.cell? ⟨w.heap.size, 0, none⟩ = some (.int .i64 70) := ko.out.cell 0
    go_wp2_with fail
    refine (numI_any _ _).mono ?_
    rintro e wq ⟨rfl, hwq⟩
    obtain rfl := hwq.symm
    go_wp2_with fail
    go_ret
    exact ⟨rfl, hB.out⟩
  have d1 : (a == -9223372036854775808) = false := by simpa using c1
  by_cases c2 : b = -9223372036854775808
  · have d2 : (b == -9223372036854775808) = true := by simpa using c2
    clear c1 c2 h hb0 ha0
    clear ha hb
    go_enter Tryz.func28, Tryz.ntmps28
    go_upto_region 1 with fail
    generalize w.alloc (.cells #[.int .i64 70, .int .i64 2, .int .i64 0, .slice A1 0 ac1, .slice A2 0 ac2, .slice A3 0 ac3, .slice A4 0 ac4, .int .i64 97] 29) = w1 at *
    have x0 : w1.cell? ⟨w.heap.size, 0, none⟩ = some (.int .i64 70) := ko.out.cell 0
    go_wp2_with fail
    refine (numI_any _ _).mono ?_
    rintro e wq ⟨rfl, hwq⟩
    obtain rfl := hwq.symm
    go_wp2_with fail
    go_ret
    exact ⟨rfl, hB.out⟩
  have d2 : (b == -9223372036854775808) = false := by simpa using c2
  obtain ⟨c, hc⟩ : ∃ c, IntKind.i64.wrap (a * b) = c := ⟨_, rfl⟩
  obtain ⟨q, hq⟩ : ∃ q, IntKind.i64.wrap (c.tdiv b) = q := ⟨_, rfl⟩
  have hqa : (q != a) = true := by
    have hc' := hc
    rw [IntKind.wrap_i64] at hc'
    have hk : ∃ k : Int, c = a * b + k * 18446744073709551616 := ⟨-((a * b + 9223372036854775808) / 18446744073709551616), by omega⟩
    have hne : c.tdiv b ≠ a := fun e => by
      have := mul_back hb0 hk hb e
      omega
    have hab : (c.tdiv b).natAbs ≤ c.natAbs := Int.natAbs_tdiv_le_natAbs c b
    rw [← hq, IntKind.wrap_i64]
    simp only [bne_iff_ne, ne_eq]
    omega
  have hbn : ¬ b = 0 := hb0
  clear c1 c2 h hb0 ha0
  clear ha hb
  go_enter Tryz.func28, Tryz.ntmps28
  go_upto_region 1 with fail
  generalize w.alloc (.cells #[.int .i64 70, .int .i64 2, .int .i64 0, .slice A1 0 ac1, .slice A2 0 ac2, .slice A3 0 ac3, .slice A4 0 ac4, .int .i64 97] 29) = w1 at *
  have x0 : w1.cell? ⟨w.heap.size, 0, none⟩ = some (.int .i64 70) := ko.out.cell 0
  go_wp2_with fail
  refine (numI_any _ _).mono ?_
  rintro e wq ⟨rfl, hwq⟩
  obtain rfl := hwq.symm
  go_wp2_with fail
  go_ret
  exact ⟨rfl, hB.out⟩
set_option maxRecDepth 100000 in
set_option maxHeartbeats 4000000 in
theorem right_divE {A1 A2 A3 A4 : Option Addr} {ac1 ac2 ac3 ac4 : Nat} (ha : inR a = true) (hb : inR b = true) (h : a = -9223372036854775808 ∧ b = -1) : Calls Tryz.prog 28 #[.int .i64 10, .int .i64 a, .int .i64 b, .agg #[.int .i64 70, .int .i64 2, .int .i64 0, .slice A1 0 ac1, .slice A2 0 ac2, .slice A3 0 ac3, .slice A4 0 ac4, .int .i64 97]] w fun e w' => e = .returned (.bool true) ∧ Below w.heap.size w w' := by
  rw [inR_iff] at ha hb
  have ko := hid (Blk.new w 29 #[.int .i64 70, .int .i64 2, .int .i64 0, .slice A1 0 ac1, .slice A2 0 ac2, .slice A3 0 ac3, .slice A4 0 ac4, .int .i64 97])
  have hB := hid ((Below.refl w.heap.size w).alloc (Nat.le_refl _) (.cells #[.int .i64 70, .int .i64 2, .int .i64 0, .slice A1 0 ac1, .slice A2 0 ac2, .slice A3 0 ac3, .slice A4 0 ac4, .int .i64 97] 29))
  have hn0 : (b == 0) = false := by simp; omega
  have d1 : (a == -9223372036854775808) = true := by simpa using h.1
  have d2 : (b == -1) = true := by simpa using h.2
  clear h
  clear ha hb
  go_enter Tryz.func28, Tryz.ntmps28
  go_upto_region 1 with fail
  generalize w.alloc (.cells #[.int .i64 70, .int .i64 2, .int .i64 0, .slice A1 0 ac1, .slice A2 0 ac2, .slice A3 0 ac3, .slice A4 0 ac4, .int .i64 97] 29) = w1 at *
  have x0 : w1.cell? ⟨w.heap.size, 0, none⟩ = some (.int .i64 70) := ko.out.cell 0
  go_wp2_with fail
  refine (numI_any _ _).mono ?_
  rintro e wq ⟨rfl, hwq⟩
  obtain rfl := hwq.symm
  go_wp2_with fail
  go_ret
  exact ⟨rfl, hB.out⟩
set_option maxRecDepth 100000 in
set_option maxHeartbeats 4000000 in
theorem right_div0 {A1 A2 A3 A4 : Option Addr} {ac1 ac2 ac3 ac4 : Nat} (ha : inR a = true) (hb : inR b = true) (h : b = 0) : Calls Tryz.prog 28 #[.int .i64 10, .int .i64 a, .int .i64 b, .agg #[.int .i64 71, .int .i64 2, .int .i64 0, .slice A1 0 ac1, .slice A2 0 ac2, .slice A3 0 ac3, .slice A4 0 ac4, .int .i64 97]] w fun e w' => e = .returned (.bool true) ∧ Below w.heap.size w w' := by
  rw [inR_iff] at ha hb
  have ko := hid (Blk.new w 29 #[.int .i64 71, .int .i64 2, .int .i64 0, .slice A1 0 ac1, .slice A2 0 ac2, .slice A3 0 ac3, .slice A4 0 ac4, .int .i64 97])
  have hB := hid ((Below.refl w.heap.size w).alloc (Nat.le_refl _) (.cells #[.int .i64 71, .int .i64 2, .int .i64 0, .slice A1 0 ac1, .slice A2 0 ac2, .slice A3 0 ac3, .slice A4 0 ac4, .int .i64 97] 29))
  have hn0 : (b == 0) = true := by simpa using h
  clear h
  clear ha hb
  go_enter Tryz.func28, Tryz.ntmps28
  go_upto_region 1 with fail
  generalize w.alloc (.cells #[.int .i64 71, .int .i64 2, .int .i64 0, .slice A1 0 ac1, .slice A2 0 ac2, .slice A3 0 ac3, .slice A4 0 ac4, .int .i64 97] 29) = w1 at *
  have x0 : w1.cell? ⟨w.heap.size, 0, none⟩ = some (.int .i64 71) := ko.out.cell 0
  go_wp2_with fail
  refine (numI_any _ _).mono ?_
  rintro e wq ⟨rfl, hwq⟩
  obtain rfl := hwq.symm
  go_wp2_with fail
  go_ret
  exact ⟨rfl, hB.out⟩
set_option maxRecDepth 100000 in
set_option maxHeartbeats 4000000 in
theorem right_mod0 {A1 A2 A3 A4 : Option Addr} {ac1 ac2 ac3 ac4 : Nat} (ha : inR a = true) (hb : inR b = true) (h : b = 0) : Calls Tryz.prog 28 #[.int .i64 11, .int .i64 a, .int .i64 b, .agg #[.int .i64 71, .int .i64 2, .int .i64 0, .slice A1 0 ac1, .slice A2 0 ac2, .slice A3 0 ac3, .slice A4 0 ac4, .int .i64 97]] w fun e w' => e = .returned (.bool true) ∧ Below w.heap.size w w' := by
  rw [inR_iff] at ha hb
  have ko := hid (Blk.new w 29 #[.int .i64 71, .int .i64 2, .int .i64 0, .slice A1 0 ac1, .slice A2 0 ac2, .slice A3 0 ac3, .slice A4 0 ac4, .int .i64 97])
  have hB := hid ((Below.refl w.heap.size w).alloc (Nat.le_refl _) (.cells #[.int .i64 71, .int .i64 2, .int .i64 0, .slice A1 0 ac1, .slice A2 0 ac2, .slice A3 0 ac3, .slice A4 0 ac4, .int .i64 97] 29))
  have hn0 : (b == 0) = true := by simpa using h
  clear h
  clear ha hb
  go_enter Tryz.func28, Tryz.ntmps28
  go_upto_region 1 with fail
  generalize w.alloc (.cells #[.int .i64 71, .int .i64 2, .int .i64 0, .slice A1 0 ac1, .slice A2 0 ac2, .slice A3 0 ac3, .slice A4 0 ac4, .int .i64 97] 29) = w1 at *
  have x0 : w1.cell? ⟨w.heap.size, 0, none⟩ = some (.int .i64 71) := ko.out.cell 0
  go_wp2_with fail
  refine (numI_any _ _).mono ?_
  rintro e wq ⟨rfl, hwq⟩
  obtain rfl := hwq.symm
  go_wp2_with fail
  go_ret
  exact ⟨rfl, hB.out⟩
set_option maxRecDepth 100000 in
set_option maxHeartbeats 4000000 in
theorem right_addO {n : Int} {A1 A2 A3 A4 : Option Addr} {ac1 ac2 ac3 ac4 : Nat} (ha : inR a = true) (hb : inR b = true) (hr : Rd (fun _ => True) w 3 A1 1 (vcells [numVl n])) (h : n = a + b ∧ -9223372036854775808 ≤ n ∧ n ≤ 9223372036854775807) : Calls Tryz.prog 28 #[.int .i64 7, .int .i64 a, .int .i64 b, .agg #[.int .i64 0, .int .i64 4, .int .i64 0, .slice A1 1 ac1, .slice A2 0 ac2, .slice A3 0 ac3, .slice A4 0 ac4, .int .i64 95]] w fun e w' => e = .returned (.bool true) ∧ Below w.heap.size w w' := by
  rw [inR_iff] at ha hb
  have ko := hid (Blk.new w 29 #[.int .i64 0, .int .i64 4, .int .i64 0, .slice A1 1 ac1, .slice A2 0 ac2, .slice A3 0 ac3, .slice A4 0 ac4, .int .i64 95])
  have hB := hid ((Below.refl w.heap.size w).alloc (Nat.le_refl _) (.cells #[.int .i64 0, .int .i64 4, .int .i64 0, .slice A1 1 ac1, .slice A2 0 ac2, .slice A3 0 ac3, .slice A4 0 ac4, .int .i64 95] 29))
  obtain ⟨b1, o1, ho1, _, q9, q10, q11⟩ := (hr.alloc (.cells #[.int .i64 0, .int .i64 4, .int .i64 0, .slice A1 1 ac1, .slice A2 0 ac2, .slice A3 0 ac3, .slice A4 0 ac4, .int .i64 95] 29)).val_at (l := [numVl n]) (k := 0) (by show (0 : Nat) < 1; decide)
  simp only [Nat.zero_mul, Nat.add_zero] at q10
  have q1 : (w.alloc (.cells #[.int .i64 0, .int .i64 4, .int .i64 0, .slice A1 1 ac1, .slice A2 0 ac2, .slice A3 0 ac3, .slice A4 0 ac4, .int .i64 95] 29)).cell? ⟨b1, o1 + 1, none⟩ = some (.int .i64 n) := q10
  subst ho1
  clear hr q9 q10 q11
  have s1 : IntKind.i64.wrap (n - b) = a := by rw [IntKind.wrap_i64]; omega
  by_cases c1 : 0 ≤ b
  · have d1 : decide (0 ≤ b) = true := decide_eq_true c1
    have d2 : decide (a ≤ n) = true := decide_eq_true (by omega)
    clear c1 h
    by_cases c0 : b = 0
    · have hn0 : (b == 0) = true := by simpa using c0
      clear c0
      clear ha hb
      go_enter Tryz.func28, Tryz.ntmps28
      go_upto_region 1 with fail
      generalize w.alloc (.cells #[.int .i64 0, .int .i64 4, .int .i64 0, .slice (some ⟨b1, o1, none⟩) 1 ac1, .slice A2 0 ac2, .slice A3 0 ac3, .slice A4 0 ac4, .int .i64 95] 29) = w1 at *
      have x0 : w1.cell? ⟨w.heap.size, 0, none⟩ = some (.int .i64 0) := ko.out.cell 0
      have x3 : w1.cell? ⟨w.heap.size, 3, none⟩ = some (.slice (some ⟨b1, o1, none⟩) 1 ac1) := ko.out.cell 3
      go_wp2_with fail
      refine (numI_any _ _).mono ?_
      rintro e wq ⟨rfl, hwq⟩
      obtain rfl := hwq.symm
      go_wp2_with fail
      refine (numI_any _ _).mono ?_
      rintro e wq ⟨rfl, hwq⟩
      obtain rfl := hwq.symm
      go_wp2_with fail
      go_ret
      exact ⟨rfl, hB.out⟩
    have hn0 : (b == 0) = false := by simpa using c0
    clear c0
    clear ha hb
    go_enter Tryz.func28, Tryz.ntmps28
    go_upto_region 1 with fail
    generalize w.alloc (.cells #[.int .i64 0, .int .i64 4, .int .i64 0, .slice (some ⟨b1, o1, none⟩) 1 ac1, .slice A2 0 ac2, .slice A3 0 ac3, .slice A4 0 ac4, .int .i64 95] 29) = w1 at *
    have x0 : w1.cell? ⟨w.heap.size, 0, none⟩ = some (.int .i64 0) := ko.out.cell 0
    have x3 : w1.cell? ⟨w.heap.size, 3, none⟩ = some (.slice (some ⟨b1, o1, none⟩) 1 ac1) := ko.out.cell 3
    go_wp2_with fail
    refine (numI_any _ _).mono ?_
    rintro e wq ⟨rfl, hwq⟩
    obtain rfl := hwq.symm
    go_wp2_with fail
    refine (numI_any _ _).mono ?_
    rintro e wq ⟨rfl, hwq⟩
    obtain rfl := hwq.symm
    go_wp2_with fail
    go_ret
    exact ⟨rfl, hB.out⟩
  have d1 : decide (0 ≤ b) = false := decide_eq_false c1
  have d2 : decide (a ≤ n) = false := decide_eq_false (by omega)
  clear c1 h
  by_cases c0 : b = 0
  · have hn0 : (b == 0) = true := by simpa using c0
    clear c0
    clear ha hb
    go_enter Tryz.func28, Tryz.ntmps28
    go_upto_region 1 with fail
    generalize w.alloc (.cells #[.int .i64 0, .int .i64 4, .int .i64 0, .slice (some ⟨b1, o1, none⟩) 1 ac1, .slice A2 0 ac2, .slice A3 0 ac3, .slice A4 0 ac4, .int .i64 95] 29) = w1 at *
    have x0 : w1.cell? ⟨w.heap.size, 0, none⟩ = some (.int .i64 0) := ko.out.cell 0
    have x3 : w1.cell? ⟨w.heap.size, 3, none⟩ = some (.slice (some ⟨b1, o1, none⟩) 1 ac1) := ko.out.cell 3
    go_wp2_with fail
    refine (numI_any _ _).mono ?_
    rintro e wq ⟨rfl, hwq⟩
    obtain rfl := hwq.symm
    go_wp2_with fail
    refine (numI_any _ _).mono ?_
    rintro e wq ⟨rfl, hwq⟩
    obtain rfl := hwq.symm
    go_wp2_with fail
    go_ret
    exact ⟨rfl, hB.out⟩
  have hn0 : (b == 0) = false := by simpa using c0
  clear c0
  clear ha hb
  go_enter Tryz.func28, Tryz.ntmps28
  go_upto_region 1 with fail
  generalize w.alloc (.cells #[.int .i64 0, .int .i64 4, .int .i64 0, .slice (some ⟨b1, o1, none⟩) 1 ac1, .slice A2 0 ac2, .slice A3 0 ac3, .slice A4 0 ac4, .int .i64 95] 29) = w1 at *
  have x0 : w1.cell? ⟨w.heap.size, 0, none⟩ = some (.int .i64 0) := ko.out.cell 0
  have x3 : w1.cell? ⟨w.heap.size, 3, none⟩ = some (.slice (some ⟨b1, o1, none⟩) 1 ac1) := ko.out.cell 3
  go_wp2_with fail
  refine (numI_any _ _).mono ?_
  rintro e wq ⟨rfl, hwq⟩
  obtain rfl := hwq.symm
  go_wp2_with fail
  refine (numI_any _ _).mono ?_
  rintro e wq ⟨rfl, hwq⟩
  obtain rfl := hwq.symm
  go_wp2_with fail
  go_ret
  exact ⟨rfl, hB.out⟩
set_option maxRecDepth 100000 in
set_option maxHeartbeats 4000000 in
theorem right_subO {n : Int} {A1 A2 A3 A4 : Option Addr} {ac1 ac2 ac3 ac4 : Nat} (ha : inR a = true) (hb : inR b = true) (hr : Rd (fun _ => True) w 3 A1 1 (vcells [numVl n])) (h : n = a - b ∧ -9223372036854775808 ≤ n ∧ n ≤ 9223372036854775807) : Calls Tryz.prog 28 #[.int .i64 8, .int .i64 a, .int .i64 b, .agg #[.int .i64 0, .int .i64 4, .int .i64 0, .slice A1 1 ac1, .slice A2 0 ac2, .slice A3 0 ac3, .slice A4 0 ac4, .int .i64 95]] w fun e w' => e = .returned (.bool true) ∧ Below w.heap.size w w' := by
  rw [inR_iff] at ha hb
  have ko := hid (Blk.new w 29 #[.int .i64 0, .int .i64 4, .int .i64 0, .slice A1 1 ac1, .slice A2 0 ac2, .slice A3 0 ac3, .slice A4 0 ac4, .int .i64 95])
  have hB := hid ((Below.refl w.heap.size w).alloc (Nat.le_refl _) (.cells #[.int .i64 0, .int .i64 4, .int .i64 0, .slice A1 1 ac1, .slice A2 0 ac2, .slice A3 0 ac3, .slice A4 0 ac4, .int .i64 95] 29))
  obtain ⟨b1, o1, ho1, _, q9, q10, q11⟩ := (hr.alloc (.cells #[.int .i64 0, .int .i64 4, .int .i64 0, .slice A1 1 ac1, .slice A2 0 ac2, .slice A3 0 ac3, .slice A4 0 ac4, .int .i64 95] 29)).val_at (l := [numVl n]) (k := 0) (by show (0 : Nat) < 1; decide)
  simp only [Nat.zero_mul, Nat.add_zero] at q10
  have q1 : (w.alloc (.cells #[.int .i64 0, .int .i64 4, .int .i64 0, .slice A1 1 ac1, .slice A2 0 ac2, .slice A3 0 ac3, .slice A4 0 ac4, .int .i64 95] 29)).cell? ⟨b1, o1 + 1, none⟩ = some (.int .i64 n) := q10
  subst ho1
  clear hr q9 q10 q11
  have s1 : IntKind.i64.wrap (n + b) = a := by rw [IntKind.wrap_i64]; omega
  by_cases c1 : 0 ≤ b
  · have d1 : decide (0 ≤ b) = true := decide_eq_true c1
    have d2 : decide (n ≤ a) = true := decide_eq_true (by omega)
    clear c1 h
    by_cases c0 : b = 0
    · have hn0 : (b == 0) = true := by simpa using c0
      clear c0
      clear ha hb
      go_enter Tryz.func28, Tryz.ntmps28
      go_upto_region 1 with fail
      generalize w.alloc (.cells #[.int .i64 0, .int .i64 4, .int .i64 0, .slice (some ⟨b1, o1, none⟩) 1 ac1, .slice A2 0 ac2, .slice A3 0 ac3, .slice A4 0 ac4, .int .i64 95] 29) = w1 at *
      have x0 : w1.cell? ⟨w.heap.size, 0, none⟩ = some (.int .i64 0) := ko.out.cell 0
      have x3 : w1.cell? ⟨w.heap.size, 3, none⟩ = some (.slice (some ⟨b1, o1, none⟩) 1 ac1) := ko.out.cell 3
      go_wp2_with fail
      refine (numI_any _ _).mono ?_
      rintro e wq ⟨rfl, hwq⟩
      obtain rfl := hwq.symm
      go_wp2_with fail
      refine (numI_any _ _).mono ?_
      rintro e wq ⟨rfl, hwq⟩
      obtain rfl := hwq.symm
      go_wp2_with fail
      go_ret
      exact ⟨rfl, hB.out⟩
    have hn0 : (b == 0) = false := by simpa using c0
    clear c0
    clear ha hb
    go_enter Tryz.func28, Tryz.ntmps28
    go_upto_region 1 with fail
    generalize w.alloc (.cells #[.int .i64 0, .int .i64 4, .int .i64 0, .slice (some ⟨b1, o1, none⟩) 1 ac1, .slice A2 0 ac2, .slice A3 0 ac3, .slice A4 0 ac4, .int .i64 95] 29) = w1 at *
    have x0 : w1.cell? ⟨w.heap.size, 0, none⟩ = some (.int .i64 0) := ko.out.cell 0
    have x3 : w1.cell? ⟨w.heap.size, 3, none⟩ = some (.slice (some ⟨b1, o1, none⟩) 1 ac1) := ko.out.cell 3
    go_wp2_with fail
    refine (numI_any _ _).mono ?_
    rintro e wq ⟨rfl, hwq⟩
    obtain rfl := hwq.symm
    go_wp2_with fail
    refine (numI_any _ _).mono ?_
    rintro e wq ⟨rfl, hwq⟩
    obtain rfl := hwq.symm
    go_wp2_with fail
    go_ret
    exact ⟨rfl, hB.out⟩
  have d1 : decide (0 ≤ b) = false := decide_eq_false c1
  have d2 : decide (n ≤ a) = false := decide_eq_false (by omega)
  clear c1 h
  by_cases c0 : b = 0
  · have hn0 : (b == 0) = true := by simpa using c0
    clear c0
    clear ha hb
    go_enter Tryz.func28, Tryz.ntmps28
    go_upto_region 1 with fail
    generalize w.alloc (.cells #[.int .i64 0, .int .i64 4, .int .i64 0, .slice (some ⟨b1, o1, none⟩) 1 ac1, .slice A2 0 ac2, .slice A3 0 ac3, .slice A4 0 ac4, .int .i64 95] 29) = w1 at *
    have x0 : w1.cell? ⟨w.heap.size, 0, none⟩ = some (.int .i64 0) := ko.out.cell 0
    have x3 : w1.cell? ⟨w.heap.size, 3, none⟩ = some (.slice (some ⟨b1, o1, none⟩) 1 ac1) := ko.out.cell 3
    go_wp2_with fail
    refine (numI_any _ _).mono ?_
    rintro e wq ⟨rfl, hwq⟩
    obtain rfl := hwq.symm
    go_wp2_with fail
    refine (numI_any _ _).mono ?_
    rintro e wq ⟨rfl, hwq⟩
    obtain rfl := hwq.symm
    go_wp2_with fail
    go_ret
    exact ⟨rfl, hB.out⟩
  have hn0 : (b == 0) = false := by simpa using c0
  clear c0
  clear ha hb
  go_enter Tryz.func28, Tryz.ntmps28
  go_upto_region 1 with fail
  generalize w.alloc (.cells #[.int .i64 0, .int .i64 4, .int .i64 0, .slice (some ⟨b1, o1, none⟩) 1 ac1, .slice A2 0 ac2, .slice A3 0 ac3, .slice A4 0 ac4, .int .i64 95] 29) = w1 at *
  have x0 : w1.cell? ⟨w.heap.size, 0, none⟩ = some (.int .i64 0) := ko.out.cell 0
  have x3 : w1.cell? ⟨w.heap.size, 3, none⟩ = some (.slice (some ⟨b1, o1, none⟩) 1 ac1) := ko.out.cell 3
  go_wp2_with fail
  refine (numI_any _ _).mono ?_
  rintro e wq ⟨rfl, hwq⟩
  obtain rfl := hwq.symm
  go_wp2_with fail
  refine (numI_any _ _).mono ?_
  rintro e wq ⟨rfl, hwq⟩
  obtain rfl := hwq.symm
  go_wp2_with fail
  go_ret
  exact ⟨rfl, hB.out⟩
set_option maxRecDepth 100000 in
set_option maxHeartbeats 4000000 in
theorem right_mulO {n : Int} {A1 A2 A3 A4 : Option Addr} {ac1 ac2 ac3 ac4 : Nat} (ha : inR a = true) (hb : inR b = true) (hr : Rd (fun _ => True) w 3 A1 1 (vcells [numVl n])) (h : n = a * b ∧ -9223372036854775808 ≤ n ∧ n ≤ 9223372036854775807) : Calls Tryz.prog 28 #[.int .i64 9, .int .i64 a, .int .i64 b, .agg #[.int .i64 0, .int .i64 4, .int .i64 0, .slice A1 1 ac1, .slice A2 0 ac2, .slice A3 0 ac3, .slice A4 0 ac4, .int .i64 95]] w fun e w' => e = .returned (.bool true) ∧ Below w.heap.size w w' := by
  rw [inR_iff] at ha hb
  have ko := hid (Blk.new w 29 #[.int .i64 0, .int .i64 4, .int .i64 0, .slice A1 1 ac1, .slice A2 0 ac2, .slice A3 0 ac3, .slice A4 0 ac4, .int .i64 95])
  have hB := hid ((Below.refl w.heap.size w).alloc (Nat.le_refl _) (.cells #[.int .i64 0, .int .i64 4, .int .i64 0, .slice A1 1 ac1, .slice A2 0 ac2, .slice A3 0 ac3, .slice A4 0 ac4, .int .i64 95] 29))
  obtain ⟨b1, o1, ho1, _, q9, q10, q11⟩ := (hr.alloc (.cells #[.int .i64 0, .int .i64 4, .int .i64 0, .slice A1 1 ac1, .slice A2 0 ac2, .slice A3 0 ac3, .slice A4 0 ac4, .int .i64 95] 29)).val_at (l := [numVl n]) (k := 0) (by show (0 : Nat) < 1; decide)
  simp only [Nat.zero_mul, Nat.add_zero] at q10
  have q1 : (w.alloc (.cells #[.int .i64 0, .int .i64 4, .int .i64 0, .slice A1 1 ac1, .slice A2 0 ac2, .slice A3 0 ac3, .slice A4 0 ac4, .int .i64 95] 29)).cell? ⟨b1, o1 + 1, none⟩ = some (.int .i64 n) := q10
  subst ho1
  clear hr q9 q10 q11
  have s1 : IntKind.i64.wrap (a * b) = n := by rw [IntKind.wrap_i64, ← h.1]; omega
  by_cases c0 : b = 0
  · have hn0 : (b == 0) = true := by simpa using c0
    by_cases c1 : a = 0
    · have hn1 : (a == 0) = true := by simpa using c1
      clear c0 c1 h
      clear ha hb
      go_enter Tryz.func28, Tryz.ntmps28
      go_upto_region 1 with fail
      generalize w.alloc (.cells #[.int .i64 0, .int .i64 4, .int .i64 0, .slice (some ⟨b1, o1, none⟩) 1 ac1, .slice A2 0 ac2, .slice A3 0 ac3, .slice A4 0 ac4, .int .i64 95] 29) = w1 at *
      have x0 : w1.cell? ⟨w.heap.size, 0, none⟩ = some (.int .i64 0) := ko.out.cell 0
      have x3 : w1.cell? ⟨w.heap.size, 3, none⟩ = some (.slice (some ⟨b1, o1, none⟩) 1 ac1) := ko.out.cell 3
      go_wp2_with fail
      refine (numI_any _ _).mono ?_
      rintro e wq ⟨rfl, hwq⟩
      obtain rfl := hwq.symm
      go_wp2_with fail
      refine (numI_any _ _).mono ?_
      rintro e wq ⟨rfl, hwq⟩
      obtain rfl := hwq.symm
      go_wp2_with fail
      go_ret
      exact ⟨rfl, hB.out⟩
    have hn1 : (a == 0) = false := by simpa using c1
    clear c0 c1 h
    clear ha hb
    go_enter Tryz.func28, Tryz.ntmps28
    go_upto_region 1 with fail
    generalize w.alloc (.cells #[.int .i64 0, .int .i64 4, .int .i64 0, .slice (some ⟨b1, o1, none⟩) 1 ac1, .slice A2 0 ac2, .slice A3 0 ac3, .slice A4 0 ac4, .int .i64 95] 29) = w1 at *
    have x0 : w1.cell? ⟨w.heap.size, 0, none⟩ = some (.int .i64 0) := ko.out.cell 0
    have x3 : w1.cell? ⟨w.heap.size, 3, none⟩ = some (.slice (some ⟨b1, o1, none⟩) 1 ac1) := ko.out.cell 3
    go_wp2_with fail
    refine (numI_any _ _).mono ?_
    rintro e wq ⟨rfl, hwq⟩
    obtain rfl := hwq.symm
    go_wp2_with fail
    refine (numI_any _ _).mono ?_
    rintro e wq ⟨rfl, hwq⟩
    obtain rfl := hwq.symm
    go_wp2_with fail
    go_ret
    exact ⟨rfl, hB.out⟩
  have hn0 : (b == 0) = false := by simpa using c0
  by_cases c1 : a = 0
  · have hn1 : (a == 0) = true := by simpa using c1
    clear c0 c1 h
    clear ha hb
    go_enter Tryz.func28, Tryz.ntmps28
    go_upto_region 1 with fail
    generalize w.alloc (.cells #[.int .i64 0, .int .i64 4, .int .i64 0, .slice (some ⟨b1, o1, none⟩) 1 ac1, .slice A2 0 ac2, .slice A3 0 ac3, .slice A4 0 ac4, .int .i64 95] 29) = w1 at *
    have x0 : w1.cell? ⟨w.heap.size, 0, none⟩ = some (.int .i64 0) := ko.out.cell 0
    have x3 : w1.cell? ⟨w.heap.size, 3, none⟩ = some (.slice (some ⟨b1, o1, none⟩) 1 ac1) := ko.out.cell 3
    go_wp2_with fail
    refine (numI_any _ _).mono ?_
    rintro e wq ⟨rfl, hwq⟩
    obtain rfl := hwq.symm
    go_wp2_with fail
    refine (numI_any _ _).mono ?_
    rintro e wq ⟨rfl, hwq⟩
    obtain rfl := hwq.symm
    go_wp2_with fail
    go_ret
    exact ⟨rfl, hB.out⟩
  have hn1 : (a == 0) = false := by simpa using c1
  have s2 : IntKind.i64.wrap (n.tdiv b) = a := by
    rw [h.1, Int.mul_tdiv_cancel _ c0, IntKind.wrap_i64]; omega
  have e1 : a = -1 → b ≠ -9223372036854775808 := fun e1 e2 => by subst e1 e2; omega
  have e2 : b = -1 → a ≠ -9223372036854775808 := fun e1 e2 => by subst e1 e2; omega
  cases d1 : (a == -1) with
  | true =>
    have d2 : (b == -9223372036854775808) = false := by simpa using e1 (by simpa using d1)
    cases d3 : (b == -1) with
    | true =>
      have d4 : (a == -9223372036854775808) = false := by simpa using e2 (by simpa using d3)
      clear c1 h e1 e2
      clear ha hb
      go_enter Tryz.func28, Tryz.ntmps28
      go_upto_region 1 with fail
      generalize w.alloc (.cells #[.int .i64 0, .int .i64 4, .int .i64 0, .slice (some ⟨b1, o1, none⟩) 1 ac1, .slice A2 0 ac2, .slice A3 0 ac3, .slice A4 0 ac4, .int .i64 95] 29) = w1 at *
      have x0 : w1.cell? ⟨w.heap.size, 0, none⟩ = some (.int .i64 0) := ko.out.cell 0
      have x3 : w1.cell? ⟨w.heap.size, 3, none⟩ = some (.slice (some ⟨b1, o1, none⟩) 1 ac1) := ko.out.cell 3
      go_wp2_with fail
      refine (numI_any _ _).mono ?_
      rintro e wq ⟨rfl, hwq⟩
      obtain rfl := hwq.symm
      go_wp2_with fail
      refine (numI_any _ _).mono ?_
      rintro e wq ⟨rfl, hwq⟩
      obtain rfl := hwq.symm
      go_wp2_with fail
      go_ret
      exact ⟨rfl, hB.out⟩
    | false =>
      clear c1 h e1 e2
      clear ha hb
      go_enter Tryz.func28, Tryz.ntmps28
      go_upto_region 1 with fail
      generalize w.alloc (.cells #[.int .i64 0, .int .i64 4, .int .i64 0, .slice (some ⟨b1, o1, none⟩) 1 ac1, .slice A2 0 ac2, .slice A3 0 ac3, .slice A4 0 ac4, .int .i64 95] 29) = w1 at *
      have x0 : w1.cell? ⟨w.heap.size, 0, none⟩ = some (.int .i64 0) := ko.out.cell 0
      have x3 : w1.cell? ⟨w.heap.size, 3, none⟩ = some (.slice (some ⟨b1, o1, none⟩) 1 ac1) := ko.out.cell 3
      go_wp2_with fail
      refine (numI_any _ _).mono ?_
      rintro e wq ⟨rfl, hwq⟩
      obtain rfl := hwq.symm
      go_wp2_with fail
      refine (numI_any _ _).mono ?_
      rintro e wq ⟨rfl, hwq⟩
      obtain rfl := hwq.symm
      go_wp2_with fail
      go_ret
      exact ⟨rfl, hB.out⟩
  | false =>
    cases d3 : (b == -1) with
    | true =>
      have d4 : (a == -9223372036854775808) = false := by simpa using e2 (by simpa using d3)
      clear c1 h e1 e2
      clear ha hb
      go_enter Tryz.func28, Tryz.ntmps28
      go_upto_region 1 with fail
      generalize w.alloc (.cells #[.int .i64 0, .int .i64 4, .int .i64 0, .slice (some ⟨b1, o1, none⟩) 1 ac1, .slice A2 0 ac2, .slice A3 0 ac3, .slice A4 0 ac4, .int .i64 95] 29) = w1 at *
      have x0 : w1.cell? ⟨w.heap.size, 0, none⟩ = some (.int .i64 0) := ko.out.cell 0
      have x3 : w1.cell? ⟨w.heap.size, 3, none⟩ = some (.slice (some ⟨b1, o1, none⟩) 1 ac1) := ko.out.cell 3
      go_wp2_with fail
      refine (numI_any _ _).mono ?_
      rintro e wq ⟨rfl, hwq⟩
      obtain rfl := hwq.symm
      go_wp2_with fail
      refine (numI_any _ _).mono ?_
      rintro e wq ⟨rfl, hwq⟩
      obtain rfl := hwq.symm
      go_wp2_with fail
      go_ret
      exact ⟨rfl, hB.out⟩
    | false =>
      clear c1 h e1 e2
      clear ha hb
      go_enter Tryz.func28, Tryz.ntmps28
      go_upto_region 1 with fail
      generalize w.alloc (.cells #[.int .i64 0, .int .i64 4, .int .i64 0, .slice (some ⟨b1, o1, none⟩) 1 ac1, .slice A2 0 ac2, .slice A3 0 ac3, .slice A4 0 ac4, .int .i64 95] 29) = w1 at *
      have x0 : w1.cell? ⟨w.heap.size, 0, none⟩ = some (.int .i64 0) := ko.out.cell 0
      have x3 : w1.cell? ⟨w.heap.size, 3, none⟩ = some (.slice (some ⟨b1, o1, none⟩) 1 ac1) := ko.out.cell 3
      go_wp2_with fail
      refine (numI_any _ _).mono ?_
      rintro e wq ⟨rfl, hwq⟩
      obtain rfl := hwq.symm
      go_wp2_with fail
      refine (numI_any _ _).mono ?_
      rintro e wq ⟨rfl, hwq⟩
      obtain rfl := hwq.symm
      go_wp2_with fail
      go_ret
      exact ⟨rfl, hB.out⟩
set_option maxRecDepth 100000 in
set_option maxHeartbeats 4000000 in
theorem right_divO {n : Int} {A1 A2 A3 A4 : Option Addr} {ac1 ac2 ac3 ac4 : Nat} (ha : inR a = true) (hb : inR b = true) (hr : Rd (fun _ => True) w 3 A1 1 (vcells [numVl n])) (h : b ≠ 0 ∧ ¬ (a = -9223372036854775808 ∧ b = -1) ∧ n = a.tdiv b) : Calls Tryz.prog 28 #[.int .i64 10, .int .i64 a, .int .i64 b, .agg #[.int .i64 0, .int .i64 4, .int .i64 0, .slice A1 1 ac1, .slice A2 0 ac2, .slice A3 0 ac3, .slice A4 0 ac4, .int .i64 95]] w fun e w' => e = .returned (.bool true) ∧ Below w.heap.size w w' := by
  rw [inR_iff] at ha hb
  have ko := hid (Blk.new w 29 #[.int .i64 0, .int .i64 4, .int .i64 0, .slice A1 1 ac1, .slice A2 0 ac2, .slice A3 0 ac3, .slice A4 0 ac4, .int .i64 95])
  have hB := hid ((Below.refl w.heap.size w).alloc (Nat.le_refl _) (.cells #[.int .i64 0, .int .i64 4, .int .i64 0, .slice A1 1 ac1, .slice A2 0 ac2, .slice A3 0 ac3, .slice A4 0 ac4, .int .i64 95] 29))
  obtain ⟨b1, o1, ho1, _, q9, q10, q11⟩ := (hr.alloc (.cells #[.int .i64 0, .int .i64 4, .int .i64 0, .slice A1 1 ac1, .slice A2 0 ac2, .slice A3 0 ac3, .slice A4 0 ac4, .int .i64 95] 29)).val_at (l := [numVl n]) (k := 0) (by show (0 : Nat) < 1; decide)
  simp only [Nat.zero_mul, Nat.add_zero] at q10
  have q1 : (w.alloc (.cells #[.int .i64 0, .int .i64 4, .int .i64 0, .slice A1 1 ac1, .slice A2 0 ac2, .slice A3 0 ac3, .slice A4 0 ac4, .int .i64 95] 29)).cell? ⟨b1, o1 + 1, none⟩ = some (.int .i64 n) := q10
  subst ho1
  clear hr q9 q10 q11
  have hn0 : (b == 0) = false := by simpa using h.1
  have hbn : ¬ b = 0 := h.1
  have s1 : IntKind.i64.wrap (a.tdiv b) = n := by
    rw [h.2.2, IntKind.wrap_i64]
    have hab : (a.tdiv b).natAbs ≤ a.natAbs := Int.natAbs_tdiv_le_natAbs a b
    by_cases e : a.tdiv b = 9223372036854775808
    · exfalso
      have h1 := Int.mul_tdiv_add_tmod a b
      rw [e] at h1
      have h2 : (a.tmod b).natAbs < b.natAbs := by
        rw [Int.natAbs_tmod]; exact Nat.mod_lt _ (by omega)
      have : a = -9223372036854775808 ∧ b = -1 := by omega
      exact h.2.1 this
    · omega
  cases d1 : (a == -9223372036854775808) with
  | true =>
    have d2 : (b == -1) = false := by
      have e : a = -9223372036854775808 := by simpa using d1
      have := h.2.1
      simp only [beq_eq_false_iff_ne, ne_eq]
      omega
    clear h
    clear ha hb
    go_enter Tryz.func28, Tryz.ntmps28
    go_upto_region 1 with fail
    generalize w.alloc (.cells #[.int .i64 0, .int .i64 4, .int .i64 0, .slice (some ⟨b1, o1, none⟩) 1 ac1, .slice A2 0 ac2, .slice A3 0 ac3, .slice A4 0 ac4, .int .i64 95] 29) = w1 at *
    have x0 : w1.cell? ⟨w.heap.size, 0, none⟩ = some (.int .i64 0) := ko.out.cell 0
    have x3 : w1.cell? ⟨w.heap.size, 3, none⟩ = some (.slice (some ⟨b1, o1, none⟩) 1 ac1) := ko.out.cell 3
    go_wp2_with fail
    refine (numI_any _ _).mono ?_
    rintro e wq ⟨rfl, hwq⟩
    obtain rfl := hwq.symm
    go_wp2_with fail
    refine (numI_any _ _).mono ?_
    rintro e wq ⟨rfl, hwq⟩
    obtain rfl := hwq.symm
    go_wp2_with fail
    go_ret
    exact ⟨rfl, hB.out⟩
  | false =>
    clear h
    clear ha hb
    go_enter Tryz.func28, Tryz.ntmps28
    go_upto_region 1 with fail
    generalize w.alloc (.cells #[.int .i64 0, .int .i64 4, .int .i64 0, .slice (some ⟨b1, o1, none⟩) 1 ac1, .slice A2 0 ac2, .slice A3 0 ac3, .slice A4 0 ac4, .int .i64 95] 29) = w1 at *
    have x0 : w1.cell? ⟨w.heap.size, 0, none⟩ = some (.int .i64 0) := ko.out.cell 0
    have x3 : w1.cell? ⟨w.heap.size, 3, none⟩ = some (.slice (some ⟨b1, o1, none⟩) 1 ac1) := ko.out.cell 3
    go_wp2_with fail
    refine (numI_any _ _).mono ?_
    rintro e wq ⟨rfl, hwq⟩
    obtain rfl := hwq.symm
    go_wp2_with fail
    refine (numI_any _ _).mono ?_
    rintro e wq ⟨rfl, hwq⟩
    obtain rfl := hwq.symm
    go_wp2_with fail
    go_ret
    exact ⟨rfl, hB.out⟩
set_option maxRecDepth 100000 in
set_option maxHeartbeats 4000000 in
theorem right_modO {n : Int} {A1 A2 A3 A4 : Option Addr} {ac1 ac2 ac3 ac4 : Nat} (ha : inR a = true) (hb : inR b = true) (hr : Rd (fun _ => True) w 3 A1 1 (vcells [numVl n])) (h : b ≠ 0 ∧ n = a.tmod b) : Calls Tryz.prog 28 #[.int .i64 11, .int .i64 a, .int .i64 b, .agg #[.int .i64 0, .int .i64 4, .int .i64 0, .slice A1 1 ac1, .slice A2 0 ac2, .slice A3 0 ac3, .slice A4 0 ac4, .int .i64 95]] w fun e w' => e = .returned (.bool true) ∧ Below w.heap.size w w' := by
  rw [inR_iff] at ha hb
  have ko := hid (Blk.new w 29 #[.int .i64 0, .int .i64 4, .int .i64 0, .slice A1 1 ac1, .slice A2 0 ac2, .slice A3 0 ac3, .slice A4 0 ac4, .int .i64 95])
  have hB := hid ((Below.refl w.heap.size w).alloc (Nat.le_refl _) (.cells #[.int .i64 0, .int .i64 4, .int .i64 0, .slice A1 1 ac1, .slice A2 0 ac2, .slice A3 0 ac3, .slice A4 0 ac4, .int .i64 95] 29))
  obtain ⟨b1, o1, ho1, _, q9, q10, q11⟩ := (hr.alloc (.cells #[.int .i64 0, .int .i64 4, .int .i64 0, .slice A1 1 ac1, .slice A2 0 ac2, .slice A3 0 ac3, .slice A4 0 ac4, .int .i64 95] 29)).val_at (l := [numVl n]) (k := 0) (by show (0 : Nat) < 1; decide)
  simp only [Nat.zero_mul, Nat.add_zero] at q10
  have q1 : (w.alloc (.cells #[.int .i64 0, .int .i64 4, .int .i64 0, .slice A1 1 ac1, .slice A2 0 ac2, .slice A3 0 ac3, .slice A4 0 ac4, .int .i64 95] 29)).cell? ⟨b1, o1 + 1, none⟩ = some (.int .i64 n) := q10
  subst ho1
  clear hr q9 q10 q11
  have hn0 : (b == 0) = false := by simpa using h.1
  have hbn : ¬ b = 0 := h.1
  have s1 : a.tmod b = n := h.2.symm
  cases d1 : (b == -1) with
  | true =>
    have d2 : (n == 0) = true := by
      have e : b = -1 := by simpa using d1
      have h2 := h.2
      rw [e, Int.tmod_neg, Int.tmod_one] at h2
      simpa using h2
    have d3 : (b != -1) = false := by simpa using d1
    clear h
    clear ha hb
    go_enter Tryz.func28, Tryz.ntmps28
    go_upto_region 1 with fail
    generalize w.alloc (.cells #[.int .i64 0, .int .i64 4, .int .i64 0, .slice (some ⟨b1, o1, none⟩) 1 ac1, .slice A2 0 ac2, .slice A3 0 ac3, .slice A4 0 ac4, .int .i64 95] 29) = w1 at *
    have x0 : w1.cell? ⟨w.heap.size, 0, none⟩ = some (.int .i64 0) := ko.out.cell 0
    have x3 : w1.cell? ⟨w.heap.size, 3, none⟩ = some (.slice (some ⟨b1, o1, none⟩) 1 ac1) := ko.out.cell 3
    go_wp2_with fail
    refine (numI_any _ _).mono ?_
    rintro e wq ⟨rfl, hwq⟩
    obtain rfl := hwq.symm
    go_wp2_with fail
    refine (numI_any _ _).mono ?_
    rintro e wq ⟨rfl, hwq⟩
    obtain rfl := hwq.symm
    go_wp2_with fail
    go_ret
    exact ⟨rfl, hB.out⟩
  | false =>
    have d3 : (b != -1) = true := by simpa using d1
    clear h
    clear ha hb
    go_enter Tryz.func28, Tryz.ntmps28
    go_upto_region 1 with fail
    generalize w.alloc (.cells #[.int .i64 0, .int .i64 4, .int .i64 0, .slice (some ⟨b1, o1, none⟩) 1 ac1, .slice A2 0 ac2, .slice A3 0 ac3, .slice A4 0 ac4, .int .i64 95] 29) = w1 at *
    have x0 : w1.cell? ⟨w.heap.size, 0, none⟩ = some (.int .i64 0) := ko.out.cell 0
    have x3 : w1.cell? ⟨w.heap.size, 3, none⟩ = some (.slice (some ⟨b1, o1, none⟩) 1 ac1) := ko.out.cell 3
    go_wp2_with fail
    refine (numI_any _ _).mono ?_
    rintro e wq ⟨rfl, hwq⟩
    obtain rfl := hwq.symm
    go_wp2_with fail
    refine (numI_any _ _).mono ?_
    rintro e wq ⟨rfl, hwq⟩
    obtain rfl := hwq.symm
    go_wp2_with fail
    go_ret
    exact ⟨rfl, hB.out⟩
end
end Go.Proofs.YtdmogoaaecdbaaaGreatDoor

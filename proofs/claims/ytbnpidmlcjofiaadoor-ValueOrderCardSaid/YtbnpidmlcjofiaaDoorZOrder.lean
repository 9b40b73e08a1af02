/- value: ValueOrder: the walk. -/
import Derived.Test.YtbnpidmlcjofiaaDoorJ12
namespace Go.Proofs.YtbnpidmlcjofiaaDoor
open Go.RowKit
set_option linter.unusedVariables false
set_option linter.unusedSimpArgs false

def cmpV (k n : Int) (s : ByteArray) (k' n' : Int) (s' : ByteArray) : Int := Vl.cmp ⟨k, n, s⟩ ⟨k', n', s'⟩
theorem compare_g (k n : Int) (s : ByteArray) (k' n' : Int) (s' : ByteArray) (w : World) : Calls Tryd.prog 27 #[.agg #[.int .i64 k, .int .i64 n, .string s], .agg #[.int .i64 k', .int .i64 n', .string s']] w fun e w' => e = .returned (.int .i64 (cmpV k n s k' n' s')) ∧ Below w.heap.size w w' := compare_any ⟨k, n, s⟩ ⟨k', n', s'⟩ w
theorem ord_law (a b c : Vl) : (Vl.cmp a b ≤ 0 → Vl.cmp b c ≤ 0 → Vl.cmp a c ≤ 0) ∧ (Vl.cmp a b < 0 → Vl.cmp b c ≤ 0 → Vl.cmp a c < 0) ∧ (Vl.cmp a b ≤ 0 → Vl.cmp b c < 0 → Vl.cmp a c < 0) := by
  have r1 := ord_vl.rng a b
  have r2 := ord_vl.rng b c
  have r3 := ord_vl.rng a c
  have t := ord_vl.trans a b c
  have z1 := (ord_vl.zero a b).1
  have z2 := (ord_vl.zero b c).1
  rcases r1 with h | h | h
  · rcases r2 with h2 | h2 | h2
    · have := t h h2; omega
    · have e := z2 h2; subst e; omega
    · omega
  · have e := z1 h; subst e; omega
  · omega

set_option maxRecDepth 100000 in
set_option maxHeartbeats 8000000 in
theorem order_walk (a b c : Vl) (w : World) (he : Env w) : Calls Tryd.prog 8 #[.agg #[.int .i64 a.k, .int .i64 a.n, .string a.s], .agg #[.int .i64 b.k, .int .i64 b.n, .string b.s], .agg #[.int .i64 c.k, .int .i64 c.n, .string c.s]] w fun e w' => e = .returned (.bool true) ∧ Below w.heap.size w w' := by
  obtain ⟨W, hW⟩ : ∃ W, W = ((w.alloc (.cells #[.int .i64 a.k, .int .i64 a.n, .string a.s] 24)).alloc (.cells #[.int .i64 b.k, .int .i64 b.n, .string b.s] 24)).alloc (.cells #[.int .i64 c.k, .int .i64 c.n, .string c.s] 24) := ⟨_, rfl⟩
  have hB0 : Hid (Below w.heap.size w W) := hid (by subst hW; exact (((Below.refl _ _).alloc (Nat.le_refl _) _).alloc (by simp) _).alloc (by simp; omega) _)
  have k0 : Hid (Blk W w.heap.size 24 #[.int .i64 a.k, .int .i64 a.n, .string a.s]) := hid (by subst hW; exact ((Blk.new w _ _).alloc _).alloc _)
  have k1 : Hid (Blk W (w.heap.size + 1) 24 #[.int .i64 b.k, .int .i64 b.n, .string b.s]) := hid (by subst hW; exact (Blk.new' _ _ _ (by simp)).alloc _)
  have k2 : Hid (Blk W (w.heap.size + 1 + 1) 24 #[.int .i64 c.k, .int .i64 c.n, .string c.s]) := hid (by subst hW; exact Blk.new' _ _ _ (by simp))
  have hkeep := hid (show ∀ W', Below W.heap.size W W' → W'.cell? ⟨w.heap.size, 0, none⟩ = some (.int .i64 a.k) ∧ W'.cell? ⟨w.heap.size, 1, none⟩ = some (.int .i64 a.n) ∧ W'.cell? ⟨w.heap.size, 2, none⟩ = some (.string a.s) ∧ W'.cell? ⟨w.heap.size + 1, 0, none⟩ = some (.int .i64 b.k) ∧ W'.cell? ⟨w.heap.size + 1, 1, none⟩ = some (.int .i64 b.n) ∧ W'.cell? ⟨w.heap.size + 1, 2, none⟩ = some (.string b.s) ∧ W'.cell? ⟨w.heap.size + 1 + 1, 0, none⟩ = some (.int .i64 c.k) ∧ W'.cell? ⟨w.heap.size + 1 + 1, 1, none⟩ = some (.int .i64 c.n) ∧ W'.cell? ⟨w.heap.size + 1 + 1, 2, none⟩ = some (.string c.s) from fun W' hb => by
    have h0 := k0.out.below_all hb
    have h1 := k1.out.below_all hb
    have h2 := k2.out.below_all hb
    exact ⟨h0.cell 0, h0.cell 1, h0.cell 2, h1.cell 0, h1.cell 1, h1.cell 2, h2.cell 0, h2.cell 1, h2.cell 2⟩)
  obtain ⟨x0, x1, x2, y0, y1, y2, z0, z1, z2⟩ := hkeep.out W (Below.refl _ _)
  obtain ⟨X, hX⟩ : ∃ X, X = Vl.cmp a b := ⟨_, rfl⟩
  obtain ⟨Y, hY⟩ : ∃ Y, Y = Vl.cmp b c := ⟨_, rfl⟩
  obtain ⟨Z, hZ⟩ : ∃ Z, Z = Vl.cmp a c := ⟨_, rfl⟩
  have cab : cmpV a.k a.n a.s b.k b.n b.s = X := hX.symm
  have cbc : cmpV b.k b.n b.s c.k c.n c.s = Y := hY.symm
  have cac : cmpV a.k a.n a.s c.k c.n c.s = Z := hZ.symm
  have cba : cmpV b.k b.n b.s a.k a.n a.s = -X := by rw [hX, ← ord_vl.anti]; rfl
  have rX : Hid (X = -1 ∨ X = 0 ∨ X = 1) := hid (hX ▸ ord_vl.rng a b)
  have rY : Hid (Y = -1 ∨ Y = 0 ∨ Y = 1) := hid (hY ▸ ord_vl.rng b c)
  have rZ : Hid (Z = -1 ∨ Z = 0 ∨ Z = 1) := hid (hZ ▸ ord_vl.rng a c)
  have hlaw : Hid ((X ≤ 0 → Y ≤ 0 → Z ≤ 0) ∧ (X < 0 → Y ≤ 0 → Z < 0) ∧ (X ≤ 0 → Y < 0 → Z < 0)) := hid (by have := ord_law a b c; rw [← hX, ← hY, ← hZ] at this; exact this)
  have hze : Hid (X = 0 ↔ a = b) := hid (by rw [hX]; exact ord_vl.zero a b)
  have hbX : Hid (Below W.heap.size W W) := hid (Below.refl _ _)
  have he0 := hid (he.below hB0.out)
  clear hX hY hZ he
  go_enter Tryd.func8, Tryd.ntmps8
  go_upto_region 1 with fail
  rw [← hW]
  clear hW
  go_region_held3 (fun W' => W'.cell? ⟨w.heap.size, 0, none⟩ = some (.int .i64 a.k) ∧ W'.cell? ⟨w.heap.size, 1, none⟩ = some (.int .i64 a.n) ∧ W'.cell? ⟨w.heap.size, 2, none⟩ = some (.string a.s) ∧ W'.cell? ⟨w.heap.size + 1, 0, none⟩ = some (.int .i64 b.k) ∧ W'.cell? ⟨w.heap.size + 1, 1, none⟩ = some (.int .i64 b.n) ∧ W'.cell? ⟨w.heap.size + 1, 2, none⟩ = some (.string b.s) ∧ W'.cell? ⟨w.heap.size + 1 + 1, 0, none⟩ = some (.int .i64 c.k) ∧ W'.cell? ⟨w.heap.size + 1 + 1, 1, none⟩ = some (.int .i64 c.n) ∧ W'.cell? ⟨w.heap.size + 1 + 1, 2, none⟩ = some (.string c.s)) (first | exact hkeep.out _ hbX.out | exact hkeep.out _ hbX.out.drew)
    ((go_at_call 27; refine (compare_g _ _ _ _ _ _ _).mono ?_; rintro e wb ⟨rfl, hbb⟩; have hbX : Hid (Below W.heap.size W wb) := hid (by first | exact hbX.out.trans (hbb.mono hbX.out.size) | exact hbX.out.drew.trans (hbb.mono hbX.out.size)); clear hbb))
  all_goals
    go_upto_region 2 with fail
    try simp only [cab, cbc, cac]
    clear cab cbc cac
    have hgd := guardVal
    rcases rX.out with h | h | h
    · have hD : decide (a = b) = false := by rw [decide_eq_false_iff_not]; intro e; have := hze.out.2 e; omega
      have cbb : ∀ w, Calls Tryd.prog 27 #[.agg #[.int .i64 b.k, .int .i64 b.n, .string b.s], .agg #[.int .i64 a.k, .int .i64 a.n, .string a.s]] w fun e w' => e = .returned (.int .i64 (1)) ∧ Below w.heap.size w w' := fun w => by
        have := compare_g b.k b.n b.s a.k a.n a.s w
        rw [cba, h] at this
        exact this
      have cbb := hid cbb
      have heqv := fun w => eql_vals a b w
      have heqw := fun w => run_eqVal a b w
      have hequ := hid (fun w => equal_any a b w)
      rw [hD] at hequ
      simp only [hD] at heqv heqw
      subst h
      clear hD hze cba
      go_region_held3 (fun W' => W'.cell? ⟨w.heap.size, 0, none⟩ = some (.int .i64 a.k) ∧ W'.cell? ⟨w.heap.size, 1, none⟩ = some (.int .i64 a.n) ∧ W'.cell? ⟨w.heap.size, 2, none⟩ = some (.string a.s) ∧ W'.cell? ⟨w.heap.size + 1, 0, none⟩ = some (.int .i64 b.k) ∧ W'.cell? ⟨w.heap.size + 1, 1, none⟩ = some (.int .i64 b.n) ∧ W'.cell? ⟨w.heap.size + 1, 2, none⟩ = some (.string b.s) ∧ W'.cell? ⟨w.heap.size + 1 + 1, 0, none⟩ = some (.int .i64 c.k) ∧ W'.cell? ⟨w.heap.size + 1 + 1, 1, none⟩ = some (.int .i64 c.n) ∧ W'.cell? ⟨w.heap.size + 1 + 1, 2, none⟩ = some (.string c.s)) (first | exact hkeep.out _ hbX.out | exact hkeep.out _ hbX.out.drew)
        ((first
          | (go_at_call 27; refine (cbb.out _).mono ?_; rintro e wb ⟨rfl, hbb⟩; have hbX : Hid (Below W.heap.size W wb) := hid (by first | exact hbX.out.trans (hbb.mono hbX.out.size) | exact hbX.out.drew.trans (hbb.mono hbX.out.size)); clear hbb)
          | (go_at_call 28; refine (hequ.out _).mono ?_; rintro e wb ⟨rfl, hbb⟩; have hbX : Hid (Below W.heap.size W wb) := hid (by first | exact hbX.out.trans (hbb.mono hbX.out.size) | exact hbX.out.drew.trans (hbb.mono hbX.out.size)); clear hbb)
          | (rw [if_pos (by rfl)]; go_simp; go_at_call 28; refine (hequ.out _).mono ?_; rintro e wb ⟨rfl, hbb⟩; have hbX : Hid (Below W.heap.size W wb) := hid (by first | exact hbX.out.trans (hbb.mono hbX.out.size) | exact hbX.out.drew.trans (hbb.mono hbX.out.size)); clear hbb; go_wp2_with fail)))
      all_goals
        clear heqv heqw hgd x0 x1 x2 y0 y1 y2 z0 z1 z2
        go_upto_region 4 with fail
        have hlv := hid (live_any _ (he0.out.below hbX.out))
        have hlw := hlaw.out
        rcases rY.out with h1 | h1 | h1 <;> rcases rZ.out with h2 | h2 | h2 <;> subst h1 h2 <;> first
          | (exfalso; omega)
          | (clear hlw hlaw rY rZ rX; go_wp2_with fail; refine hlv.out.mono ?_; rintro e w9 ⟨rfl, hb9⟩; go_wp2_with fail; go_ret; exact ⟨rfl, hB0.out.trans ((hbX.out.trans (hb9.mono hbX.out.size)).mono hB0.out.size)⟩)
    · have hD : decide (a = b) = true := by rw [decide_eq_true_eq]; exact hze.out.1 h
      have cbb : ∀ w, Calls Tryd.prog 27 #[.agg #[.int .i64 b.k, .int .i64 b.n, .string b.s], .agg #[.int .i64 a.k, .int .i64 a.n, .string a.s]] w fun e w' => e = .returned (.int .i64 (0)) ∧ Below w.heap.size w w' := fun w => by
        have := compare_g b.k b.n b.s a.k a.n a.s w
        rw [cba, h] at this
        exact this
      have cbb := hid cbb
      have heqv := fun w => eql_vals a b w
      have heqw := fun w => run_eqVal a b w
      have hequ := hid (fun w => equal_any a b w)
      rw [hD] at hequ
      simp only [hD] at heqv heqw
      subst h
      clear hD hze cba
      go_region_held3 (fun W' => W'.cell? ⟨w.heap.size, 0, none⟩ = some (.int .i64 a.k) ∧ W'.cell? ⟨w.heap.size, 1, none⟩ = some (.int .i64 a.n) ∧ W'.cell? ⟨w.heap.size, 2, none⟩ = some (.string a.s) ∧ W'.cell? ⟨w.heap.size + 1, 0, none⟩ = some (.int .i64 b.k) ∧ W'.cell? ⟨w.heap.size + 1, 1, none⟩ = some (.int .i64 b.n) ∧ W'.cell? ⟨w.heap.size + 1, 2, none⟩ = some (.string b.s) ∧ W'.cell? ⟨w.heap.size + 1 + 1, 0, none⟩ = some (.int .i64 c.k) ∧ W'.cell? ⟨w.heap.size + 1 + 1, 1, none⟩ = some (.int .i64 c.n) ∧ W'.cell? ⟨w.heap.size + 1 + 1, 2, none⟩ = some (.string c.s)) (first | exact hkeep.out _ hbX.out | exact hkeep.out _ hbX.out.drew)
        ((first
          | (go_at_call 27; refine (cbb.out _).mono ?_; rintro e wb ⟨rfl, hbb⟩; have hbX : Hid (Below W.heap.size W wb) := hid (by first | exact hbX.out.trans (hbb.mono hbX.out.size) | exact hbX.out.drew.trans (hbb.mono hbX.out.size)); clear hbb)
          | (go_at_call 28; refine (hequ.out _).mono ?_; rintro e wb ⟨rfl, hbb⟩; have hbX : Hid (Below W.heap.size W wb) := hid (by first | exact hbX.out.trans (hbb.mono hbX.out.size) | exact hbX.out.drew.trans (hbb.mono hbX.out.size)); clear hbb)
          | (rw [if_pos (by rfl)]; go_simp; go_at_call 28; refine (hequ.out _).mono ?_; rintro e wb ⟨rfl, hbb⟩; have hbX : Hid (Below W.heap.size W wb) := hid (by first | exact hbX.out.trans (hbb.mono hbX.out.size) | exact hbX.out.drew.trans (hbb.mono hbX.out.size)); clear hbb; go_wp2_with fail)))
      all_goals
        clear heqv heqw hgd x0 x1 x2 y0 y1 y2 z0 z1 z2
        go_upto_region 4 with fail
        have hlv := hid (live_any _ (he0.out.below hbX.out))
        have hlw := hlaw.out
        rcases rY.out with h1 | h1 | h1 <;> rcases rZ.out with h2 | h2 | h2 <;> subst h1 h2 <;> first
          | (exfalso; omega)
          | (clear hlw hlaw rY rZ rX; go_wp2_with fail; refine hlv.out.mono ?_; rintro e w9 ⟨rfl, hb9⟩; go_wp2_with fail; go_ret; exact ⟨rfl, hB0.out.trans ((hbX.out.trans (hb9.mono hbX.out.size)).mono hB0.out.size)⟩)
    · have hD : decide (a = b) = false := by rw [decide_eq_false_iff_not]; intro e; have := hze.out.2 e; omega
      have cbb : ∀ w, Calls Tryd.prog 27 #[.agg #[.int .i64 b.k, .int .i64 b.n, .string b.s], .agg #[.int .i64 a.k, .int .i64 a.n, .string a.s]] w fun e w' => e = .returned (.int .i64 (-1)) ∧ Below w.heap.size w w' := fun w => by
        have := compare_g b.k b.n b.s a.k a.n a.s w
        rw [cba, h] at this
        exact this
      have cbb := hid cbb
      have heqv := fun w => eql_vals a b w
      have heqw := fun w => run_eqVal a b w
      have hequ := hid (fun w => equal_any a b w)
      rw [hD] at hequ
      simp only [hD] at heqv heqw
      subst h
      clear hD hze cba
      go_region_held3 (fun W' => W'.cell? ⟨w.heap.size, 0, none⟩ = some (.int .i64 a.k) ∧ W'.cell? ⟨w.heap.size, 1, none⟩ = some (.int .i64 a.n) ∧ W'.cell? ⟨w.heap.size, 2, none⟩ = some (.string a.s) ∧ W'.cell? ⟨w.heap.size + 1, 0, none⟩ = some (.int .i64 b.k) ∧ W'.cell? ⟨w.heap.size + 1, 1, none⟩ = some (.int .i64 b.n) ∧ W'.cell? ⟨w.heap.size + 1, 2, none⟩ = some (.string b.s) ∧ W'.cell? ⟨w.heap.size + 1 + 1, 0, none⟩ = some (.int .i64 c.k) ∧ W'.cell? ⟨w.heap.size + 1 + 1, 1, none⟩ = some (.int .i64 c.n) ∧ W'.cell? ⟨w.heap.size + 1 + 1, 2, none⟩ = some (.string c.s)) (first | exact hkeep.out _ hbX.out | exact hkeep.out _ hbX.out.drew)
        ((first
          | (go_at_call 27; refine (cbb.out _).mono ?_; rintro e wb ⟨rfl, hbb⟩; have hbX : Hid (Below W.heap.size W wb) := hid (by first | exact hbX.out.trans (hbb.mono hbX.out.size) | exact hbX.out.drew.trans (hbb.mono hbX.out.size)); clear hbb)
          | (go_at_call 28; refine (hequ.out _).mono ?_; rintro e wb ⟨rfl, hbb⟩; have hbX : Hid (Below W.heap.size W wb) := hid (by first | exact hbX.out.trans (hbb.mono hbX.out.size) | exact hbX.out.drew.trans (hbb.mono hbX.out.size)); clear hbb)
          | (rw [if_pos (by rfl)]; go_simp; go_at_call 28; refine (hequ.out _).mono ?_; rintro e wb ⟨rfl, hbb⟩; have hbX : Hid (Below W.heap.size W wb) := hid (by first | exact hbX.out.trans (hbb.mono hbX.out.size) | exact hbX.out.drew.trans (hbb.mono hbX.out.size)); clear hbb; go_wp2_with fail)))
      all_goals
        clear heqv heqw hgd x0 x1 x2 y0 y1 y2 z0 z1 z2
        go_upto_region 4 with fail
        have hlv := hid (live_any _ (he0.out.below hbX.out))
        have hlw := hlaw.out
        rcases rY.out with h1 | h1 | h1 <;> rcases rZ.out with h2 | h2 | h2 <;> subst h1 h2 <;> first
          | (exfalso; omega)
          | (clear hlw hlaw rY rZ rX; go_wp2_with fail; refine hlv.out.mono ?_; rintro e w9 ⟨rfl, hb9⟩; go_wp2_with fail; go_ret; exact ⟨rfl, hB0.out.trans ((hbX.out.trans (hb9.mono hbX.out.size)).mono hB0.out.size)⟩)

end Go.Proofs.YtbnpidmlcjofiaaDoor

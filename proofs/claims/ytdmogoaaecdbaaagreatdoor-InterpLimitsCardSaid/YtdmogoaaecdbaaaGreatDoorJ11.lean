/- Texts of the proof, joined: VCmp, VEqual, ITwo. -/
import Derived.Test.YtdmogoaaecdbaaaGreatDoorJ08
import Derived.Test.YtdmogoaaecdbaaaGreatDoorJ04
import Derived.Test.YtdmogoaaecdbaaaGreatDoorJ05
import Derived.Test.YtdmogoaaecdbaaaGreatDoorJ10
namespace Go.Proofs.YtdmogoaaecdbaaaGreatDoor
open Go.RowKit
set_option linter.unusedVariables false
set_option linter.unusedSimpArgs false

theorem nan_int (x : Int) (w : World) : Calls Tryz.prog 202 #[.int .i64 x] w fun e w' => e = .returned (.bool false) ∧ w' = w := by
  go_enter Tryz.func202, Tryz.ntmps202
  go_wp2_with fail
  go_ret
  exact ⟨by first | rfl | simp, by first | rfl | trivial⟩
theorem cmp_int (x y : Int) (w : World) : Calls Tryz.prog 176 #[.int .i64 x, .int .i64 y] w fun e w' => e = .returned (.int .i64 (cmpI x y)) ∧ w' = w := by
  by_cases h1 : x < y
  · have hf : Hid (cmpI x y = -1) := hid (by unfold cmpI; rw [if_pos h1])
    go_enter Tryz.func176, Tryz.ntmps176
    go_wp2_with (go_at_call 202; refine (nan_int _ _).mono ?_; rintro e w2 ⟨rfl, hwq⟩; obtain rfl := hwq.symm)
    go_ret
    exact ⟨by rw [hf.out]; first | rfl | simp, by first | rfl | trivial⟩
  · have hf1 : cmpI x y = if y < x then 1 else 0 := by unfold cmpI; rw [if_neg h1]
    by_cases h2 : y < x
    · have hf : Hid (cmpI x y = 1) := hid (by rw [hf1, if_pos h2])
      clear hf1
      go_enter Tryz.func176, Tryz.ntmps176
      go_wp2_with (go_at_call 202; refine (nan_int _ _).mono ?_; rintro e w2 ⟨rfl, hwq⟩; obtain rfl := hwq.symm)
      go_ret
      exact ⟨by rw [hf.out]; first | rfl | simp, by first | rfl | trivial⟩
    · have hf : Hid (cmpI x y = 0) := hid (by rw [hf1, if_neg h2])
      clear hf1
      go_enter Tryz.func176, Tryz.ntmps176
      go_wp2_with (go_at_call 202; refine (nan_int _ _).mono ?_; rintro e w2 ⟨rfl, hwq⟩; obtain rfl := hwq.symm)
      go_ret
      exact ⟨by rw [hf.out]; first | rfl | simp, by first | rfl | trivial⟩

theorem nan_int64 (x : Int) (w : World) : Calls Tryz.prog 203 #[.int .i64 x] w fun e w' => e = .returned (.bool false) ∧ w' = w := by
  go_enter Tryz.func203, Tryz.ntmps203
  go_wp2_with fail
  go_ret
  exact ⟨by first | rfl | simp, by first | rfl | trivial⟩
theorem cmp_int64 (x y : Int) (w : World) : Calls Tryz.prog 177 #[.int .i64 x, .int .i64 y] w fun e w' => e = .returned (.int .i64 (cmpI x y)) ∧ w' = w := by
  by_cases h1 : x < y
  · have hf : Hid (cmpI x y = -1) := hid (by unfold cmpI; rw [if_pos h1])
    go_enter Tryz.func177, Tryz.ntmps177
    go_wp2_with (go_at_call 203; refine (nan_int64 _ _).mono ?_; rintro e w2 ⟨rfl, hwq⟩; obtain rfl := hwq.symm)
    go_ret
    exact ⟨by rw [hf.out]; first | rfl | simp, by first | rfl | trivial⟩
  · have hf1 : cmpI x y = if y < x then 1 else 0 := by unfold cmpI; rw [if_neg h1]
    by_cases h2 : y < x
    · have hf : Hid (cmpI x y = 1) := hid (by rw [hf1, if_pos h2])
      clear hf1
      go_enter Tryz.func177, Tryz.ntmps177
      go_wp2_with (go_at_call 203; refine (nan_int64 _ _).mono ?_; rintro e w2 ⟨rfl, hwq⟩; obtain rfl := hwq.symm)
      go_ret
      exact ⟨by rw [hf.out]; first | rfl | simp, by first | rfl | trivial⟩
    · have hf : Hid (cmpI x y = 0) := hid (by rw [hf1, if_neg h2])
      clear hf1
      go_enter Tryz.func177, Tryz.ntmps177
      go_wp2_with (go_at_call 203; refine (nan_int64 _ _).mono ?_; rintro e w2 ⟨rfl, hwq⟩; obtain rfl := hwq.symm)
      go_ret
      exact ⟨by rw [hf.out]; first | rfl | simp, by first | rfl | trivial⟩

def orI (x y z : Int) : Int := if x ≠ 0 then x else if y ≠ 0 then y else z
set_option maxRecDepth 100000 in
theorem or_any (x y z : Int) (b : Nat) (w : World) (hb : Blk w b 3 #[.int .i64 x, .int .i64 y, .int .i64 z]) : Calls Tryz.prog 175 #[.slice (some ⟨b, 0, none⟩) 3 3] w fun e w' => e = .returned (.int .i64 (orI x y z)) ∧ w' = w := by
  have x0 : w.cell? ⟨b, 0, none⟩ = some (.int .i64 x) := hb.cell 0
  have x1 : w.cell? ⟨b, 1, none⟩ = some (.int .i64 y) := hb.cell 1
  have x2 : w.cell? ⟨b, 2, none⟩ = some (.int .i64 z) := hb.cell 2
  clear hb
  go_enter Tryz.func175, Tryz.ntmps175
  go_wp2_with fail
  go_loopw [5, 8] (fun _ v wr => ∃ k : Nat, v = .int .i64 k ∧ k ≤ 3 ∧ wr = w ∧ (0 < k → x = 0) ∧ (1 < k → y = 0) ∧ (2 < k → z = 0)) (fun _ v _ => 3 - (intOf v).toNat)
  case atStart => exact ⟨0, rfl, by decide, rfl, by omega, by omega, by omega⟩
  case round =>
    obtain ⟨k, rfl, hk, hwr, a0, a1, a2⟩ := hrel
    obtain rfl := hwr.symm
    obtain rfl | rfl | rfl | rfl : k = 0 ∨ k = 1 ∨ k = 2 ∨ k = 3 := by omega
    · by_cases h : x = 0
      · have b1 : (x != 0) = false := by rw [h]; rfl
        have hf := hid (⟨by omega, by omega, by omega⟩ : (0 < 1 → x = 0) ∧ (1 < 1 → y = 0) ∧ (2 < 1 → z = 0))
        clear a0 a1 a2 h hk
        go_wp2_with fail
        exact ⟨⟨1, by first | rfl | simp, by omega, by first | rfl | trivial, hf.out.1, hf.out.2.1, hf.out.2.2⟩, by simp [intOf]⟩
      · have b1 : (x != 0) = true := by simp [h]
        have hf : Hid (orI x y z = x) := hid (by unfold orI; rw [if_pos h])
        clear a0 a1 a2 h hk
        go_wp2_with fail
        go_ret
        exact ⟨by rw [hf.out]; rfl, by first | rfl | trivial⟩
    · by_cases h : y = 0
      · have b1 : (y != 0) = false := by rw [h]; rfl
        have hf := hid (⟨by omega, by omega, by omega⟩ : (0 < 2 → x = 0) ∧ (1 < 2 → y = 0) ∧ (2 < 2 → z = 0))
        clear a0 a1 a2 h hk
        go_wp2_with fail
        exact ⟨⟨2, by first | rfl | simp, by omega, by first | rfl | trivial, hf.out.1, hf.out.2.1, hf.out.2.2⟩, by simp [intOf]⟩
      · have b1 : (y != 0) = true := by simp [h]
        have hf : Hid (orI x y z = y) := hid (by unfold orI; rw [if_neg (by have := a0 (by omega); simp [this])]; rw [if_pos h])
        clear a0 a1 a2 h hk
        go_wp2_with fail
        go_ret
        exact ⟨by rw [hf.out]; rfl, by first | rfl | trivial⟩
    · by_cases h : z = 0
      · have b1 : (z != 0) = false := by rw [h]; rfl
        have hf := hid (⟨by omega, by omega, by omega⟩ : (0 < 3 → x = 0) ∧ (1 < 3 → y = 0) ∧ (2 < 3 → z = 0))
        clear a0 a1 a2 h hk
        go_wp2_with fail
        exact ⟨⟨3, by first | rfl | simp, by omega, by first | rfl | trivial, hf.out.1, hf.out.2.1, hf.out.2.2⟩, by simp [intOf]⟩
      · have b1 : (z != 0) = true := by simp [h]
        have hf : Hid (orI x y z = z) := hid (by unfold orI; rw [if_neg (by have := a0 (by omega); simp [this])]; rw [if_neg (by have := a1 (by omega); simp [this])])
        clear a0 a1 a2 h hk
        go_wp2_with fail
        go_ret
        exact ⟨by rw [hf.out]; rfl, by first | rfl | trivial⟩
    · have hf : Hid (orI x y z = 0) := hid (by unfold orI; rw [if_neg (by have := a0 (by omega); simp [this]), if_neg (by have := a1 (by omega); simp [this])]; exact a2 (by omega))
      clear a0 a1 a2 hk
      go_wp2_with fail
      go_ret
      exact ⟨by rw [hf.out]; rfl, by first | rfl | trivial⟩

theorem strCmp (a b : ByteArray) (w : World) : Calls Tryz.prog 178 #[.string a, .string b] w fun e w' => e = .returned (.int .i64 (Lib.compareBytes a.data.toList b.data.toList)) ∧ w' = w := strings_Compare a b w
theorem orI_cmp (a b : Vl) : orI (cmpI a.k b.k) (cmpI a.n b.n) (Lib.compareBytes a.s.data.toList b.s.data.toList) = Vl.cmp a b := by
  unfold orI Vl.cmp
  rfl
set_option maxRecDepth 100000 in
set_option maxHeartbeats 4000000 in
theorem compare_any (a b : Vl) (w : World) : Calls Tryz.prog 142 #[.agg #[.int .i64 a.k, .int .i64 a.n, .string a.s], .agg #[.int .i64 b.k, .int .i64 b.n, .string b.s]] w fun e w' => e = .returned (.int .i64 (Vl.cmp a b)) ∧ Below w.heap.size w w' := by
  obtain ⟨W, hW⟩ : ∃ W, W = (w.alloc (.cells #[.int .i64 a.k, .int .i64 a.n, .string a.s] 55)).alloc (.cells #[.int .i64 b.k, .int .i64 b.n, .string b.s] 55) := ⟨_, rfl⟩
  have hB0 : Hid (Below w.heap.size w W) := hid (by subst hW; exact ((Below.refl _ _).alloc (Nat.le_refl _) _).alloc (by simp) _)
  have k0 : Hid (Blk W w.heap.size 55 #[.int .i64 a.k, .int .i64 a.n, .string a.s]) := hid (by subst hW; exact (Blk.new w _ _).alloc _)
  have k1 : Hid (Blk W (w.heap.size + 1) 55 #[.int .i64 b.k, .int .i64 b.n, .string b.s]) := hid (by subst hW; exact Blk.new' _ _ _ (by simp))
  have hfin := hid (orI_cmp a b)
  generalize hR0 : Vl.cmp a b = R at *
  obtain ⟨a0, a1, a2⟩ := a
  obtain ⟨b0, b1, b2⟩ := b
  simp only at hW k0 k1 hfin
  clear hR0
  have x0 : W.cell? ⟨w.heap.size, 0, none⟩ = some (.int .i64 a0) := k0.out.cell 0
  have x1 : W.cell? ⟨w.heap.size, 1, none⟩ = some (.int .i64 a1) := k0.out.cell 1
  have x2 : W.cell? ⟨w.heap.size, 2, none⟩ = some (.string a2) := k0.out.cell 2
  have y0 : W.cell? ⟨w.heap.size + 1, 0, none⟩ = some (.int .i64 b0) := k1.out.cell 0
  have y1 : W.cell? ⟨w.heap.size + 1, 1, none⟩ = some (.int .i64 b1) := k1.out.cell 1
  have y2 : W.cell? ⟨w.heap.size + 1, 2, none⟩ = some (.string b2) := k1.out.cell 2
  have hkeep := hid (show ∀ W', Below W.heap.size W W' → W'.cell? ⟨w.heap.size, 0, none⟩ = some (.int .i64 a0) ∧ W'.cell? ⟨w.heap.size, 1, none⟩ = some (.int .i64 a1) ∧ W'.cell? ⟨w.heap.size, 2, none⟩ = some (.string a2) ∧ W'.cell? ⟨w.heap.size + 1, 0, none⟩ = some (.int .i64 b0) ∧ W'.cell? ⟨w.heap.size + 1, 1, none⟩ = some (.int .i64 b1) ∧ W'.cell? ⟨w.heap.size + 1, 2, none⟩ = some (.string b2) from fun W' hb => by
    have h0 := k0.out.below_all hb
    have h1 := k1.out.below_all hb
    exact ⟨h0.cell 0, h0.cell 1, h0.cell 2, h1.cell 0, h1.cell 1, h1.cell 2⟩)
  obtain ⟨p, hp⟩ : ∃ p, p = cmpI a0 b0 := ⟨_, rfl⟩
  obtain ⟨q, hq⟩ : ∃ q, q = cmpI a1 b1 := ⟨_, rfl⟩
  obtain ⟨r, hr⟩ : ∃ r, r = Lib.compareBytes a2.data.toList b2.data.toList := ⟨_, rfl⟩
  rw [← hp, ← hq, ← hr] at hfin
  have cp := hid (fun w => hp ▸ cmp_int a0 b0 w)
  have cq := hid (fun w => hq ▸ cmp_int64 a1 b1 w)
  have cr := hid (fun w => hr ▸ strCmp a2 b2 w)
  clear hp hq hr
  go_enter Tryz.func142, Tryz.ntmps142
  go_upto_region 1 with fail
  rw [← hW]
  clear hW
  go_region_held3 (fun W' => W'.cell? ⟨w.heap.size, 0, none⟩ = some (.int .i64 a0) ∧ W'.cell? ⟨w.heap.size, 1, none⟩ = some (.int .i64 a1) ∧ W'.cell? ⟨w.heap.size, 2, none⟩ = some (.string a2) ∧ W'.cell? ⟨w.heap.size + 1, 0, none⟩ = some (.int .i64 b0) ∧ W'.cell? ⟨w.heap.size + 1, 1, none⟩ = some (.int .i64 b1) ∧ W'.cell? ⟨w.heap.size + 1, 2, none⟩ = some (.string b2)) (first | exact hkeep.out _ hwo.out | exact hkeep.out _ hwo.out.drew | exact hkeep.out _ (Below.refl _ _) | exact hkeep.out _ (Below.refl _ _).drew | exact hkeep.out _ ((Below.refl _ _).alloc (Nat.le_refl _) _) | exact hkeep.out _ ((Below.refl _ _).alloc (Nat.le_refl _) _).drew)
    ((first
      | (go_at_call 176; refine (cp.out _).mono ?_; rintro e wb ⟨rfl, hwq⟩; obtain rfl := hwq.symm)
      | (go_at_call 177; refine (cq.out _).mono ?_; rintro e wb ⟨rfl, hwq⟩; obtain rfl := hwq.symm)
      | (go_at_call 178; refine (cr.out _).mono ?_; rintro e wb ⟨rfl, hwq⟩; obtain rfl := hwq.symm)
      | (go_at_call 175; refine (or_any p q r W.heap.size _ (by first | exact Blk.new W _ _ | exact (Blk.new W _ _).below_all (Below.refl _ _).drew)).mono ?_; rintro e wb ⟨rfl, hwq⟩; have hwo : Hid (Below W.heap.size W wb) := hid (by rw [hwq]; first | exact (Below.refl _ _).alloc (Nat.le_refl _) _ | exact ((Below.refl _ _).alloc (Nat.le_refl _) _).drew); clear hwq)))
  all_goals
    go_wp2_with fail
    go_ret
    exact ⟨by rw [hfin.out]; rfl, hB0.out.trans (hwo.out.mono hB0.out.size)⟩

end Go.Proofs.YtdmogoaaecdbaaaGreatDoor

namespace Go.Proofs.YtdmogoaaecdbaaaGreatDoor
open Go.RowKit
set_option linter.unusedVariables false
set_option linter.unusedSimpArgs false

theorem eql_vals (a b : Vl) (w : World) : (binOp .eql 55 (.agg #[.int .i64 a.k, .int .i64 a.n, .string a.s]) (.agg #[.int .i64 b.k, .int .i64 b.n, .string b.s])).run Tryz.prog w = .ok (.bool (decide (a = b))) w := by
  have h := run_eqVal a b w
  rw [run_eql_struct, h]
  simp only [Result.andThen]
set_option maxRecDepth 100000 in
set_option maxHeartbeats 1000000 in
theorem equal_any (a b : Vl) (w : World) : Calls Tryz.prog 141 #[.agg #[.int .i64 a.k, .int .i64 a.n, .string a.s], .agg #[.int .i64 b.k, .int .i64 b.n, .string b.s]] w fun e w' => e = .returned (.bool (decide (a = b))) ∧ Below w.heap.size w w' := by
  obtain ⟨W, hW⟩ : ∃ W, W = (w.alloc (.cells #[.int .i64 a.k, .int .i64 a.n, .string a.s] 55)).alloc (.cells #[.int .i64 b.k, .int .i64 b.n, .string b.s] 55) := ⟨_, rfl⟩
  have hB0 : Hid (Below w.heap.size w W) := hid (by subst hW; exact ((Below.refl _ _).alloc (Nat.le_refl _) _).alloc (by simp) _)
  have k0 : Hid (Blk W w.heap.size 55 #[.int .i64 a.k, .int .i64 a.n, .string a.s]) := hid (by subst hW; exact (Blk.new w _ _).alloc _)
  have k1 : Hid (Blk W (w.heap.size + 1) 55 #[.int .i64 b.k, .int .i64 b.n, .string b.s]) := hid (by subst hW; exact Blk.new' _ _ _ (by simp))
  have x0 : W.cell? ⟨w.heap.size, 0, none⟩ = some (.int .i64 a.k) := k0.out.cell 0
  have x1 : W.cell? ⟨w.heap.size, 1, none⟩ = some (.int .i64 a.n) := k0.out.cell 1
  have x2 : W.cell? ⟨w.heap.size, 2, none⟩ = some (.string a.s) := k0.out.cell 2
  have y0 : W.cell? ⟨w.heap.size + 1, 0, none⟩ = some (.int .i64 b.k) := k1.out.cell 0
  have y1 : W.cell? ⟨w.heap.size + 1, 1, none⟩ = some (.int .i64 b.n) := k1.out.cell 1
  have y2 : W.cell? ⟨w.heap.size + 1, 2, none⟩ = some (.string b.s) := k1.out.cell 2
  have heq := fun w => eql_vals a b w
  have hgd := guardVal
  go_enter Tryz.func141, Tryz.ntmps141
  go_upto_region 1 with fail
  rw [← hW]
  clear hW
  go_wp2_with fail
  go_ret
  exact ⟨rfl, hB0.out⟩

end Go.Proofs.YtdmogoaaecdbaaaGreatDoor

namespace Go.Proofs.YtdmogoaaecdbaaaGreatDoor
open Go.RowKit
set_option linter.unusedVariables false
set_option linter.unusedSimpArgs false

section
variable {S S2 : Nat → Prop} {w w' w5 : World} {g : Nat} {F : Fr} {m m' : Mc}
theorem MGo.comp (s1 : ∀ q, S2 q → S q ∨ w.heap.size ≤ q) (s2 : ∀ q, S q → S2 q) (hU : Upd S w w5) (h : MGo S2 w5 g F m' w') : MGo S w g F m' w' := by
  obtain ⟨S3, ha, h1, h2, hu⟩ := h
  refine ⟨S3, ha, fun q hq => ?_, fun q hq => h2 q (s2 q hq), hU.trans hu fun b hb e => (s1 b e).resolve_right (by omega)⟩
  rcases h1 q hq with e | e
  · exact s1 q e
  · right; have := hU.size; omega
theorem push_num (n : Int) (h : MAt S w g F m) (hn : m.st.length ≤ 1000) : Calls Tryz.prog 139 #[.pointer (some ⟨g, 0, none⟩), .agg #[.int .i64 1, .int .i64 n, .string ⟨#[]⟩]] w fun e w' => e = .returned (.tuple #[]) ∧ MGo S w g F { m with st := numVl n :: m.st } w' := push_any (numVl n) h hn
theorem push_wrd (s : ByteArray) (h : MAt S w g F m) (hn : m.st.length ≤ 1000) : Calls Tryz.prog 139 #[.pointer (some ⟨g, 0, none⟩), .agg #[.int .i64 2, .int .i64 0, .string s]] w fun e w' => e = .returned (.tuple #[]) ∧ MGo S w g F { m with st := wrdV s :: m.st } w' := push_any (wrdV s) h hn
/-- an operation goes on, or ends the run -/
def OpPost (S : Nat → Prop) (w : World) (g : Nat) (F : Fr) (m : Mc) (r : Rs Mc) (e : Ending) (w' : World) : Prop := match r with
  | .ok m' => e = .returned (.tuple #[]) ∧ MGo S w g F m' w'
  | .error er => e = .panicked [{ v := .iface 92 (.agg #[.int .i64 er.1, .int .i64 er.2]), recovered := false }] ∧ ∃ st', MGo S w g F { m with st := st' } w'
set_option maxRecDepth 100000 in
set_option maxHeartbeats 1000000 in
theorem two13 (a b : Vl) (r : List Vl) (h : MAt S w g F m) (hs : m.st = a :: b :: r) (hn : m.st.length ≤ 100) (ho : m.Ok0) : Calls Tryz.prog 106 #[.pointer (some ⟨g, 0, none⟩), .int .i64 13] w (OpPost S w g F m (twoP 13 m a b r)) := by
  have va := hid (ho.st a (by rw [hs]; exact List.mem_cons_self ..))
  have vb := hid (ho.st b (by rw [hs]; exact List.mem_cons_of_mem _ (List.mem_cons_self ..)))
  have hor : Hid (Mc.Ok0 { m with st := r }) := hid (ho.stk fun v hv => ho.st v (by rw [hs]; exact List.mem_cons_of_mem _ (List.mem_cons_of_mem _ hv)))
  have hrl : Hid (r.length ≤ 98) := hid (by rw [hs] at hn; simp at hn; omega)
  have hr : Hid (twoP 13 m a b r = .ok { m with st := truV (decide (a = b)) :: r }) := hid rfl
  obtain ⟨res, hres⟩ : ∃ res, Hid (twoP 13 m a b r = res) := ⟨_, hid rfl⟩
  rw [hres.out]
  have hp1 := hid (pop_any a (b :: r) h hs (by have := hrl.out; simp; omega))
  have hlt := hid h.lt
  clear h hs hn ho
  go_enter Tryz.func106, Tryz.ntmps106
  go_wp2_with fail
  refine hp1.out.mono ?_
  rintro e w2 ⟨rfl, S1, hA1, s1, s2, hU1⟩
  have hp2 := hid (pop_any b r hA1 rfl (by have := hrl.out; omega))
  have hS1 := hid s1
  have hS2 := hid s2
  have hUU := hid hU1
  clear hA1 s1 s2 hU1 hp1
  go_wp2_with fail
  refine hp2.out.mono ?_
  rintro e w3 ⟨rfl, hg3⟩
  have hg3 := hid (MGo.comp hS1.out hS2.out hUU.out hg3)
  clear hp2 hS1 hS2 hUU
  obtain ⟨S2, hA0, s1, s2, hU⟩ := hg3.out
  have hA := hid hA0
  have s1 := hid s1
  have s2 := hid s2
  have hU := hid hU
  clear hg3
  go_upto_region 1 with fail
  have hb5 : Hid (Below w3.heap.size w3 ((w3.alloc (.cells #[.int .i64 a.k, .int .i64 a.n, .string a.s] 55)).alloc (.cells #[.int .i64 b.k, .int .i64 b.n, .string b.s] 55))) := hid (below_two _ _)
  have ka := hid (show Blk ((w3.alloc (.cells #[.int .i64 a.k, .int .i64 a.n, .string a.s] 55)).alloc (.cells #[.int .i64 b.k, .int .i64 b.n, .string b.s] 55)) w3.heap.size 55 #[.int .i64 a.k, .int .i64 a.n, .string a.s] from (Blk.new w3 _ _).alloc _)
  have kb := hid (show Blk ((w3.alloc (.cells #[.int .i64 a.k, .int .i64 a.n, .string a.s] 55)).alloc (.cells #[.int .i64 b.k, .int .i64 b.n, .string b.s] 55)) (w3.heap.size + 1) 55 #[.int .i64 b.k, .int .i64 b.n, .string b.s] from Blk.new' _ _ _ (by simp))
  have R := hid (hA.out.below hb5.out)
  have hU := hid (hU.out.trans (Upd.of_below' hb5.out (fun _ => False)) fun _ _ e => e.elim)
  clear hA hb5
  generalize (w3.alloc (.cells #[.int .i64 a.k, .int .i64 a.n, .string a.s] 55)).alloc (.cells #[.int .i64 b.k, .int .i64 b.n, .string b.s] 55) = w5 at *
  have hsz5 : Hid (w.heap.size ≤ w5.heap.size) := hid hU.out.size
  have hp3 : Hid (∀ q, S2 q → q < w3.heap.size) := hid hA0.lt
  generalize w3.heap.size = p3 at *
  have B := hid (Below.refl w5.heap.size w5)
  clear hA0
  have hSl : Hid (∀ q, S2 q → q < w5.heap.size) := hid R.out.lt
  have y0 := ka.out.cell 0
  have y1 := ka.out.cell 1
  have y2 := ka.out.cell 2
  have z0 := kb.out.cell 0
  have z1 := kb.out.cell 1
  have z2 := kb.out.cell 2
  simp only [List.getElem?_toArray, List.getElem?_cons_zero, List.getElem?_cons_succ] at y0 y1 y2 z0 z1 z2
  go_wp2_with fail
  refine (equal_any a b _).mono ?_
  rintro e w11 ⟨rfl, hb11⟩
  have R := hid (R.out.below hb11)
  have B := hid (B.out.trans (hb11.mono B.out.size))
  have ka := hid (ka.out.below_all hb11)
  have kb := hid (kb.out.below_all hb11)
  clear hb11 y0 y1 y2 z0 z1 z2
  have y0 := ka.out.cell 0
  have y1 := ka.out.cell 1
  have y2 := ka.out.cell 2
  have z0 := kb.out.cell 0
  have z1 := kb.out.cell 1
  have z2 := kb.out.cell 2
  simp only [List.getElem?_toArray, List.getElem?_cons_zero, List.getElem?_cons_succ] at y0 y1 y2 z0 z1 z2
  generalize decide (a = b) = q9 at *
  go_wp2_with fail
  refine (truth_any q9 _).mono ?_
  rintro e w12 ⟨rfl, hb12⟩
  have R := hid (R.out.below hb12)
  have B := hid (B.out.trans (hb12.mono B.out.size))
  have ka := hid (ka.out.below_all hb12)
  have kb := hid (kb.out.below_all hb12)
  clear hb12 y0 y1 y2 z0 z1 z2
  have y0 := ka.out.cell 0
  have y1 := ka.out.cell 1
  have y2 := ka.out.cell 2
  have z0 := kb.out.cell 0
  have z1 := kb.out.cell 1
  have z2 := kb.out.cell 2
  simp only [List.getElem?_toArray, List.getElem?_cons_zero, List.getElem?_cons_succ] at y0 y1 y2 z0 z1 z2
  go_wp2_with fail
  refine (push_any (truV q9) R.out (by have := hrl.out; show r.length ≤ 1000; omega)).mono ?_
  rintro e w9 ⟨rfl, hg⟩
  have hg := hid (MGo.comp s1.out s2.out hU.out (hg.pre B.out (fun q hq => by rcases s1.out q hq with e | e; exact Nat.lt_of_lt_of_le (hlt.out q e) hsz5.out; exact hSl.out q hq)))
  go_wp2_with fail
  refine ⟨rfl, .tuple #[], by simp [results, Tryz.results106, go_sem], ?_⟩
  rw [← hres.out, hr.out]
  exact ⟨rfl, hg.out⟩
set_option maxRecDepth 100000 in
set_option maxHeartbeats 1000000 in
theorem two14 (a b : Vl) (r : List Vl) (h : MAt S w g F m) (hs : m.st = a :: b :: r) (hn : m.st.length ≤ 100) (ho : m.Ok0) : Calls Tryz.prog 106 #[.pointer (some ⟨g, 0, none⟩), .int .i64 14] w (OpPost S w g F m (twoP 14 m a b r)) := by
  have va := hid (ho.st a (by rw [hs]; exact List.mem_cons_self ..))
  have vb := hid (ho.st b (by rw [hs]; exact List.mem_cons_of_mem _ (List.mem_cons_self ..)))
  have hor : Hid (Mc.Ok0 { m with st := r }) := hid (ho.stk fun v hv => ho.st v (by rw [hs]; exact List.mem_cons_of_mem _ (List.mem_cons_of_mem _ hv)))
  have hrl : Hid (r.length ≤ 98) := hid (by rw [hs] at hn; simp at hn; omega)
  have hr : Hid (twoP 14 m a b r = .ok { m with st := truV (decide (Vl.cmp b a < 0)) :: r }) := hid rfl
  obtain ⟨res, hres⟩ : ∃ res, Hid (twoP 14 m a b r = res) := ⟨_, hid rfl⟩
  rw [hres.out]
  have hp1 := hid (pop_any a (b :: r) h hs (by have := hrl.out; simp; omega))
  have hlt := hid h.lt
  clear h hs hn ho
  go_enter Tryz.func106, Tryz.ntmps106
  go_wp2_with fail
  refine hp1.out.mono ?_
  rintro e w2 ⟨rfl, S1, hA1, s1, s2, hU1⟩
  have hp2 := hid (pop_any b r hA1 rfl (by have := hrl.out; omega))
  have hS1 := hid s1
  have hS2 := hid s2
  have hUU := hid hU1
  clear hA1 s1 s2 hU1 hp1
  go_wp2_with fail
  refine hp2.out.mono ?_
  rintro e w3 ⟨rfl, hg3⟩
  have hg3 := hid (MGo.comp hS1.out hS2.out hUU.out hg3)
  clear hp2 hS1 hS2 hUU
  obtain ⟨S2, hA0, s1, s2, hU⟩ := hg3.out
  have hA := hid hA0
  have s1 := hid s1
  have s2 := hid s2
  have hU := hid hU
  clear hg3
  go_upto_region 1 with fail
  have hb5 : Hid (Below w3.heap.size w3 ((w3.alloc (.cells #[.int .i64 a.k, .int .i64 a.n, .string a.s] 55)).alloc (.cells #[.int .i64 b.k, .int .i64 b.n, .string b.s] 55))) := hid (below_two _ _)
  have ka := hid (show Blk ((w3.alloc (.cells #[.int .i64 a.k, .int .i64 a.n, .string a.s] 55)).alloc (.cells #[.int .i64 b.k, .int .i64 b.n, .string b.s] 55)) w3.heap.size 55 #[.int .i64 a.k, .int .i64 a.n, .string a.s] from (Blk.new w3 _ _).alloc _)
  have kb := hid (show Blk ((w3.alloc (.cells #[.int .i64 a.k, .int .i64 a.n, .string a.s] 55)).alloc (.cells #[.int .i64 b.k, .int .i64 b.n, .string b.s] 55)) (w3.heap.size + 1) 55 #[.int .i64 b.k, .int .i64 b.n, .string b.s] from Blk.new' _ _ _ (by simp))
  have R := hid (hA.out.below hb5.out)
  have hU := hid (hU.out.trans (Upd.of_below' hb5.out (fun _ => False)) fun _ _ e => e.elim)
  clear hA hb5
  generalize (w3.alloc (.cells #[.int .i64 a.k, .int .i64 a.n, .string a.s] 55)).alloc (.cells #[.int .i64 b.k, .int .i64 b.n, .string b.s] 55) = w5 at *
  have hsz5 : Hid (w.heap.size ≤ w5.heap.size) := hid hU.out.size
  have hp3 : Hid (∀ q, S2 q → q < w3.heap.size) := hid hA0.lt
  generalize w3.heap.size = p3 at *
  have B := hid (Below.refl w5.heap.size w5)
  clear hA0
  have hSl : Hid (∀ q, S2 q → q < w5.heap.size) := hid R.out.lt
  have y0 := ka.out.cell 0
  have y1 := ka.out.cell 1
  have y2 := ka.out.cell 2
  have z0 := kb.out.cell 0
  have z1 := kb.out.cell 1
  have z2 := kb.out.cell 2
  simp only [List.getElem?_toArray, List.getElem?_cons_zero, List.getElem?_cons_succ] at y0 y1 y2 z0 z1 z2
  go_wp2_with fail
  refine (compare_any b a _).mono ?_
  rintro e w13 ⟨rfl, hb13⟩
  have R := hid (R.out.below hb13)
  have B := hid (B.out.trans (hb13.mono B.out.size))
  have ka := hid (ka.out.below_all hb13)
  have kb := hid (kb.out.below_all hb13)
  clear hb13 y0 y1 y2 z0 z1 z2
  have y0 := ka.out.cell 0
  have y1 := ka.out.cell 1
  have y2 := ka.out.cell 2
  have z0 := kb.out.cell 0
  have z1 := kb.out.cell 1
  have z2 := kb.out.cell 2
  simp only [List.getElem?_toArray, List.getElem?_cons_zero, List.getElem?_cons_succ] at y0 y1 y2 z0 z1 z2
  generalize Vl.cmp b a = cv at *
  by_cases hc : cv < 0
  · have t0 : decide (cv < 0) = true := decide_eq_true hc
    rw [t0] at hr
    clear hc
    go_wp2_with fail
    refine (truth_any true _).mono ?_
    rintro e w14 ⟨rfl, hb14⟩
    have R := hid (R.out.below hb14)
    have B := hid (B.out.trans (hb14.mono B.out.size))
    have ka := hid (ka.out.below_all hb14)
    have kb := hid (kb.out.below_all hb14)
    clear hb14 y0 y1 y2 z0 z1 z2
    have y0 := ka.out.cell 0
    have y1 := ka.out.cell 1
    have y2 := ka.out.cell 2
    have z0 := kb.out.cell 0
    have z1 := kb.out.cell 1
    have z2 := kb.out.cell 2
    simp only [List.getElem?_toArray, List.getElem?_cons_zero, List.getElem?_cons_succ] at y0 y1 y2 z0 z1 z2
    go_wp2_with fail
    refine (push_any (truV true) R.out (by have := hrl.out; show r.length ≤ 1000; omega)).mono ?_
    rintro e w9 ⟨rfl, hg⟩
    have hg := hid (MGo.comp s1.out s2.out hU.out (hg.pre B.out (fun q hq => by rcases s1.out q hq with e | e; exact Nat.lt_of_lt_of_le (hlt.out q e) hsz5.out; exact hSl.out q hq)))
    go_wp2_with fail
    refine ⟨rfl, .tuple #[], by simp [results, Tryz.results106, go_sem], ?_⟩
    rw [← hres.out, hr.out]
    exact ⟨rfl, hg.out⟩
  · have t0 : decide (cv < 0) = false := decide_eq_false hc
    rw [t0] at hr
    clear hc
    go_wp2_with fail
    refine (truth_any false _).mono ?_
    rintro e w15 ⟨rfl, hb15⟩
    have R := hid (R.out.below hb15)
    have B := hid (B.out.trans (hb15.mono B.out.size))
    have ka := hid (ka.out.below_all hb15)
    have kb := hid (kb.out.below_all hb15)
    clear hb15 y0 y1 y2 z0 z1 z2
    have y0 := ka.out.cell 0
    have y1 := ka.out.cell 1
    have y2 := ka.out.cell 2
    have z0 := kb.out.cell 0
    have z1 := kb.out.cell 1
    have z2 := kb.out.cell 2
    simp only [List.getElem?_toArray, List.getElem?_cons_zero, List.getElem?_cons_succ] at y0 y1 y2 z0 z1 z2
    go_wp2_with fail
    refine (push_any (truV false) R.out (by have := hrl.out; show r.length ≤ 1000; omega)).mono ?_
    rintro e w9 ⟨rfl, hg⟩
    have hg := hid (MGo.comp s1.out s2.out hU.out (hg.pre B.out (fun q hq => by rcases s1.out q hq with e | e; exact Nat.lt_of_lt_of_le (hlt.out q e) hsz5.out; exact hSl.out q hq)))
    go_wp2_with fail
    refine ⟨rfl, .tuple #[], by simp [results, Tryz.results106, go_sem], ?_⟩
    rw [← hres.out, hr.out]
    exact ⟨rfl, hg.out⟩
set_option maxRecDepth 100000 in
set_option maxHeartbeats 1000000 in
theorem two24 (a b : Vl) (r : List Vl) (h : MAt S w g F m) (hs : m.st = a :: b :: r) (hn : m.st.length ≤ 100) (ho : m.Ok0) : Calls Tryz.prog 106 #[.pointer (some ⟨g, 0, none⟩), .int .i64 24] w (OpPost S w g F m (twoP 24 m a b r)) := by
  have va := hid (ho.st a (by rw [hs]; exact List.mem_cons_self ..))
  have vb := hid (ho.st b (by rw [hs]; exact List.mem_cons_of_mem _ (List.mem_cons_self ..)))
  have hor : Hid (Mc.Ok0 { m with st := r }) := hid (ho.stk fun v hv => ho.st v (by rw [hs]; exact List.mem_cons_of_mem _ (List.mem_cons_of_mem _ hv)))
  have hrl : Hid (r.length ≤ 98) := hid (by rw [hs] at hn; simp at hn; omega)
  have hr : Hid (twoP 24 m a b r = if a.k = 2 ∧ b.k = 2 then (if b.s.size + a.s.size ≤ 64 then .ok { m with st := wrdV (b.s ++ a.s) :: r } else .error (1, 0)) else .error (72, 0)) := hid rfl
  obtain ⟨res, hres⟩ : ∃ res, Hid (twoP 24 m a b r = res) := ⟨_, hid rfl⟩
  rw [hres.out]
  have hp1 := hid (pop_any a (b :: r) h hs (by have := hrl.out; simp; omega))
  have hlt := hid h.lt
  clear h hs hn ho
  go_enter Tryz.func106, Tryz.ntmps106
  go_wp2_with fail
  refine hp1.out.mono ?_
  rintro e w2 ⟨rfl, S1, hA1, s1, s2, hU1⟩
  have hp2 := hid (pop_any b r hA1 rfl (by have := hrl.out; omega))
  have hS1 := hid s1
  have hS2 := hid s2
  have hUU := hid hU1
  clear hA1 s1 s2 hU1 hp1
  go_wp2_with fail
  refine hp2.out.mono ?_
  rintro e w3 ⟨rfl, hg3⟩
  have hg3 := hid (MGo.comp hS1.out hS2.out hUU.out hg3)
  clear hp2 hS1 hS2 hUU
  obtain ⟨S2, hA0, s1, s2, hU⟩ := hg3.out
  have hA := hid hA0
  have s1 := hid s1
  have s2 := hid s2
  have hU := hid hU
  clear hg3
  go_upto_region 1 with fail
  have hb5 : Hid (Below w3.heap.size w3 ((w3.alloc (.cells #[.int .i64 a.k, .int .i64 a.n, .string a.s] 55)).alloc (.cells #[.int .i64 b.k, .int .i64 b.n, .string b.s] 55))) := hid (below_two _ _)
  have ka := hid (show Blk ((w3.alloc (.cells #[.int .i64 a.k, .int .i64 a.n, .string a.s] 55)).alloc (.cells #[.int .i64 b.k, .int .i64 b.n, .string b.s] 55)) w3.heap.size 55 #[.int .i64 a.k, .int .i64 a.n, .string a.s] from (Blk.new w3 _ _).alloc _)
  have kb := hid (show Blk ((w3.alloc (.cells #[.int .i64 a.k, .int .i64 a.n, .string a.s] 55)).alloc (.cells #[.int .i64 b.k, .int .i64 b.n, .string b.s] 55)) (w3.heap.size + 1) 55 #[.int .i64 b.k, .int .i64 b.n, .string b.s] from Blk.new' _ _ _ (by simp))
  have R := hid (hA.out.below hb5.out)
  have hU := hid (hU.out.trans (Upd.of_below' hb5.out (fun _ => False)) fun _ _ e => e.elim)
  clear hA hb5
  generalize (w3.alloc (.cells #[.int .i64 a.k, .int .i64 a.n, .string a.s] 55)).alloc (.cells #[.int .i64 b.k, .int .i64 b.n, .string b.s] 55) = w5 at *
  have hsz5 : Hid (w.heap.size ≤ w5.heap.size) := hid hU.out.size
  have hp3 : Hid (∀ q, S2 q → q < w3.heap.size) := hid hA0.lt
  generalize w3.heap.size = p3 at *
  have B := hid (Below.refl w5.heap.size w5)
  clear hA0
  have hSl : Hid (∀ q, S2 q → q < w5.heap.size) := hid R.out.lt
  have y0 := ka.out.cell 0
  have y1 := ka.out.cell 1
  have y2 := ka.out.cell 2
  have z0 := kb.out.cell 0
  have z1 := kb.out.cell 1
  have z2 := kb.out.cell 2
  simp only [List.getElem?_toArray, List.getElem?_cons_zero, List.getElem?_cons_succ] at y0 y1 y2 z0 z1 z2
  by_cases ha : a.k = 2
  · have ta2 : (a.k == 2) = true := by simpa using ha
    by_cases hb : b.k = 2
    · have tb2 : (b.k == 2) = true := by simpa using hb
      have hr2 := hid (hr.out.trans (if_pos ⟨ha, hb⟩))
      clear ha hb hr
      obtain ⟨n9, hn9⟩ : ∃ n9 : Int, Hid ((b.s.size : Int) + (a.s.size : Int) = n9) := ⟨_, hid rfl⟩
      have i1 : IntKind.i64.wrap ((b.s.size : Int) + (a.s.size : Int)) = n9 := by rw [IntKind.wrap_i64, ← hn9.out]; have := isz_le va.out.1; have := isz_le vb.out.1; omega
      have hcat : (b.s.size : Int) + (a.s.size : Int) ≤ 9223372036854775807 := by have := isz_le va.out.1; have := isz_le vb.out.1; omega
      by_cases hz : b.s.size + a.s.size ≤ 64
      · have t0 : decide (n9 ≤ 64) = true := decide_eq_true (by have := hn9.out; omega)
        have hr3 := hid (hr2.out.trans (if_pos hz))
        clear hz hr2
        go_wp2_with fail
        refine (needs_t _ _).mono ?_
        rintro e wq ⟨rfl, hwq⟩
        obtain rfl := hwq.symm
        go_wp2_with fail
        refine (needs_t _ _).mono ?_
        rintro e wq ⟨rfl, hwq⟩
        obtain rfl := hwq.symm
        go_wp2_with fail
        refine (word2_any (b.s ++ a.s) _).mono ?_
        rintro e w18 ⟨rfl, hb18⟩
        have R := hid (R.out.below hb18)
        have B := hid (B.out.trans (hb18.mono B.out.size))
        have ka := hid (ka.out.below_all hb18)
        have kb := hid (kb.out.below_all hb18)
        clear hb18 y0 y1 y2 z0 z1 z2
        have y0 := ka.out.cell 0
        have y1 := ka.out.cell 1
        have y2 := ka.out.cell 2
        have z0 := kb.out.cell 0
        have z1 := kb.out.cell 1
        have z2 := kb.out.cell 2
        simp only [List.getElem?_toArray, List.getElem?_cons_zero, List.getElem?_cons_succ] at y0 y1 y2 z0 z1 z2
        go_wp2_with fail
        refine (push_wrd (b.s ++ a.s) R.out (by have := hrl.out; show r.length ≤ 1000; omega)).mono ?_
        rintro e w9 ⟨rfl, hg⟩
        have hg := hid (MGo.comp s1.out s2.out hU.out (hg.pre B.out (fun q hq => by rcases s1.out q hq with e | e; exact Nat.lt_of_lt_of_le (hlt.out q e) hsz5.out; exact hSl.out q hq)))
        go_wp2_with fail
        refine ⟨rfl, .tuple #[], by simp [results, Tryz.results106, go_sem], ?_⟩
        rw [← hres.out, hr3.out]
        exact ⟨rfl, hg.out⟩
      · have t0 : decide (n9 ≤ 64) = false := decide_eq_false (by have := hn9.out; omega)
        have hr3 := hid (hr2.out.trans (if_neg hz))
        clear hz hr2
        go_wp2_with fail
        refine (needs_t _ _).mono ?_
        rintro e wq ⟨rfl, hwq⟩
        obtain rfl := hwq.symm
        go_wp2_with fail
        refine (needs_f _ _ (by decide)).mono ?_
        rintro e wq ⟨rfl, hwq⟩
        obtain rfl := hwq.symm
        go_wp2_with fail
        refine ⟨rfl, ?_⟩
        rw [← hres.out, hr3.out]
        exact ⟨rfl, r, MGo.comp s1.out s2.out hU.out ((R.out.go (Below.refl _ _)).pre B.out hSl.out)⟩
    · have tb2 : (b.k == 2) = false := by simpa using hb
      have hr2 := hid (hr.out.trans (if_neg fun h => hb h.2))
      clear ha hb hr
      go_wp2_with fail
      refine (needs_f _ _ (by decide)).mono ?_
      rintro e wq ⟨rfl, hwq⟩
      obtain rfl := hwq.symm
      go_wp2_with fail
      refine ⟨rfl, ?_⟩
      rw [← hres.out, hr2.out]
      exact ⟨rfl, r, MGo.comp s1.out s2.out hU.out ((R.out.go (Below.refl _ _)).pre B.out hSl.out)⟩
  · have ta2 : (a.k == 2) = false := by simpa using ha
    have hr2 := hid (hr.out.trans (if_neg fun h => ha h.1))
    clear ha hr
    go_wp2_with fail
    refine (needs_f _ _ (by decide)).mono ?_
    rintro e wq ⟨rfl, hwq⟩
    obtain rfl := hwq.symm
    go_wp2_with fail
    refine ⟨rfl, ?_⟩
    rw [← hres.out, hr2.out]
    exact ⟨rfl, r, MGo.comp s1.out s2.out hU.out ((R.out.go (Below.refl _ _)).pre B.out hSl.out)⟩
set_option maxRecDepth 100000 in
set_option maxHeartbeats 1000000 in
theorem two16 (a b : Vl) (r : List Vl) (h : MAt S w g F m) (hs : m.st = a :: b :: r) (hn : m.st.length ≤ 100) (ho : m.Ok0) : Calls Tryz.prog 106 #[.pointer (some ⟨g, 0, none⟩), .int .i64 16] w (OpPost S w g F m (twoP 16 m a b r)) := by
  have va := hid (ho.st a (by rw [hs]; exact List.mem_cons_self ..))
  have vb := hid (ho.st b (by rw [hs]; exact List.mem_cons_of_mem _ (List.mem_cons_self ..)))
  have hor : Hid (Mc.Ok0 { m with st := r }) := hid (ho.stk fun v hv => ho.st v (by rw [hs]; exact List.mem_cons_of_mem _ (List.mem_cons_of_mem _ hv)))
  have hrl : Hid (r.length ≤ 98) := hid (by rw [hs] at hn; simp at hn; omega)
  have hr : Hid (twoP 16 m a b r = if a.k = 1 ∧ b.k = 1 then .ok { m with st := truV (decide (a.n ≠ 0 ∧ b.n ≠ 0)) :: r } else .error (72, 0)) := hid rfl
  obtain ⟨res, hres⟩ : ∃ res, Hid (twoP 16 m a b r = res) := ⟨_, hid rfl⟩
  rw [hres.out]
  have hp1 := hid (pop_any a (b :: r) h hs (by have := hrl.out; simp; omega))
  have hlt := hid h.lt
  clear h hs hn ho
  go_enter Tryz.func106, Tryz.ntmps106
  go_wp2_with fail
  refine hp1.out.mono ?_
  rintro e w2 ⟨rfl, S1, hA1, s1, s2, hU1⟩
  have hp2 := hid (pop_any b r hA1 rfl (by have := hrl.out; omega))
  have hS1 := hid s1
  have hS2 := hid s2
  have hUU := hid hU1
  clear hA1 s1 s2 hU1 hp1
  go_wp2_with fail
  refine hp2.out.mono ?_
  rintro e w3 ⟨rfl, hg3⟩
  have hg3 := hid (MGo.comp hS1.out hS2.out hUU.out hg3)
  clear hp2 hS1 hS2 hUU
  obtain ⟨S2, hA0, s1, s2, hU⟩ := hg3.out
  have hA := hid hA0
  have s1 := hid s1
  have s2 := hid s2
  have hU := hid hU
  clear hg3
  go_upto_region 1 with fail
  have hb5 : Hid (Below w3.heap.size w3 ((w3.alloc (.cells #[.int .i64 a.k, .int .i64 a.n, .string a.s] 55)).alloc (.cells #[.int .i64 b.k, .int .i64 b.n, .string b.s] 55))) := hid (below_two _ _)
  have ka := hid (show Blk ((w3.alloc (.cells #[.int .i64 a.k, .int .i64 a.n, .string a.s] 55)).alloc (.cells #[.int .i64 b.k, .int .i64 b.n, .string b.s] 55)) w3.heap.size 55 #[.int .i64 a.k, .int .i64 a.n, .string a.s] from (Blk.new w3 _ _).alloc _)
  have kb := hid (show Blk ((w3.alloc (.cells #[.int .i64 a.k, .int .i64 a.n, .string a.s] 55)).alloc (.cells #[.int .i64 b.k, .int .i64 b.n, .string b.s] 55)) (w3.heap.size + 1) 55 #[.int .i64 b.k, .int .i64 b.n, .string b.s] from Blk.new' _ _ _ (by simp))
  have R := hid (hA.out.below hb5.out)
  have hU := hid (hU.out.trans (Upd.of_below' hb5.out (fun _ => False)) fun _ _ e => e.elim)
  clear hA hb5
  generalize (w3.alloc (.cells #[.int .i64 a.k, .int .i64 a.n, .string a.s] 55)).alloc (.cells #[.int .i64 b.k, .int .i64 b.n, .string b.s] 55) = w5 at *
  have hsz5 : Hid (w.heap.size ≤ w5.heap.size) := hid hU.out.size
  have hp3 : Hid (∀ q, S2 q → q < w3.heap.size) := hid hA0.lt
  generalize w3.heap.size = p3 at *
  have B := hid (Below.refl w5.heap.size w5)
  clear hA0
  have hSl : Hid (∀ q, S2 q → q < w5.heap.size) := hid R.out.lt
  have y0 := ka.out.cell 0
  have y1 := ka.out.cell 1
  have y2 := ka.out.cell 2
  have z0 := kb.out.cell 0
  have z1 := kb.out.cell 1
  have z2 := kb.out.cell 2
  simp only [List.getElem?_toArray, List.getElem?_cons_zero, List.getElem?_cons_succ] at y0 y1 y2 z0 z1 z2
  by_cases hk : a.k = 1 ∧ b.k = 1
  · have hne : Hid (numsE [a, b] = .returned (.tuple #[])) := hid (by unfold numsE; rw [if_pos (by simp [hk.1, hk.2])])
    have hr2 := hid (hr.out.trans (if_pos hk))
    clear hk hr
    go_wp2_with fail
    have hbs := hid ((Below.refl w5.heap.size w5).alloc (Nat.le_refl _) (.cells #[.int .i64 a.k, .int .i64 a.n, .string a.s, .int .i64 b.k, .int .i64 b.n, .string b.s] 55))
    have hnu := hid (numbers_any (S := fun q => q = w5.heap.size) (A := some ⟨w5.heap.size, 0, none⟩) (c := 2) [a, b] (w5.alloc (.cells #[.int .i64 a.k, .int .i64 a.n, .string a.s, .int .i64 b.k, .int .i64 b.n, .string b.s] 55)) (Rd.new w5 55 3 2 #[.int .i64 a.k, .int .i64 a.n, .string a.s, .int .i64 b.k, .int .i64 b.n, .string b.s] w5.heap.size rfl rfl) (by simp))
    rw [hne.out] at hnu
    refine hnu.out.mono ?_
    rintro e w10 ⟨rfl, hb100⟩
    have hb10 := hid (hbs.out.trans (hb100.mono hbs.out.size))
    have R := hid (R.out.below hb10.out)
    have B := hid (B.out.trans (hb10.out.mono B.out.size))
    have ka := hid (ka.out.below_all hb10.out)
    have kb := hid (kb.out.below_all hb10.out)
    clear hb100 hb10 hbs hnu hne y0 y1 y2 z0 z1 z2
    have y0 := ka.out.cell 0
    have y1 := ka.out.cell 1
    have y2 := ka.out.cell 2
    have z0 := kb.out.cell 0
    have z1 := kb.out.cell 1
    have z2 := kb.out.cell 2
    simp only [List.getElem?_toArray, List.getElem?_cons_zero, List.getElem?_cons_succ] at y0 y1 y2 z0 z1 z2
    by_cases hna : a.n ≠ 0
    · by_cases hnb : b.n ≠ 0
      · have ta : (a.n != 0) = true := by simpa using hna
        have tb : (b.n != 0) = true := by simpa using hnb
        have hv : Hid (decide (a.n ≠ 0 ∧ b.n ≠ 0) = true) := hid (by first | exact decide_eq_true (by omega) | exact decide_eq_false (by omega))
        clear hna hnb
        go_wp2_with fail
        refine (truth_any true _).mono ?_
        rintro e w23 ⟨rfl, hb23⟩
        have R := hid (R.out.below hb23)
        have B := hid (B.out.trans (hb23.mono B.out.size))
        have ka := hid (ka.out.below_all hb23)
        have kb := hid (kb.out.below_all hb23)
        clear hb23 y0 y1 y2 z0 z1 z2
        have y0 := ka.out.cell 0
        have y1 := ka.out.cell 1
        have y2 := ka.out.cell 2
        have z0 := kb.out.cell 0
        have z1 := kb.out.cell 1
        have z2 := kb.out.cell 2
        simp only [List.getElem?_toArray, List.getElem?_cons_zero, List.getElem?_cons_succ] at y0 y1 y2 z0 z1 z2
        go_wp2_with fail
        refine (push_any (truV true) R.out (by have := hrl.out; show r.length ≤ 1000; omega)).mono ?_
        rintro e w9 ⟨rfl, hg⟩
        have hg := hid (MGo.comp s1.out s2.out hU.out (hg.pre B.out (fun q hq => by rcases s1.out q hq with e | e; exact Nat.lt_of_lt_of_le (hlt.out q e) hsz5.out; exact hSl.out q hq)))
        go_wp2_with fail
        refine ⟨rfl, .tuple #[], by simp [results, Tryz.results106, go_sem], ?_⟩
        rw [← hres.out, hr2.out, hv.out]
        exact ⟨rfl, hg.out⟩
      · have ta : (a.n != 0) = true := by simpa using hna
        have tb : (b.n != 0) = false := by simpa using hnb
        have hv : Hid (decide (a.n ≠ 0 ∧ b.n ≠ 0) = false) := hid (by first | exact decide_eq_true (by omega) | exact decide_eq_false (by omega))
        clear hna hnb
        go_wp2_with fail
        refine (truth_any false _).mono ?_
        rintro e w24 ⟨rfl, hb24⟩
        have R := hid (R.out.below hb24)
        have B := hid (B.out.trans (hb24.mono B.out.size))
        have ka := hid (ka.out.below_all hb24)
        have kb := hid (kb.out.below_all hb24)
        clear hb24 y0 y1 y2 z0 z1 z2
        have y0 := ka.out.cell 0
        have y1 := ka.out.cell 1
        have y2 := ka.out.cell 2
        have z0 := kb.out.cell 0
        have z1 := kb.out.cell 1
        have z2 := kb.out.cell 2
        simp only [List.getElem?_toArray, List.getElem?_cons_zero, List.getElem?_cons_succ] at y0 y1 y2 z0 z1 z2
        go_wp2_with fail
        refine (push_any (truV false) R.out (by have := hrl.out; show r.length ≤ 1000; omega)).mono ?_
        rintro e w9 ⟨rfl, hg⟩
        have hg := hid (MGo.comp s1.out s2.out hU.out (hg.pre B.out (fun q hq => by rcases s1.out q hq with e | e; exact Nat.lt_of_lt_of_le (hlt.out q e) hsz5.out; exact hSl.out q hq)))
        go_wp2_with fail
        refine ⟨rfl, .tuple #[], by simp [results, Tryz.results106, go_sem], ?_⟩
        rw [← hres.out, hr2.out, hv.out]
        exact ⟨rfl, hg.out⟩
    · by_cases hnb : b.n ≠ 0
      · have ta : (a.n != 0) = false := by simpa using hna
        have tb : (b.n != 0) = true := by simpa using hnb
        have hv : Hid (decide (a.n ≠ 0 ∧ b.n ≠ 0) = false) := hid (by first | exact decide_eq_true (by omega) | exact decide_eq_false (by omega))
        clear hna hnb
        go_wp2_with fail
        refine (truth_any false _).mono ?_
        rintro e w25 ⟨rfl, hb25⟩
        have R := hid (R.out.below hb25)
        have B := hid (B.out.trans (hb25.mono B.out.size))
        have ka := hid (ka.out.below_all hb25)
        have kb := hid (kb.out.below_all hb25)
        clear hb25 y0 y1 y2 z0 z1 z2
        have y0 := ka.out.cell 0
        have y1 := ka.out.cell 1
        have y2 := ka.out.cell 2
        have z0 := kb.out.cell 0
        have z1 := kb.out.cell 1
        have z2 := kb.out.cell 2
        simp only [List.getElem?_toArray, List.getElem?_cons_zero, List.getElem?_cons_succ] at y0 y1 y2 z0 z1 z2
        go_wp2_with fail
        refine (push_any (truV false) R.out (by have := hrl.out; show r.length ≤ 1000; omega)).mono ?_
        rintro e w9 ⟨rfl, hg⟩
        have hg := hid (MGo.comp s1.out s2.out hU.out (hg.pre B.out (fun q hq => by rcases s1.out q hq with e | e; exact Nat.lt_of_lt_of_le (hlt.out q e) hsz5.out; exact hSl.out q hq)))
        go_wp2_with fail
        refine ⟨rfl, .tuple #[], by simp [results, Tryz.results106, go_sem], ?_⟩
        rw [← hres.out, hr2.out, hv.out]
        exact ⟨rfl, hg.out⟩
      · have ta : (a.n != 0) = false := by simpa using hna
        have tb : (b.n != 0) = false := by simpa using hnb
        have hv : Hid (decide (a.n ≠ 0 ∧ b.n ≠ 0) = false) := hid (by first | exact decide_eq_true (by omega) | exact decide_eq_false (by omega))
        clear hna hnb
        go_wp2_with fail
        refine (truth_any false _).mono ?_
        rintro e w26 ⟨rfl, hb26⟩
        have R := hid (R.out.below hb26)
        have B := hid (B.out.trans (hb26.mono B.out.size))
        have ka := hid (ka.out.below_all hb26)
        have kb := hid (kb.out.below_all hb26)
        clear hb26 y0 y1 y2 z0 z1 z2
        have y0 := ka.out.cell 0
        have y1 := ka.out.cell 1
        have y2 := ka.out.cell 2
        have z0 := kb.out.cell 0
        have z1 := kb.out.cell 1
        have z2 := kb.out.cell 2
        simp only [List.getElem?_toArray, List.getElem?_cons_zero, List.getElem?_cons_succ] at y0 y1 y2 z0 z1 z2
        go_wp2_with fail
        refine (push_any (truV false) R.out (by have := hrl.out; show r.length ≤ 1000; omega)).mono ?_
        rintro e w9 ⟨rfl, hg⟩
        have hg := hid (MGo.comp s1.out s2.out hU.out (hg.pre B.out (fun q hq => by rcases s1.out q hq with e | e; exact Nat.lt_of_lt_of_le (hlt.out q e) hsz5.out; exact hSl.out q hq)))
        go_wp2_with fail
        refine ⟨rfl, .tuple #[], by simp [results, Tryz.results106, go_sem], ?_⟩
        rw [← hres.out, hr2.out, hv.out]
        exact ⟨rfl, hg.out⟩
  · have hne : Hid (numsE [a, b] = .panicked [{ v := .iface 92 (.agg #[.int .i64 72, .int .i64 0]), recovered := false }]) := hid (by unfold numsE; rw [if_neg (by simpa using hk)])
    have hr2 := hid (hr.out.trans (if_neg hk))
    clear hk hr
    go_wp2_with fail
    have hbs := hid ((Below.refl w5.heap.size w5).alloc (Nat.le_refl _) (.cells #[.int .i64 a.k, .int .i64 a.n, .string a.s, .int .i64 b.k, .int .i64 b.n, .string b.s] 55))
    have hnu := hid (numbers_any (S := fun q => q = w5.heap.size) (A := some ⟨w5.heap.size, 0, none⟩) (c := 2) [a, b] (w5.alloc (.cells #[.int .i64 a.k, .int .i64 a.n, .string a.s, .int .i64 b.k, .int .i64 b.n, .string b.s] 55)) (Rd.new w5 55 3 2 #[.int .i64 a.k, .int .i64 a.n, .string a.s, .int .i64 b.k, .int .i64 b.n, .string b.s] w5.heap.size rfl rfl) (by simp))
    rw [hne.out] at hnu
    refine hnu.out.mono ?_
    rintro e w10 ⟨rfl, hb100⟩
    have hb10 := hid (hbs.out.trans (hb100.mono hbs.out.size))
    have R := hid (R.out.below hb10.out)
    have B := hid (B.out.trans (hb10.out.mono B.out.size))
    clear hb100 hb10 hbs hnu hne
    go_wp2_with fail
    refine ⟨rfl, ?_⟩
    rw [← hres.out, hr2.out]
    exact ⟨rfl, r, MGo.comp s1.out s2.out hU.out ((R.out.go (Below.refl _ _)).pre B.out hSl.out)⟩
set_option maxRecDepth 100000 in
set_option maxHeartbeats 1000000 in
theorem two17 (a b : Vl) (r : List Vl) (h : MAt S w g F m) (hs : m.st = a :: b :: r) (hn : m.st.length ≤ 100) (ho : m.Ok0) : Calls Tryz.prog 106 #[.pointer (some ⟨g, 0, none⟩), .int .i64 17] w (OpPost S w g F m (twoP 17 m a b r)) := by
  have va := hid (ho.st a (by rw [hs]; exact List.mem_cons_self ..))
  have vb := hid (ho.st b (by rw [hs]; exact List.mem_cons_of_mem _ (List.mem_cons_self ..)))
  have hor : Hid (Mc.Ok0 { m with st := r }) := hid (ho.stk fun v hv => ho.st v (by rw [hs]; exact List.mem_cons_of_mem _ (List.mem_cons_of_mem _ hv)))
  have hrl : Hid (r.length ≤ 98) := hid (by rw [hs] at hn; simp at hn; omega)
  have hr : Hid (twoP 17 m a b r = if a.k = 1 ∧ b.k = 1 then .ok { m with st := truV (decide (a.n ≠ 0 ∨ b.n ≠ 0)) :: r } else .error (72, 0)) := hid rfl
  obtain ⟨res, hres⟩ : ∃ res, Hid (twoP 17 m a b r = res) := ⟨_, hid rfl⟩
  rw [hres.out]
  have hp1 := hid (pop_any a (b :: r) h hs (by have := hrl.out; simp; omega))
  have hlt := hid h.lt
  clear h hs hn ho
  go_enter Tryz.func106, Tryz.ntmps106
  go_wp2_with fail
  refine hp1.out.mono ?_
  rintro e w2 ⟨rfl, S1, hA1, s1, s2, hU1⟩
  have hp2 := hid (pop_any b r hA1 rfl (by have := hrl.out; omega))
  have hS1 := hid s1
  have hS2 := hid s2
  have hUU := hid hU1
  clear hA1 s1 s2 hU1 hp1
  go_wp2_with fail
  refine hp2.out.mono ?_
  rintro e w3 ⟨rfl, hg3⟩
  have hg3 := hid (MGo.comp hS1.out hS2.out hUU.out hg3)
  clear hp2 hS1 hS2 hUU
  obtain ⟨S2, hA0, s1, s2, hU⟩ := hg3.out
  have hA := hid hA0
  have s1 := hid s1
  have s2 := hid s2
  have hU := hid hU
  clear hg3
  go_upto_region 1 with fail
  have hb5 : Hid (Below w3.heap.size w3 ((w3.alloc (.cells #[.int .i64 a.k, .int .i64 a.n, .string a.s] 55)).alloc (.cells #[.int .i64 b.k, .int .i64 b.n, .string b.s] 55))) := hid (below_two _ _)
  have ka := hid (show Blk ((w3.alloc (.cells #[.int .i64 a.k, .int .i64 a.n, .string a.s] 55)).alloc (.cells #[.int .i64 b.k, .int .i64 b.n, .string b.s] 55)) w3.heap.size 55 #[.int .i64 a.k, .int .i64 a.n, .string a.s] from (Blk.new w3 _ _).alloc _)
  have kb := hid (show Blk ((w3.alloc (.cells #[.int .i64 a.k, .int .i64 a.n, .string a.s] 55)).alloc (.cells #[.int .i64 b.k, .int .i64 b.n, .string b.s] 55)) (w3.heap.size + 1) 55 #[.int .i64 b.k, .int .i64 b.n, .string b.s] from Blk.new' _ _ _ (by simp))
  have R := hid (hA.out.below hb5.out)
  have hU := hid (hU.out.trans (Upd.of_below' hb5.out (fun _ => False)) fun _ _ e => e.elim)
  clear hA hb5
  generalize (w3.alloc (.cells #[.int .i64 a.k, .int .i64 a.n, .string a.s] 55)).alloc (.cells #[.int .i64 b.k, .int .i64 b.n, .string b.s] 55) = w5 at *
  have hsz5 : Hid (w.heap.size ≤ w5.heap.size) := hid hU.out.size
  have hp3 : Hid (∀ q, S2 q → q < w3.heap.size) := hid hA0.lt
  generalize w3.heap.size = p3 at *
  have B := hid (Below.refl w5.heap.size w5)
  clear hA0
  have hSl : Hid (∀ q, S2 q → q < w5.heap.size) := hid R.out.lt
  have y0 := ka.out.cell 0
  have y1 := ka.out.cell 1
  have y2 := ka.out.cell 2
  have z0 := kb.out.cell 0
  have z1 := kb.out.cell 1
  have z2 := kb.out.cell 2
  simp only [List.getElem?_toArray, List.getElem?_cons_zero, List.getElem?_cons_succ] at y0 y1 y2 z0 z1 z2
  by_cases hk : a.k = 1 ∧ b.k = 1
  · have hne : Hid (numsE [a, b] = .returned (.tuple #[])) := hid (by unfold numsE; rw [if_pos (by simp [hk.1, hk.2])])
    have hr2 := hid (hr.out.trans (if_pos hk))
    clear hk hr
    go_wp2_with fail
    have hbs := hid ((Below.refl w5.heap.size w5).alloc (Nat.le_refl _) (.cells #[.int .i64 a.k, .int .i64 a.n, .string a.s, .int .i64 b.k, .int .i64 b.n, .string b.s] 55))
    have hnu := hid (numbers_any (S := fun q => q = w5.heap.size) (A := some ⟨w5.heap.size, 0, none⟩) (c := 2) [a, b] (w5.alloc (.cells #[.int .i64 a.k, .int .i64 a.n, .string a.s, .int .i64 b.k, .int .i64 b.n, .string b.s] 55)) (Rd.new w5 55 3 2 #[.int .i64 a.k, .int .i64 a.n, .string a.s, .int .i64 b.k, .int .i64 b.n, .string b.s] w5.heap.size rfl rfl) (by simp))
    rw [hne.out] at hnu
    refine hnu.out.mono ?_
    rintro e w10 ⟨rfl, hb100⟩
    have hb10 := hid (hbs.out.trans (hb100.mono hbs.out.size))
    have R := hid (R.out.below hb10.out)
    have B := hid (B.out.trans (hb10.out.mono B.out.size))
    have ka := hid (ka.out.below_all hb10.out)
    have kb := hid (kb.out.below_all hb10.out)
    clear hb100 hb10 hbs hnu hne y0 y1 y2 z0 z1 z2
    have y0 := ka.out.cell 0
    have y1 := ka.out.cell 1
    have y2 := ka.out.cell 2
    have z0 := kb.out.cell 0
    have z1 := kb.out.cell 1
    have z2 := kb.out.cell 2
    simp only [List.getElem?_toArray, List.getElem?_cons_zero, List.getElem?_cons_succ] at y0 y1 y2 z0 z1 z2
    by_cases hna : a.n ≠ 0
    · by_cases hnb : b.n ≠ 0
      · have ta : (a.n != 0) = true := by simpa using hna
        have tb : (b.n != 0) = true := by simpa using hnb
        have hv : Hid (decide (a.n ≠ 0 ∨ b.n ≠ 0) = true) := hid (by first | exact decide_eq_true (by omega) | exact decide_eq_false (by omega))
        clear hna hnb
        go_wp2_with fail
        refine (truth_any true _).mono ?_
        rintro e w27 ⟨rfl, hb27⟩
        have R := hid (R.out.below hb27)
        have B := hid (B.out.trans (hb27.mono B.out.size))
        have ka := hid (ka.out.below_all hb27)
        have kb := hid (kb.out.below_all hb27)
        clear hb27 y0 y1 y2 z0 z1 z2
        have y0 := ka.out.cell 0
        have y1 := ka.out.cell 1
        have y2 := ka.out.cell 2
        have z0 := kb.out.cell 0
        have z1 := kb.out.cell 1
        have z2 := kb.out.cell 2
        simp only [List.getElem?_toArray, List.getElem?_cons_zero, List.getElem?_cons_succ] at y0 y1 y2 z0 z1 z2
        go_wp2_with fail
        refine (push_any (truV true) R.out (by have := hrl.out; show r.length ≤ 1000; omega)).mono ?_
        rintro e w9 ⟨rfl, hg⟩
        have hg := hid (MGo.comp s1.out s2.out hU.out (hg.pre B.out (fun q hq => by rcases s1.out q hq with e | e; exact Nat.lt_of_lt_of_le (hlt.out q e) hsz5.out; exact hSl.out q hq)))
        go_wp2_with fail
        refine ⟨rfl, .tuple #[], by simp [results, Tryz.results106, go_sem], ?_⟩
        rw [← hres.out, hr2.out, hv.out]
        exact ⟨rfl, hg.out⟩
      · have ta : (a.n != 0) = true := by simpa using hna
        have tb : (b.n != 0) = false := by simpa using hnb
        have hv : Hid (decide (a.n ≠ 0 ∨ b.n ≠ 0) = true) := hid (by first | exact decide_eq_true (by omega) | exact decide_eq_false (by omega))
        clear hna hnb
        go_wp2_with fail
        refine (truth_any true _).mono ?_
        rintro e w28 ⟨rfl, hb28⟩
        have R := hid (R.out.below hb28)
        have B := hid (B.out.trans (hb28.mono B.out.size))
        have ka := hid (ka.out.below_all hb28)
        have kb := hid (kb.out.below_all hb28)
        clear hb28 y0 y1 y2 z0 z1 z2
        have y0 := ka.out.cell 0
        have y1 := ka.out.cell 1
        have y2 := ka.out.cell 2
        have z0 := kb.out.cell 0
        have z1 := kb.out.cell 1
        have z2 := kb.out.cell 2
        simp only [List.getElem?_toArray, List.getElem?_cons_zero, List.getElem?_cons_succ] at y0 y1 y2 z0 z1 z2
        go_wp2_with fail
        refine (push_any (truV true) R.out (by have := hrl.out; show r.length ≤ 1000; omega)).mono ?_
        rintro e w9 ⟨rfl, hg⟩
        have hg := hid (MGo.comp s1.out s2.out hU.out (hg.pre B.out (fun q hq => by rcases s1.out q hq with e | e; exact Nat.lt_of_lt_of_le (hlt.out q e) hsz5.out; exact hSl.out q hq)))
        go_wp2_with fail
        refine ⟨rfl, .tuple #[], by simp [results, Tryz.results106, go_sem], ?_⟩
        rw [← hres.out, hr2.out, hv.out]
        exact ⟨rfl, hg.out⟩
    · by_cases hnb : b.n ≠ 0
      · have ta : (a.n != 0) = false := by simpa using hna
        have tb : (b.n != 0) = true := by simpa using hnb
        have hv : Hid (decide (a.n ≠ 0 ∨ b.n ≠ 0) = true) := hid (by first | exact decide_eq_true (by omega) | exact decide_eq_false (by omega))
        clear hna hnb
        go_wp2_with fail
        refine (truth_any true _).mono ?_
        rintro e w29 ⟨rfl, hb29⟩
        have R := hid (R.out.below hb29)
        have B := hid (B.out.trans (hb29.mono B.out.size))
        have ka := hid (ka.out.below_all hb29)
        have kb := hid (kb.out.below_all hb29)
        clear hb29 y0 y1 y2 z0 z1 z2
        have y0 := ka.out.cell 0
        have y1 := ka.out.cell 1
        have y2 := ka.out.cell 2
        have z0 := kb.out.cell 0
        have z1 := kb.out.cell 1
        have z2 := kb.out.cell 2
        simp only [List.getElem?_toArray, List.getElem?_cons_zero, List.getElem?_cons_succ] at y0 y1 y2 z0 z1 z2
        go_wp2_with fail
        refine (push_any (truV true) R.out (by have := hrl.out; show r.length ≤ 1000; omega)).mono ?_
        rintro e w9 ⟨rfl, hg⟩
        have hg := hid (MGo.comp s1.out s2.out hU.out (hg.pre B.out (fun q hq => by rcases s1.out q hq with e | e; exact Nat.lt_of_lt_of_le (hlt.out q e) hsz5.out; exact hSl.out q hq)))
        go_wp2_with fail
        refine ⟨rfl, .tuple #[], by simp [results, Tryz.results106, go_sem], ?_⟩
        rw [← hres.out, hr2.out, hv.out]
        exact ⟨rfl, hg.out⟩
      · have ta : (a.n != 0) = false := by simpa using hna
        have tb : (b.n != 0) = false := by simpa using hnb
        have hv : Hid (decide (a.n ≠ 0 ∨ b.n ≠ 0) = false) := hid (by first | exact decide_eq_true (by omega) | exact decide_eq_false (by omega))
        clear hna hnb
        go_wp2_with fail
        refine (truth_any false _).mono ?_
        rintro e w30 ⟨rfl, hb30⟩
        have R := hid (R.out.below hb30)
        have B := hid (B.out.trans (hb30.mono B.out.size))
        have ka := hid (ka.out.below_all hb30)
        have kb := hid (kb.out.below_all hb30)
        clear hb30 y0 y1 y2 z0 z1 z2
        have y0 := ka.out.cell 0
        have y1 := ka.out.cell 1
        have y2 := ka.out.cell 2
        have z0 := kb.out.cell 0
        have z1 := kb.out.cell 1
        have z2 := kb.out.cell 2
        simp only [List.getElem?_toArray, List.getElem?_cons_zero, List.getElem?_cons_succ] at y0 y1 y2 z0 z1 z2
        go_wp2_with fail
        refine (push_any (truV false) R.out (by have := hrl.out; show r.length ≤ 1000; omega)).mono ?_
        rintro e w9 ⟨rfl, hg⟩
        have hg := hid (MGo.comp s1.out s2.out hU.out (hg.pre B.out (fun q hq => by rcases s1.out q hq with e | e; exact Nat.lt_of_lt_of_le (hlt.out q e) hsz5.out; exact hSl.out q hq)))
        go_wp2_with fail
        refine ⟨rfl, .tuple #[], by simp [results, Tryz.results106, go_sem], ?_⟩
        rw [← hres.out, hr2.out, hv.out]
        exact ⟨rfl, hg.out⟩
  · have hne : Hid (numsE [a, b] = .panicked [{ v := .iface 92 (.agg #[.int .i64 72, .int .i64 0]), recovered := false }]) := hid (by unfold numsE; rw [if_neg (by simpa using hk)])
    have hr2 := hid (hr.out.trans (if_neg hk))
    clear hk hr
    go_wp2_with fail
    have hbs := hid ((Below.refl w5.heap.size w5).alloc (Nat.le_refl _) (.cells #[.int .i64 a.k, .int .i64 a.n, .string a.s, .int .i64 b.k, .int .i64 b.n, .string b.s] 55))
    have hnu := hid (numbers_any (S := fun q => q = w5.heap.size) (A := some ⟨w5.heap.size, 0, none⟩) (c := 2) [a, b] (w5.alloc (.cells #[.int .i64 a.k, .int .i64 a.n, .string a.s, .int .i64 b.k, .int .i64 b.n, .string b.s] 55)) (Rd.new w5 55 3 2 #[.int .i64 a.k, .int .i64 a.n, .string a.s, .int .i64 b.k, .int .i64 b.n, .string b.s] w5.heap.size rfl rfl) (by simp))
    rw [hne.out] at hnu
    refine hnu.out.mono ?_
    rintro e w10 ⟨rfl, hb100⟩
    have hb10 := hid (hbs.out.trans (hb100.mono hbs.out.size))
    have R := hid (R.out.below hb10.out)
    have B := hid (B.out.trans (hb10.out.mono B.out.size))
    clear hb100 hb10 hbs hnu hne
    go_wp2_with fail
    refine ⟨rfl, ?_⟩
    rw [← hres.out, hr2.out]
    exact ⟨rfl, r, MGo.comp s1.out s2.out hU.out ((R.out.go (Below.refl _ _)).pre B.out hSl.out)⟩
set_option maxRecDepth 100000 in
set_option maxHeartbeats 1000000 in
theorem twoA (op : Int) (a b : Vl) (r : List Vl) (h : MAt S w g F m) (hs : m.st = a :: b :: r) (hn : m.st.length ≤ 100) (ho : m.Ok0) (hop0 : 7 ≤ op ∧ op ≤ 11) : Calls Tryz.prog 106 #[.pointer (some ⟨g, 0, none⟩), .int .i64 op] w (OpPost S w g F m (twoP op m a b r)) := by
  have va := hid (ho.st a (by rw [hs]; exact List.mem_cons_self ..))
  have vb := hid (ho.st b (by rw [hs]; exact List.mem_cons_of_mem _ (List.mem_cons_self ..)))
  have hor : Hid (Mc.Ok0 { m with st := r }) := hid (ho.stk fun v hv => ho.st v (by rw [hs]; exact List.mem_cons_of_mem _ (List.mem_cons_of_mem _ hv)))
  have hrl : Hid (r.length ≤ 98) := hid (by rw [hs] at hn; simp at hn; omega)
  have hr : Hid (twoP op m a b r = if a.k = 1 ∧ b.k = 1 then (match arithP op b.n a.n with | .ok n => .ok { m with st := numVl n :: r } | .error e => .error (e, 0)) else .error (72, 0)) := hid (by
    unfold twoP
    rw [if_neg (by omega), if_neg (by omega), if_neg (by omega), if_neg (by omega)]
    by_cases hk : a.k = 1 ∧ b.k = 1
    · rw [if_pos hk, if_pos hk, if_neg (by omega), if_neg (by omega)]
      cases arithP op b.n a.n <;> rfl
    · rw [if_neg hk, if_neg hk])
  have hop := hid hop0
  have o13 : (op == 13) = false := by simp; omega
  have o14 : (op == 14) = false := by simp; omega
  have o24 : (op == 24) = false := by simp; omega
  have o22 : (op == 22) = false := by simp; omega
  have o16 : (op == 16) = false := by simp; omega
  have o17 : (op == 17) = false := by simp; omega
  clear hop0
  obtain ⟨res, hres⟩ : ∃ res, Hid (twoP op m a b r = res) := ⟨_, hid rfl⟩
  rw [hres.out]
  have hp1 := hid (pop_any a (b :: r) h hs (by have := hrl.out; simp; omega))
  have hlt := hid h.lt
  clear h hs hn ho
  go_enter Tryz.func106, Tryz.ntmps106
  go_wp2_with fail
  refine hp1.out.mono ?_
  rintro e w2 ⟨rfl, S1, hA1, s1, s2, hU1⟩
  have hp2 := hid (pop_any b r hA1 rfl (by have := hrl.out; omega))
  have hS1 := hid s1
  have hS2 := hid s2
  have hUU := hid hU1
  clear hA1 s1 s2 hU1 hp1
  go_wp2_with fail
  refine hp2.out.mono ?_
  rintro e w3 ⟨rfl, hg3⟩
  have hg3 := hid (MGo.comp hS1.out hS2.out hUU.out hg3)
  clear hp2 hS1 hS2 hUU
  obtain ⟨S2, hA0, s1, s2, hU⟩ := hg3.out
  have hA := hid hA0
  have s1 := hid s1
  have s2 := hid s2
  have hU := hid hU
  clear hg3
  go_upto_region 1 with fail
  have hb5 : Hid (Below w3.heap.size w3 ((w3.alloc (.cells #[.int .i64 a.k, .int .i64 a.n, .string a.s] 55)).alloc (.cells #[.int .i64 b.k, .int .i64 b.n, .string b.s] 55))) := hid (below_two _ _)
  have ka := hid (show Blk ((w3.alloc (.cells #[.int .i64 a.k, .int .i64 a.n, .string a.s] 55)).alloc (.cells #[.int .i64 b.k, .int .i64 b.n, .string b.s] 55)) w3.heap.size 55 #[.int .i64 a.k, .int .i64 a.n, .string a.s] from (Blk.new w3 _ _).alloc _)
  have kb := hid (show Blk ((w3.alloc (.cells #[.int .i64 a.k, .int .i64 a.n, .string a.s] 55)).alloc (.cells #[.int .i64 b.k, .int .i64 b.n, .string b.s] 55)) (w3.heap.size + 1) 55 #[.int .i64 b.k, .int .i64 b.n, .string b.s] from Blk.new' _ _ _ (by simp))
  have R := hid (hA.out.below hb5.out)
  have hU := hid (hU.out.trans (Upd.of_below' hb5.out (fun _ => False)) fun _ _ e => e.elim)
  clear hA hb5
  generalize (w3.alloc (.cells #[.int .i64 a.k, .int .i64 a.n, .string a.s] 55)).alloc (.cells #[.int .i64 b.k, .int .i64 b.n, .string b.s] 55) = w5 at *
  have hsz5 : Hid (w.heap.size ≤ w5.heap.size) := hid hU.out.size
  have hp3 : Hid (∀ q, S2 q → q < w3.heap.size) := hid hA0.lt
  generalize w3.heap.size = p3 at *
  have B := hid (Below.refl w5.heap.size w5)
  clear hA0
  have hSl : Hid (∀ q, S2 q → q < w5.heap.size) := hid R.out.lt
  have y0 := ka.out.cell 0
  have y1 := ka.out.cell 1
  have y2 := ka.out.cell 2
  have z0 := kb.out.cell 0
  have z1 := kb.out.cell 1
  have z2 := kb.out.cell 2
  simp only [List.getElem?_toArray, List.getElem?_cons_zero, List.getElem?_cons_succ] at y0 y1 y2 z0 z1 z2
  by_cases hk : a.k = 1 ∧ b.k = 1
  · have hne : Hid (numsE [a, b] = .returned (.tuple #[])) := hid (by unfold numsE; rw [if_pos (by simp [hk.1, hk.2])])
    have hr2 := hid (hr.out.trans (if_pos hk))
    clear hk hr
    go_wp2_with fail
    have hbs := hid ((Below.refl w5.heap.size w5).alloc (Nat.le_refl _) (.cells #[.int .i64 a.k, .int .i64 a.n, .string a.s, .int .i64 b.k, .int .i64 b.n, .string b.s] 55))
    have hnu := hid (numbers_any (S := fun q => q = w5.heap.size) (A := some ⟨w5.heap.size, 0, none⟩) (c := 2) [a, b] (w5.alloc (.cells #[.int .i64 a.k, .int .i64 a.n, .string a.s, .int .i64 b.k, .int .i64 b.n, .string b.s] 55)) (Rd.new w5 55 3 2 #[.int .i64 a.k, .int .i64 a.n, .string a.s, .int .i64 b.k, .int .i64 b.n, .string b.s] w5.heap.size rfl rfl) (by simp))
    rw [hne.out] at hnu
    refine hnu.out.mono ?_
    rintro e w10 ⟨rfl, hb100⟩
    have hb10 := hid (hbs.out.trans (hb100.mono hbs.out.size))
    have R := hid (R.out.below hb10.out)
    have B := hid (B.out.trans (hb10.out.mono B.out.size))
    have ka := hid (ka.out.below_all hb10.out)
    have kb := hid (kb.out.below_all hb10.out)
    clear hb100 hb10 hbs hnu hne y0 y1 y2 z0 z1 z2
    have y0 := ka.out.cell 0
    have y1 := ka.out.cell 1
    have y2 := ka.out.cell 2
    have z0 := kb.out.cell 0
    have z1 := kb.out.cell 1
    have z2 := kb.out.cell 2
    simp only [List.getElem?_toArray, List.getElem?_cons_zero, List.getElem?_cons_succ] at y0 y1 y2 z0 z1 z2
    cases har : arithP op b.n a.n with
    | ok n9 =>
      have hae : Hid (∀ w : World, Calls Tryz.prog 146 #[.int .i64 op, .int .i64 b.n, .int .i64 a.n] w fun e w' => e = .returned (.agg #[.int .i64 1, .int .i64 n9, .string ⟨#[]⟩]) ∧ Below w.heap.size w w') := hid fun w => by
        have h9 := arith_any (w := w) op b.n a.n hop.out (inR_iff.2 vb.out.2) (inR_iff.2 va.out.2)
        rw [har] at h9
        exact h9
      have hr3 := hid hr2.out
      rw [har] at hr3
      clear hr2 har
      go_wp2_with fail
      refine (hae.out _).mono ?_
      rintro e w31 ⟨rfl, hb31⟩
      have R := hid (R.out.below hb31)
      have B := hid (B.out.trans (hb31.mono B.out.size))
      have ka := hid (ka.out.below_all hb31)
      have kb := hid (kb.out.below_all hb31)
      clear hb31 y0 y1 y2 z0 z1 z2
      have y0 := ka.out.cell 0
      have y1 := ka.out.cell 1
      have y2 := ka.out.cell 2
      have z0 := kb.out.cell 0
      have z1 := kb.out.cell 1
      have z2 := kb.out.cell 2
      simp only [List.getElem?_toArray, List.getElem?_cons_zero, List.getElem?_cons_succ] at y0 y1 y2 z0 z1 z2
      go_wp2_with fail
      refine (push_num n9 R.out (by have := hrl.out; show r.length ≤ 1000; omega)).mono ?_
      rintro e w9 ⟨rfl, hg⟩
      have hg := hid (MGo.comp s1.out s2.out hU.out (hg.pre B.out (fun q hq => by rcases s1.out q hq with e | e; exact Nat.lt_of_lt_of_le (hlt.out q e) hsz5.out; exact hSl.out q hq)))
      go_wp2_with fail
      refine ⟨rfl, .tuple #[], by simp [results, Tryz.results106, go_sem], ?_⟩
      rw [← hres.out, hr3.out]
      exact ⟨rfl, hg.out⟩
    | error x9 =>
      have hae : Hid (∀ w : World, Calls Tryz.prog 146 #[.int .i64 op, .int .i64 b.n, .int .i64 a.n] w fun e w' => e = .panicked [{ v := .iface 92 (.agg #[.int .i64 x9, .int .i64 0]), recovered := false }] ∧ Below w.heap.size w w') := hid fun w => by
        have h9 := arith_any (w := w) op b.n a.n hop.out (inR_iff.2 vb.out.2) (inR_iff.2 va.out.2)
        rw [har] at h9
        exact h9
      have hr3 := hid hr2.out
      rw [har] at hr3
      clear hr2 har
      go_wp2_with fail
      refine (hae.out _).mono ?_
      rintro e w32 ⟨rfl, hb32⟩
      have R := hid (R.out.below hb32)
      have B := hid (B.out.trans (hb32.mono B.out.size))
      have ka := hid (ka.out.below_all hb32)
      have kb := hid (kb.out.below_all hb32)
      clear hb32 y0 y1 y2 z0 z1 z2
      go_wp2_with fail
      refine ⟨rfl, ?_⟩
      rw [← hres.out, hr3.out]
      exact ⟨rfl, r, MGo.comp s1.out s2.out hU.out ((R.out.go (Below.refl _ _)).pre B.out hSl.out)⟩
  · have hne : Hid (numsE [a, b] = .panicked [{ v := .iface 92 (.agg #[.int .i64 72, .int .i64 0]), recovered := false }]) := hid (by unfold numsE; rw [if_neg (by simpa using hk)])
    have hr2 := hid (hr.out.trans (if_neg hk))
    clear hk hr
    go_wp2_with fail
    have hbs := hid ((Below.refl w5.heap.size w5).alloc (Nat.le_refl _) (.cells #[.int .i64 a.k, .int .i64 a.n, .string a.s, .int .i64 b.k, .int .i64 b.n, .string b.s] 55))
    have hnu := hid (numbers_any (S := fun q => q = w5.heap.size) (A := some ⟨w5.heap.size, 0, none⟩) (c := 2) [a, b] (w5.alloc (.cells #[.int .i64 a.k, .int .i64 a.n, .string a.s, .int .i64 b.k, .int .i64 b.n, .string b.s] 55)) (Rd.new w5 55 3 2 #[.int .i64 a.k, .int .i64 a.n, .string a.s, .int .i64 b.k, .int .i64 b.n, .string b.s] w5.heap.size rfl rfl) (by simp))
    rw [hne.out] at hnu
    refine hnu.out.mono ?_
    rintro e w10 ⟨rfl, hb100⟩
    have hb10 := hid (hbs.out.trans (hb100.mono hbs.out.size))
    have R := hid (R.out.below hb10.out)
    have B := hid (B.out.trans (hb10.out.mono B.out.size))
    clear hb100 hb10 hbs hnu hne
    go_wp2_with fail
    refine ⟨rfl, ?_⟩
    rw [← hres.out, hr2.out]
    exact ⟨rfl, r, MGo.comp s1.out s2.out hU.out ((R.out.go (Below.refl _ _)).pre B.out hSl.out)⟩
set_option maxRecDepth 100000 in
set_option maxHeartbeats 1000000 in
theorem two22 (a b : Vl) (r : List Vl) (h : MAt S w g F m) (hs : m.st = a :: b :: r) (hn : m.st.length ≤ 100) (ho : m.Ok0) : Calls Tryz.prog 106 #[.pointer (some ⟨g, 0, none⟩), .int .i64 22] w (OpPost S w g F m (twoP 22 m a b r)) := by
  have va := hid (ho.st a (by rw [hs]; exact List.mem_cons_self ..))
  have vb := hid (ho.st b (by rw [hs]; exact List.mem_cons_of_mem _ (List.mem_cons_self ..)))
  have hor : Hid (Mc.Ok0 { m with st := r }) := hid (ho.stk fun v hv => ho.st v (by rw [hs]; exact List.mem_cons_of_mem _ (List.mem_cons_of_mem _ hv)))
  have hrl : Hid (r.length ≤ 98) := hid (by rw [hs] at hn; simp at hn; omega)
  have hr : Hid (twoP 22 m a b r = if b.k = 2 ∧ a.k ≠ 0 then (if validK b.s = false then .error (30, 0) else ({ m with st := r } : Mc).write ⟨b.s, false, a⟩) else .error (72, 0)) := hid rfl
  obtain ⟨res, hres⟩ : ∃ res, Hid (twoP 22 m a b r = res) := ⟨_, hid rfl⟩
  rw [hres.out]
  have hp1 := hid (pop_any a (b :: r) h hs (by have := hrl.out; simp; omega))
  have hlt := hid h.lt
  clear h hs hn ho
  go_enter Tryz.func106, Tryz.ntmps106
  go_wp2_with fail
  refine hp1.out.mono ?_
  rintro e w2 ⟨rfl, S1, hA1, s1, s2, hU1⟩
  have hp2 := hid (pop_any b r hA1 rfl (by have := hrl.out; omega))
  have hS1 := hid s1
  have hS2 := hid s2
  have hUU := hid hU1
  clear hA1 s1 s2 hU1 hp1
  go_wp2_with fail
  refine hp2.out.mono ?_
  rintro e w3 ⟨rfl, hg3⟩
  have hg3 := hid (MGo.comp hS1.out hS2.out hUU.out hg3)
  clear hp2 hS1 hS2 hUU
  obtain ⟨S2, hA0, s1, s2, hU⟩ := hg3.out
  have hA := hid hA0
  have s1 := hid s1
  have s2 := hid s2
  have hU := hid hU
  clear hg3
  go_upto_region 1 with fail
  have hb5 : Hid (Below w3.heap.size w3 ((w3.alloc (.cells #[.int .i64 a.k, .int .i64 a.n, .string a.s] 55)).alloc (.cells #[.int .i64 b.k, .int .i64 b.n, .string b.s] 55))) := hid (below_two _ _)
  have ka := hid (show Blk ((w3.alloc (.cells #[.int .i64 a.k, .int .i64 a.n, .string a.s] 55)).alloc (.cells #[.int .i64 b.k, .int .i64 b.n, .string b.s] 55)) w3.heap.size 55 #[.int .i64 a.k, .int .i64 a.n, .string a.s] from (Blk.new w3 _ _).alloc _)
  have kb := hid (show Blk ((w3.alloc (.cells #[.int .i64 a.k, .int .i64 a.n, .string a.s] 55)).alloc (.cells #[.int .i64 b.k, .int .i64 b.n, .string b.s] 55)) (w3.heap.size + 1) 55 #[.int .i64 b.k, .int .i64 b.n, .string b.s] from Blk.new' _ _ _ (by simp))
  have R := hid (hA.out.below hb5.out)
  have hU := hid (hU.out.trans (Upd.of_below' hb5.out (fun _ => False)) fun _ _ e => e.elim)
  clear hA hb5
  generalize (w3.alloc (.cells #[.int .i64 a.k, .int .i64 a.n, .string a.s] 55)).alloc (.cells #[.int .i64 b.k, .int .i64 b.n, .string b.s] 55) = w5 at *
  have hsz5 : Hid (w.heap.size ≤ w5.heap.size) := hid hU.out.size
  have hp3 : Hid (∀ q, S2 q → q < w3.heap.size) := hid hA0.lt
  generalize w3.heap.size = p3 at *
  have B := hid (Below.refl w5.heap.size w5)
  clear hA0
  have hSl : Hid (∀ q, S2 q → q < w5.heap.size) := hid R.out.lt
  have y0 := ka.out.cell 0
  have y1 := ka.out.cell 1
  have y2 := ka.out.cell 2
  have z0 := kb.out.cell 0
  have z1 := kb.out.cell 1
  have z2 := kb.out.cell 2
  simp only [List.getElem?_toArray, List.getElem?_cons_zero, List.getElem?_cons_succ] at y0 y1 y2 z0 z1 z2
  by_cases hb : b.k = 2
  · have tb2 : (b.k == 2) = true := by simpa using hb
    by_cases ha : a.k = 0
    · have ta0 : (a.k != 0) = false := by simpa using ha
      have hr2 := hid (hr.out.trans (if_neg fun h => h.2 ha))
      clear ha hb hr
      go_wp2_with fail
      refine (needs_f _ _ (by decide)).mono ?_
      rintro e wq ⟨rfl, hwq⟩
      obtain rfl := hwq.symm
      go_wp2_with fail
      refine ⟨rfl, ?_⟩
      rw [← hres.out, hr2.out]
      exact ⟨rfl, r, MGo.comp s1.out s2.out hU.out ((R.out.go (Below.refl _ _)).pre B.out hSl.out)⟩
    · have ta0 : (a.k != 0) = true := by simpa using ha
      have hr2 := hid (hr.out.trans (if_pos ⟨hb, ha⟩))
      have hkb := hid hb
      clear ha hb hr
      cases hv : validK b.s with
      | false =>
        have hky : Hid (∀ w : World, Calls Tryz.prog 145 #[.agg #[.int .i64 b.k, .int .i64 b.n, .string b.s]] w fun e w' => e = .panicked [{ v := .iface 92 (.agg #[.int .i64 30, .int .i64 0]), recovered := false }] ∧ Below w.heap.size w w') := hid fun w => by
          have h9 := key_any b w (by have := isz_le vb.out.1; omega)
          have hk : keyE b = 30 := by unfold keyE; rw [if_neg (by rw [hkb.out]; decide), if_pos hv]
          have he : keyEnd b = .panicked [{ v := .iface 92 (.agg #[.int .i64 30, .int .i64 0]), recovered := false }] := by unfold keyEnd; rw [if_neg (by rw [hk]; decide), hk]
          rw [he] at h9
          exact h9
        have hr3 := hid (hr2.out.trans (if_pos hv))
        clear hv hr2
        go_wp2_with fail
        refine (needs_t _ _).mono ?_
        rintro e wq ⟨rfl, hwq⟩
        obtain rfl := hwq.symm
        go_upto_region 19 with fail
        refine wp_region_held_drew (S := fun w'' => Blk w'' p3 55 #[.int .i64 a.k, .int .i64 a.n, .string a.s] ∧ Blk w'' (p3 + 1) 55 #[.int .i64 b.k, .int .i64 b.n, .string b.s]) (by kernel_rfl) ?_ (fun hHeld => ?_)
        · exact ⟨ka.out.drew, kb.out.drew⟩
        have hdr := hid ((Below.refl w5.heap.size w5).drew)
        have R := hid (R.out.below hdr.out)
        have B := hid (B.out.trans (hdr.out.mono B.out.size))
        clear hdr
        generalize World.drew w5 = wd at *
        refine wpAnyH_take (i := 0) (v := ?v1) rfl (by kernel_rfl) (by kernel_rfl) (by kernel_rfl) (fun _ _ _ h => h) (Or.inl ⟨by rfl, ?hy1⟩) (by assumption) ?rest1
        case hy1 => intro w' hSw; have y0 := hSw.1.cell 0; have y1 := hSw.1.cell 1; have y2 := hSw.1.cell 2; have z0 := hSw.2.cell 0; have z1 := hSw.2.cell 1; have z2 := hSw.2.cell 2; simp only [List.getElem?_toArray, List.getElem?_cons_zero, List.getElem?_cons_succ] at y0 y1 y2 z0 z1 z2; (try dsimp only at hSw); go_simp; try with_reducible rfl
        (try simp only [Act.put, List.setIfInBounds_toArray, List.set_cons_zero, List.set_cons_succ, List.getElem_toArray, List.getElem_cons_zero, List.getElem_cons_succ])
        refine wpAnyH_take (i := 1) (v := ?v2) rfl (by kernel_rfl) (by kernel_rfl) (by kernel_rfl) (fun _ _ _ h => h) (Or.inl ⟨by rfl, ?hy2⟩) (by assumption) ?rest2
        case hy2 => intro w' hSw; have y0 := hSw.1.cell 0; have y1 := hSw.1.cell 1; have y2 := hSw.1.cell 2; have z0 := hSw.2.cell 0; have z1 := hSw.2.cell 1; have z2 := hSw.2.cell 2; simp only [List.getElem?_toArray, List.getElem?_cons_zero, List.getElem?_cons_succ] at y0 y1 y2 z0 z1 z2; (try dsimp only at hSw); go_simp; try with_reducible rfl
        (try simp only [Act.put, List.setIfInBounds_toArray, List.set_cons_zero, List.set_cons_succ, List.getElem_toArray, List.getElem_cons_zero, List.getElem_cons_succ])
        refine wpAnyH_take (i := 3) (v := ?v3) rfl (by kernel_rfl) (by kernel_rfl) (by kernel_rfl) (fun _ _ _ h => h) (Or.inl ⟨by rfl, ?hy3⟩) (by assumption) ?rest3
        case hy3 => intro w' hSw; have y0 := hSw.1.cell 0; have y1 := hSw.1.cell 1; have y2 := hSw.1.cell 2; have z0 := hSw.2.cell 0; have z1 := hSw.2.cell 1; have z2 := hSw.2.cell 2; simp only [List.getElem?_toArray, List.getElem?_cons_zero, List.getElem?_cons_succ] at y0 y1 y2 z0 z1 z2; (try dsimp only at hSw); go_simp; try with_reducible rfl
        (try simp only [Act.put, List.setIfInBounds_toArray, List.set_cons_zero, List.set_cons_succ, List.getElem_toArray, List.getElem_cons_zero, List.getElem_cons_succ])
        refine wpAnyH_ready (rs := [2]) (by kernel_rfl) (by simp) ?_
        refine AllReadyH.cons rfl (fun K hK => ?_) AllReadyH.nil
        go_simp
        refine (hky.out _).mono ?_
        rintro e wk ⟨rfl, hbk⟩
        have R := hid (R.out.below hbk)
        have B := hid (B.out.trans (hbk.mono B.out.size))
        refine ⟨rfl, ?_⟩
        rw [← hres.out, hr3.out]
        exact ⟨rfl, r, MGo.comp s1.out s2.out hU.out ((R.out.go (Below.refl _ _)).pre B.out hSl.out)⟩
      | true =>
        have hky : Hid (∀ w : World, Calls Tryz.prog 145 #[.agg #[.int .i64 b.k, .int .i64 b.n, .string b.s]] w fun e w' => e = .returned (.string b.s) ∧ Below w.heap.size w w') := hid fun w => by
          have h9 := key_any b w (by have := isz_le vb.out.1; omega)
          have hk : keyE b = 0 := by unfold keyE; rw [if_neg (by rw [hkb.out]; decide), if_neg (by rw [hv]; decide)]
          have he : keyEnd b = .returned (.string b.s) := by unfold keyEnd; rw [if_pos hk]
          rw [he] at h9
          exact h9
        have hr3 := hid (hr2.out.trans (if_neg (by rw [hv]; decide)))
        clear hv hr2
        cases hq : ({ m with st := r } : Mc).write ⟨b.s, false, a⟩ with
        | ok m9 =>
          rw [hq] at hr3
          go_wp2_with fail
          refine (needs_t _ _).mono ?_
          rintro e wq ⟨rfl, hwq⟩
          obtain rfl := hwq.symm
          go_upto_region 19 with fail
          refine wp_region_held_drew (S := fun w'' => Blk w'' p3 55 #[.int .i64 a.k, .int .i64 a.n, .string a.s] ∧ Blk w'' (p3 + 1) 55 #[.int .i64 b.k, .int .i64 b.n, .string b.s]) (by kernel_rfl) ?_ (fun hHeld => ?_)
          · exact ⟨ka.out.drew, kb.out.drew⟩
          have hdr := hid ((Below.refl w5.heap.size w5).drew)
          have R := hid (R.out.below hdr.out)
          have B := hid (B.out.trans (hdr.out.mono B.out.size))
          clear hdr
          generalize World.drew w5 = wd at *
          refine wpAnyH_take (i := 0) (v := ?v4) rfl (by kernel_rfl) (by kernel_rfl) (by kernel_rfl) (fun _ _ _ h => h) (Or.inl ⟨by rfl, ?hy4⟩) (by assumption) ?rest4
          case hy4 => intro w' hSw; have y0 := hSw.1.cell 0; have y1 := hSw.1.cell 1; have y2 := hSw.1.cell 2; have z0 := hSw.2.cell 0; have z1 := hSw.2.cell 1; have z2 := hSw.2.cell 2; simp only [List.getElem?_toArray, List.getElem?_cons_zero, List.getElem?_cons_succ] at y0 y1 y2 z0 z1 z2; (try dsimp only at hSw); go_simp; try with_reducible rfl
          (try simp only [Act.put, List.setIfInBounds_toArray, List.set_cons_zero, List.set_cons_succ, List.getElem_toArray, List.getElem_cons_zero, List.getElem_cons_succ])
          refine wpAnyH_take (i := 1) (v := ?v5) rfl (by kernel_rfl) (by kernel_rfl) (by kernel_rfl) (fun _ _ _ h => h) (Or.inl ⟨by rfl, ?hy5⟩) (by assumption) ?rest5
          case hy5 => intro w' hSw; have y0 := hSw.1.cell 0; have y1 := hSw.1.cell 1; have y2 := hSw.1.cell 2; have z0 := hSw.2.cell 0; have z1 := hSw.2.cell 1; have z2 := hSw.2.cell 2; simp only [List.getElem?_toArray, List.getElem?_cons_zero, List.getElem?_cons_succ] at y0 y1 y2 z0 z1 z2; (try dsimp only at hSw); go_simp; try with_reducible rfl
          (try simp only [Act.put, List.setIfInBounds_toArray, List.set_cons_zero, List.set_cons_succ, List.getElem_toArray, List.getElem_cons_zero, List.getElem_cons_succ])
          refine wpAnyH_take (i := 3) (v := ?v6) rfl (by kernel_rfl) (by kernel_rfl) (by kernel_rfl) (fun _ _ _ h => h) (Or.inl ⟨by rfl, ?hy6⟩) (by assumption) ?rest6
          case hy6 => intro w' hSw; have y0 := hSw.1.cell 0; have y1 := hSw.1.cell 1; have y2 := hSw.1.cell 2; have z0 := hSw.2.cell 0; have z1 := hSw.2.cell 1; have z2 := hSw.2.cell 2; simp only [List.getElem?_toArray, List.getElem?_cons_zero, List.getElem?_cons_succ] at y0 y1 y2 z0 z1 z2; (try dsimp only at hSw); go_simp; try with_reducible rfl
          (try simp only [Act.put, List.setIfInBounds_toArray, List.set_cons_zero, List.set_cons_succ, List.getElem_toArray, List.getElem_cons_zero, List.getElem_cons_succ])
          refine wpAnyH_ready (rs := [2]) (by kernel_rfl) (by simp) ?_
          refine AllReadyH.cons rfl (fun K hK => ?_) AllReadyH.nil
          go_simp
          refine (hky.out _).mono ?_
          rintro e wk ⟨rfl, hbk⟩
          have hsk : Hid (Blk wk p3 55 #[.int .i64 a.k, .int .i64 a.n, .string a.s] ∧ Blk wk (p3 + 1) 55 #[.int .i64 b.k, .int .i64 b.n, .string b.s]) := hid ⟨hHeld.1.below_all hbk, hHeld.2.below_all hbk⟩
          have R := hid (R.out.below hbk)
          have B := hid (B.out.trans (hbk.mono B.out.size))
          clear hbk
          refine hK.out _ _ ?_ (fun hHeld => ?_)
          · exact hsk.out
          clear hK K
          (try simp only [Act.put, List.setIfInBounds_toArray, List.set_cons_zero, List.set_cons_succ, List.getElem_toArray, List.getElem_cons_zero, List.getElem_cons_succ])
          refine wpAnyH_take (i := 4) (v := ?v7) rfl (by kernel_rfl) (by kernel_rfl) (by kernel_rfl) (fun _ _ _ h => h) (Or.inl ⟨by rfl, ?hy7⟩) (by assumption) ?rest7
          case hy7 => intro w' hSw; (try dsimp only at hSw); go_simp; try with_reducible rfl
          (try simp only [Act.put, List.setIfInBounds_toArray, List.set_cons_zero, List.set_cons_succ, List.getElem_toArray, List.getElem_cons_zero, List.getElem_cons_succ])
          refine wpAnyH_ready (rs := [5]) (by kernel_rfl) (by simp) ?_
          refine AllReadyH.cons rfl (fun K hK => ?_) AllReadyH.nil
          go_simp
          have hwr := hid (write_any ⟨b.s, false, a⟩ R.out hor.out)
          rw [hq] at hwr
          refine hwr.out.mono ?_
          rintro e w9 ⟨rfl, hg⟩
          have hsk : Hid (Blk w9 p3 55 #[.int .i64 a.k, .int .i64 a.n, .string a.s] ∧ Blk w9 (p3 + 1) 55 #[.int .i64 b.k, .int .i64 b.n, .string b.s]) := hid (by
            obtain ⟨_, _, _, _, hu9⟩ := hg
            exact ⟨hHeld.1.upd hu9 fun e => by have := hp3.out _ e; omega, hHeld.2.upd hu9 fun e => by have := hp3.out _ e; omega⟩)
          have hg := hid (MGo.comp s1.out s2.out hU.out (hg.pre B.out hSl.out))
          refine hK.out _ _ ?_ (fun hHeld => ?_)
          · exact hsk.out
          clear hK K
          (try simp only [Act.put, List.setIfInBounds_toArray, List.set_cons_zero, List.set_cons_succ, List.getElem_toArray, List.getElem_cons_zero, List.getElem_cons_succ])
          refine wpAnyH_done (by kernel_rfl) ?_ _
          go_wp2_with fail
          refine ⟨rfl, .tuple #[], by simp [results, Tryz.results106, go_sem], ?_⟩
          rw [← hres.out, hr3.out]
          exact ⟨rfl, hg.out⟩
        | error er =>
          rw [hq] at hr3
          go_wp2_with fail
          refine (needs_t _ _).mono ?_
          rintro e wq ⟨rfl, hwq⟩
          obtain rfl := hwq.symm
          go_upto_region 19 with fail
          refine wp_region_held_drew (S := fun w'' => Blk w'' p3 55 #[.int .i64 a.k, .int .i64 a.n, .string a.s] ∧ Blk w'' (p3 + 1) 55 #[.int .i64 b.k, .int .i64 b.n, .string b.s]) (by kernel_rfl) ?_ (fun hHeld => ?_)
          · exact ⟨ka.out.drew, kb.out.drew⟩
          have hdr := hid ((Below.refl w5.heap.size w5).drew)
          have R := hid (R.out.below hdr.out)
          have B := hid (B.out.trans (hdr.out.mono B.out.size))
          clear hdr
          generalize World.drew w5 = wd at *
          refine wpAnyH_take (i := 0) (v := ?v8) rfl (by kernel_rfl) (by kernel_rfl) (by kernel_rfl) (fun _ _ _ h => h) (Or.inl ⟨by rfl, ?hy8⟩) (by assumption) ?rest8
          case hy8 => intro w' hSw; have y0 := hSw.1.cell 0; have y1 := hSw.1.cell 1; have y2 := hSw.1.cell 2; have z0 := hSw.2.cell 0; have z1 := hSw.2.cell 1; have z2 := hSw.2.cell 2; simp only [List.getElem?_toArray, List.getElem?_cons_zero, List.getElem?_cons_succ] at y0 y1 y2 z0 z1 z2; (try dsimp only at hSw); go_simp; try with_reducible rfl
          (try simp only [Act.put, List.setIfInBounds_toArray, List.set_cons_zero, List.set_cons_succ, List.getElem_toArray, List.getElem_cons_zero, List.getElem_cons_succ])
          refine wpAnyH_take (i := 1) (v := ?v9) rfl (by kernel_rfl) (by kernel_rfl) (by kernel_rfl) (fun _ _ _ h => h) (Or.inl ⟨by rfl, ?hy9⟩) (by assumption) ?rest9
          case hy9 => intro w' hSw; have y0 := hSw.1.cell 0; have y1 := hSw.1.cell 1; have y2 := hSw.1.cell 2; have z0 := hSw.2.cell 0; have z1 := hSw.2.cell 1; have z2 := hSw.2.cell 2; simp only [List.getElem?_toArray, List.getElem?_cons_zero, List.getElem?_cons_succ] at y0 y1 y2 z0 z1 z2; (try dsimp only at hSw); go_simp; try with_reducible rfl
          (try simp only [Act.put, List.setIfInBounds_toArray, List.set_cons_zero, List.set_cons_succ, List.getElem_toArray, List.getElem_cons_zero, List.getElem_cons_succ])
          refine wpAnyH_take (i := 3) (v := ?v10) rfl (by kernel_rfl) (by kernel_rfl) (by kernel_rfl) (fun _ _ _ h => h) (Or.inl ⟨by rfl, ?hy10⟩) (by assumption) ?rest10
          case hy10 => intro w' hSw; have y0 := hSw.1.cell 0; have y1 := hSw.1.cell 1; have y2 := hSw.1.cell 2; have z0 := hSw.2.cell 0; have z1 := hSw.2.cell 1; have z2 := hSw.2.cell 2; simp only [List.getElem?_toArray, List.getElem?_cons_zero, List.getElem?_cons_succ] at y0 y1 y2 z0 z1 z2; (try dsimp only at hSw); go_simp; try with_reducible rfl
          (try simp only [Act.put, List.setIfInBounds_toArray, List.set_cons_zero, List.set_cons_succ, List.getElem_toArray, List.getElem_cons_zero, List.getElem_cons_succ])
          refine wpAnyH_ready (rs := [2]) (by kernel_rfl) (by simp) ?_
          refine AllReadyH.cons rfl (fun K hK => ?_) AllReadyH.nil
          go_simp
          refine (hky.out _).mono ?_
          rintro e wk ⟨rfl, hbk⟩
          have hsk : Hid (Blk wk p3 55 #[.int .i64 a.k, .int .i64 a.n, .string a.s] ∧ Blk wk (p3 + 1) 55 #[.int .i64 b.k, .int .i64 b.n, .string b.s]) := hid ⟨hHeld.1.below_all hbk, hHeld.2.below_all hbk⟩
          have R := hid (R.out.below hbk)
          have B := hid (B.out.trans (hbk.mono B.out.size))
          clear hbk
          refine hK.out _ _ ?_ (fun hHeld => ?_)
          · exact hsk.out
          clear hK K
          (try simp only [Act.put, List.setIfInBounds_toArray, List.set_cons_zero, List.set_cons_succ, List.getElem_toArray, List.getElem_cons_zero, List.getElem_cons_succ])
          refine wpAnyH_take (i := 4) (v := ?v11) rfl (by kernel_rfl) (by kernel_rfl) (by kernel_rfl) (fun _ _ _ h => h) (Or.inl ⟨by rfl, ?hy11⟩) (by assumption) ?rest11
          case hy11 => intro w' hSw; (try dsimp only at hSw); go_simp; try with_reducible rfl
          (try simp only [Act.put, List.setIfInBounds_toArray, List.set_cons_zero, List.set_cons_succ, List.getElem_toArray, List.getElem_cons_zero, List.getElem_cons_succ])
          refine wpAnyH_ready (rs := [5]) (by kernel_rfl) (by simp) ?_
          refine AllReadyH.cons rfl (fun K hK => ?_) AllReadyH.nil
          go_simp
          have hwr := hid (write_any ⟨b.s, false, a⟩ R.out hor.out)
          rw [hq] at hwr
          refine hwr.out.mono ?_
          rintro e w9 ⟨rfl, hg⟩
          have hg := hid (MGo.comp s1.out s2.out hU.out (hg.pre B.out hSl.out))
          refine ⟨rfl, ?_⟩
          rw [← hres.out, hr3.out]
          exact ⟨rfl, r, hg.out⟩
  · have tb2 : (b.k == 2) = false := by simpa using hb
    have hr2 := hid (hr.out.trans (if_neg fun h => hb h.1))
    clear hb hr
    go_wp2_with fail
    refine (needs_f _ _ (by decide)).mono ?_
    rintro e wq ⟨rfl, hwq⟩
    obtain rfl := hwq.symm
    go_wp2_with fail
    refine ⟨rfl, ?_⟩
    rw [← hres.out, hr2.out]
    exact ⟨rfl, r, MGo.comp s1.out s2.out hU.out ((R.out.go (Below.refl _ _)).pre B.out hSl.out)⟩
theorem two_any (op : Int) (hop : op = 13 ∨ op = 14 ∨ op = 24 ∨ op = 22 ∨ op = 16 ∨ op = 17 ∨ (7 ≤ op ∧ op ≤ 11)) (a b : Vl) (r : List Vl) (h : MAt S w g F m) (hs : m.st = a :: b :: r) (hn : m.st.length ≤ 100) (ho : m.Ok0) : Calls Tryz.prog 106 #[.pointer (some ⟨g, 0, none⟩), .int .i64 op] w (OpPost S w g F m (twoP op m a b r)) := by
  rcases hop with rfl | rfl | rfl | rfl | rfl | rfl | h7
  · exact two13 a b r h hs hn ho
  · exact two14 a b r h hs hn ho
  · exact two24 a b r h hs hn ho
  · exact two22 a b r h hs hn ho
  · exact two16 a b r h hs hn ho
  · exact two17 a b r h hs hn ho
  · exact twoA op a b r h hs hn ho h7
end
end Go.Proofs.YtdmogoaaecdbaaaGreatDoor


/- quorum: compare. -/
import Derived.Test.YtbgopicpdpkccaaGNode
namespace Go.Proofs.Ytbgopicpdpkccaa
open Go.RowKit
set_option linter.unusedVariables false
set_option linter.unusedSimpArgs false

def c3 (x y : Int) : Int := if x < y then -1 else if y < x then 1 else 0
def orI (x y : Int) : Int := if x ≠ 0 then x else y
def cmpB (a b : Bal) : Int := orI (c3 a.rd b.rd) (c3 a.nd b.nd)
theorem nan_int64 (x : Int) (w : World) : Calls Try.prog 74 #[.int .i64 x] w fun e w' => e = .returned (.bool false) ∧ w' = w := by
  have tt : (x != x) = false := by simp
  go_enter Try.func74, Try.ntmps74
  go_wp2_with fail
  go_ret
  exact ⟨by first | rfl | trivial, by first | rfl | trivial⟩
theorem cmp_int64 (x y : Int) (w : World) : Calls Try.prog 63 #[.int .i64 x, .int .i64 y] w fun e w' => e = .returned (.int .i64 (c3 x y)) ∧ w' = w := by
  by_cases h1 : x < y
  · have hc : Hid (c3 x y = -1) := hid (by unfold c3; rw [if_pos h1])
    have t1 : decide (x < y) = true := decide_eq_true h1
    clear h1
    go_enter Try.func63, Try.ntmps63
    go_wp2_with (go_at_call 74; refine (nan_int64 _ _).mono ?_; rintro e w' ⟨rfl, rfl⟩)
    go_ret
    exact ⟨by rw [hc.out]; rfl, rfl⟩
  · by_cases h2 : y < x
    · have hc : Hid (c3 x y = 1) := hid (by unfold c3; rw [if_neg h1, if_pos h2])
      have t1 : decide (x < y) = false := decide_eq_false h1
      have t2 : decide (y < x) = true := decide_eq_true h2
      clear h1 h2
      go_enter Try.func63, Try.ntmps63
      go_wp2_with (go_at_call 74; refine (nan_int64 _ _).mono ?_; rintro e w' ⟨rfl, rfl⟩)
      go_ret
      exact ⟨by rw [hc.out]; rfl, rfl⟩
    · have hc : Hid (c3 x y = 0) := hid (by unfold c3; rw [if_neg h1, if_neg h2])
      have t1 : decide (x < y) = false := decide_eq_false h1
      have t2 : decide (y < x) = false := decide_eq_false h2
      clear h1 h2
      go_enter Try.func63, Try.ntmps63
      go_wp2_with (go_at_call 74; refine (nan_int64 _ _).mono ?_; rintro e w' ⟨rfl, rfl⟩)
      go_ret
      exact ⟨by rw [hc.out]; rfl, rfl⟩
theorem nan_int (x : Int) (w : World) : Calls Try.prog 75 #[.int .i64 x] w fun e w' => e = .returned (.bool false) ∧ w' = w := by
  have tt : (x != x) = false := by simp
  go_enter Try.func75, Try.ntmps75
  go_wp2_with fail
  go_ret
  exact ⟨by first | rfl | trivial, by first | rfl | trivial⟩
theorem cmp_int (x y : Int) (w : World) : Calls Try.prog 64 #[.int .i64 x, .int .i64 y] w fun e w' => e = .returned (.int .i64 (c3 x y)) ∧ w' = w := by
  by_cases h1 : x < y
  · have hc : Hid (c3 x y = -1) := hid (by unfold c3; rw [if_pos h1])
    have t1 : decide (x < y) = true := decide_eq_true h1
    clear h1
    go_enter Try.func64, Try.ntmps64
    go_wp2_with (go_at_call 75; refine (nan_int _ _).mono ?_; rintro e w' ⟨rfl, rfl⟩)
    go_ret
    exact ⟨by rw [hc.out]; rfl, rfl⟩
  · by_cases h2 : y < x
    · have hc : Hid (c3 x y = 1) := hid (by unfold c3; rw [if_neg h1, if_pos h2])
      have t1 : decide (x < y) = false := decide_eq_false h1
      have t2 : decide (y < x) = true := decide_eq_true h2
      clear h1 h2
      go_enter Try.func64, Try.ntmps64
      go_wp2_with (go_at_call 75; refine (nan_int _ _).mono ?_; rintro e w' ⟨rfl, rfl⟩)
      go_ret
      exact ⟨by rw [hc.out]; rfl, rfl⟩
    · have hc : Hid (c3 x y = 0) := hid (by unfold c3; rw [if_neg h1, if_neg h2])
      have t1 : decide (x < y) = false := decide_eq_false h1
      have t2 : decide (y < x) = false := decide_eq_false h2
      clear h1 h2
      go_enter Try.func64, Try.ntmps64
      go_wp2_with (go_at_call 75; refine (nan_int _ _).mono ?_; rintro e w' ⟨rfl, rfl⟩)
      go_ret
      exact ⟨by rw [hc.out]; rfl, rfl⟩
theorem or_any (x y : Int) (g : Nat) (c : Nat) (w : World) (h0 : w.cell? ⟨g, 0, none⟩ = some (.int .i64 x)) (h1 : w.cell? ⟨g, 1, none⟩ = some (.int .i64 y)) : Calls Try.prog 62 #[.slice (some ⟨g, 0, none⟩) 2 c] w fun e w' => e = .returned (.int .i64 (orI x y)) ∧ w' = w := by
  by_cases hx : x = 0
  · have hc : Hid (orI x y = y) := hid (by unfold orI; rw [if_neg (by simpa using hx)])
    have t1 : (x != 0) = false := by simpa using hx
    clear hx
    by_cases hy : y = 0
    · have t2 : (y != 0) = false := by simpa using hy
      have hy0 := hid hy
      clear hy
      go_enter Try.func62, Try.ntmps62
      go_wp2_with fail
      go_loopw [8] (fun v wr => ∃ k : Nat, v = .int .i64 k ∧ k ≤ 2 ∧ wr = w) (fun v _ => 2 - (intOf v).toNat)
      case atStart => exact ⟨0, rfl, by omega, rfl⟩
      case round =>
        obtain ⟨k, rfl, hk, rfl⟩ := hrel
        obtain rfl | rfl | rfl : k = 0 ∨ k = 1 ∨ k = 2 := by omega
        · go_wp2_with fail
          go_roundw
          case rel => exact ⟨1, by go_num, by omega, by first | rfl | trivial⟩
          case measure => simp [intOf]
        · go_wp2_with fail
          go_roundw
          case rel => exact ⟨2, by go_num, by omega, by first | rfl | trivial⟩
          case measure => simp [intOf]
        · go_wp2_with fail
          go_ret
          exact ⟨by rw [hc.out, hy0.out]; rfl, rfl⟩
    · have t2 : (y != 0) = true := by simpa using hy
      clear hy
      go_enter Try.func62, Try.ntmps62
      go_wp2_with fail
      go_loopw [8] (fun v wr => ∃ k : Nat, v = .int .i64 k ∧ k ≤ 1 ∧ wr = w) (fun v _ => 2 - (intOf v).toNat)
      case atStart => exact ⟨0, rfl, by omega, rfl⟩
      case round =>
        obtain ⟨k, rfl, hk, rfl⟩ := hrel
        obtain rfl | rfl : k = 0 ∨ k = 1 := by omega
        · go_wp2_with fail
          go_roundw
          case rel => exact ⟨1, by go_num, by omega, by first | rfl | trivial⟩
          case measure => simp [intOf]
        · go_wp2_with fail
          go_ret
          exact ⟨by rw [hc.out]; rfl, rfl⟩
  · have hc : Hid (orI x y = x) := hid (by unfold orI; rw [if_pos hx])
    have t1 : (x != 0) = true := by simpa using hx
    clear hx
    go_enter Try.func62, Try.ntmps62
    go_wp2_with fail
    go_loopw [8] (fun v wr => v = .int .i64 0 ∧ wr = w) (fun v _ => 0)
    case atStart => exact ⟨rfl, rfl⟩
    case round =>
      obtain ⟨rfl, rfl⟩ := hrel
      go_wp2_with fail
      go_ret
      exact ⟨by rw [hc.out]; rfl, rfl⟩
def BAL_ (b : Bal) : Value := .agg #[.int .i64 b.rd, .int .i64 b.nd]
set_option maxRecDepth 100000 in
set_option maxHeartbeats 1000000 in
theorem compare_any (a b : Bal) (w : World) : Calls Try.prog 41 #[.agg #[.int .i64 a.rd, .int .i64 a.nd], .agg #[.int .i64 b.rd, .int .i64 b.nd]] w fun e w' => e = .returned (.int .i64 (cmpB a b)) ∧ Below w.heap.size w w' := by
  have hB := below_two (w := w) (.cells #[.int .i64 a.rd, .int .i64 a.nd] 35) (.cells #[.int .i64 b.rd, .int .i64 b.nd] 35)
  have k1 : Blk ((w.alloc (.cells #[.int .i64 a.rd, .int .i64 a.nd] 35)).alloc (.cells #[.int .i64 b.rd, .int .i64 b.nd] 35)) w.heap.size 35 #[.int .i64 a.rd, .int .i64 a.nd] := (Blk.new w 35 #[.int .i64 a.rd, .int .i64 a.nd]).alloc _
  have k2 : Blk ((w.alloc (.cells #[.int .i64 a.rd, .int .i64 a.nd] 35)).alloc (.cells #[.int .i64 b.rd, .int .i64 b.nd] 35)) (w.heap.size + 1) 35 #[.int .i64 b.rd, .int .i64 b.nd] := Blk.new' (w.alloc (.cells #[.int .i64 a.rd, .int .i64 a.nd] 35)) 35 #[.int .i64 b.rd, .int .i64 b.nd] (by simp)
  go_enter Try.func41, Try.ntmps41
  go_upto_region 1 with fail
  generalize (w.alloc (.cells #[.int .i64 a.rd, .int .i64 a.nd] 35)).alloc (.cells #[.int .i64 b.rd, .int .i64 b.nd] 35) = W1 at *
  have x0 : W1.cell? ⟨w.heap.size, 0, none⟩ = some (.int .i64 a.rd) := k1.cell 0
  have x1 : W1.cell? ⟨w.heap.size, 1, none⟩ = some (.int .i64 a.nd) := k1.cell 1
  have y0 : W1.cell? ⟨w.heap.size + 1, 0, none⟩ = some (.int .i64 b.rd) := k2.cell 0
  have y1 : W1.cell? ⟨w.heap.size + 1, 1, none⟩ = some (.int .i64 b.nd) := k2.cell 1
  go_region_held3 (fun w' => w'.cell? ⟨w.heap.size, 0, none⟩ = some (.int .i64 a.rd) ∧ w'.cell? ⟨w.heap.size, 1, none⟩ = some (.int .i64 a.nd) ∧ w'.cell? ⟨w.heap.size + 1, 0, none⟩ = some (.int .i64 b.rd) ∧ w'.cell? ⟨w.heap.size + 1, 1, none⟩ = some (.int .i64 b.nd)) (first | exact ⟨x0, x1, y0, y1⟩ | go_keep)
    (first
      | (go_at_call 62; refine (or_any (c3 a.rd b.rd) (c3 a.nd b.nd) W1.heap.size 2 _ (by simp) (by simp)).mono ?_; rintro e w' ⟨rfl, rfl⟩)
      | (go_at_call 63; refine (cmp_int64 _ _ _).mono ?_; rintro e w' ⟨rfl, rfl⟩)
      | (go_at_call 64; refine (cmp_int _ _ _).mono ?_; rintro e w' ⟨rfl, rfl⟩))
  all_goals
    go_wp2_with fail
    go_ret
    exact ⟨rfl, hB.trans ((((Below.refl _ W1).alloc (Nat.le_refl _) _).drew).mono hB.size)⟩

end Go.Proofs.Ytbgopicpdpkccaa

/- complete: how many batches stand without a gap. -/
import Derived.Test.YtlnlffpkdeaimaaLong
import Derived.Test.YtlnlffpkdeaimaaOrd
namespace Go.Proofs.Ytlnlffpkdeaimaa
open Go.RowKit
set_option linter.unusedVariables false

/-- act a stands at the k-th place -/
def atN (N : Nat) (a : AR) (k : Nat) : Bool := decide ((a.x, a.s) = keyN N k)
theorem gapN_stop (p : Nat → Bool) : ∀ (m k0 k : Nat), (∀ j, k0 ≤ j → j < k → p j = true) → k0 ≤ k → k < k0 + m → p k = false → gapN p m k0 = k := by
  intro m
  induction m with
  | zero => intro k0 k _ _ h; omega
  | succ m ih =>
    intro k0 k h h1 h2 h3
    unfold gapN
    by_cases e : k = k0
    · subst e; simp [h3]
    · rw [if_pos (h k0 (Nat.le_refl _) (by omega))]
      exact ih (k0 + 1) k (fun j hj hk => h j (by omega) hk) (by omega) (by omega) h3
theorem gapN_all (p : Nat → Bool) : ∀ (m k0 : Nat), (∀ j, k0 ≤ j → j < k0 + m → p j = true) → gapN p m k0 = k0 + m := by
  intro m
  induction m with
  | zero => intro k0 _; rfl
  | succ m ih =>
    intro k0 h
    unfold gapN
    rw [if_pos (h k0 (Nat.le_refl _) (by omega)), ih (k0 + 1) fun j hj hk => h j (by omega) (by omega)]
    omega
theorem wrap_nat (m : Nat) (h : m ≤ 9223372036854775807) : IntKind.i64.wrap (m : Int) = m := IntWalk.i64_in _ (by omega)
theorem any_take {N : Nat} (us : List AR) (k i : Nat) (h : i < us.length) : (us.take (i + 1)).any (atN N · k) = ((us.take i).any (atN N · k) || atN N us[i] k) := by
  rw [List.take_succ_eq_append_getElem h, List.any_append]; simp

set_option maxRecDepth 100000 in
set_option maxHeartbeats 1000000 in
theorem complete_any (S : Nat → Prop) (N : Nat) (A : Option Addr) (c : Nat) (us : List AR) (w : World) (ha : ActsOk S w A us) (hl : us.length ≤ 1000000) (hn1 : 1 ≤ N) (hn2 : N ≤ 16) :
    Calls Try.prog 15 #[.int .i64 N, .slice A us.length c] w fun e w' => e = .returned (.int .i64 (gapN (fun k => us.any (atN N · k)) (us.length + 1) 0 : Nat)) ∧ Below w.heap.size w w' := by
  go_enter Try.func15, Try.ntmps15
  go_wp2_with fail
  go_loopw [4, 5] (fun r v wr => ∃ k : Nat, k ≤ us.length + 1 ∧ v = .int .i64 k ∧ (∀ j, j < k → us.any (atN N · j) = true) ∧ Below w.heap.size w wr) (fun _ v _ => us.length + 1 - (intOf v).toNat)
  case atStart => exact ⟨0, Nat.zero_le _, rfl, fun j h => absurd h (by omega), Below.refl _ _⟩
  case round =>
    obtain ⟨k, hk, rfl, hp, hB⟩ := hrel
    by_cases hlt : k ≤ us.length
    · have i1 : (k : Int) ≤ (us.length : Int) := by omega
      go_wp2_with fail
      go_loopw [6, 7] (fun t v wr => ∃ i : Nat, i ≤ us.length ∧ v = .int .i64 i ∧ t = .bool ((us.take i).any (atN N · k)) ∧ Below w.heap.size w wr) (fun _ v _ => us.length - (intOf v).toNat)
      case atStart => exact ⟨0, Nat.zero_le _, rfl, by simp, hB⟩
      case round =>
        obtain ⟨i, hi, rfl, rfl, hB2⟩ := hrel
        by_cases hil : i < us.length
        · obtain ⟨b, o, rfl, _, hbl, okp, a0, a1, a2, a3⟩ := (ha.below hB2).at_ hil
          have i2 : (i : Int) < (us.length : Int) := by omega
          have hN0 : ¬ N = 0 := by omega
          have hd1 : k / N ≤ k := Nat.div_le_self _ _
          have hd2 : k % N < N := Nat.mod_lt _ (by omega)
          have hwq0 : IntKind.i64.wrap ((k : Int) / (N : Int)) = ((k / N : Nat) : Int) := by
            rw [show (k : Int) / (N : Int) = ((k / N : Nat) : Int) from by simp]; exact wrap_nat _ (Nat.le_trans hd1 (by omega))
          have hwr0 : IntKind.i64.wrap ((k : Int) % (N : Int)) = ((k % N : Nat) : Int) := by
            rw [show (k : Int) % (N : Int) = ((k % N : Nat) : Int) from by simp]; exact wrap_nat _ (by omega)
          have hat : Hid (atN N us[i] k = decide (us[i].x = ((k / N : Nat) : Int) ∧ us[i].s = ((k % N : Nat) : Int))) := by
            have : atN N us[i] k = decide (us[i].x = ((k / N : Nat) : Int) ∧ us[i].s = ((k % N : Nat) : Int)) := by unfold atN keyN; simp only [Prod.mk.injEq]
            exact hid this
          obtain ⟨q, hq⟩ : ∃ q, k / N = q := ⟨_, rfl⟩
          obtain ⟨r, hr⟩ : ∃ r, k % N = r := ⟨_, rfl⟩
          rw [hq] at hwq0 hat
          rw [hr] at hwr0 hat
          have hwq := hwq0
          have hwr := hwr0
          have hrI : Hid ((k : Int) % (N : Int) = (r : Int)) := hid (by rw [← hr]; simp)
          clear hwq0 hwr0 hq hr hd1 hd2
          have hs := any_take (N := N) us k i hil
          generalize (us.take i).any (atN N · k) = t at *
          cases t with
          | true =>
            go_wp2_with fail
            go_quiet (fail)
            go_wp2_with fail
            go_roundw
            case rel => exact ⟨i + 1, by omega, by go_num, by rw [hs]; simp, below_drewN hB2 _⟩
            case measure => simp [intOf]; omega
          | false =>
            have hs : Hid ((us.take (i + 1)).any (atN N · k) = atN N us[i] k) := hid (by rw [hs]; simp)
            by_cases h1 : us[i].x = (q : Int)
            · have hb1 : (us[i].x == (q : Int)) = true := by simpa using h1
              by_cases h2 : us[i].s = (r : Int)
              · have hb2 : (us[i].s == (r : Int)) = true := by simpa using h2
                have hval : Hid (atN N us[i] k = true) := hid (by rw [hat.out]; simp [h1, h2])
                clear h1 h2
                go_wp2_with fail
                go_quiet (fail)
                go_wp2_with fail
                go_roundw
                case rel => exact ⟨i + 1, by omega, by go_num, by rw [hs.out, hval.out, hrI.out, hb2], below_drewN hB2 _⟩
                case measure => simp [intOf]; omega
              · have hb2 : (us[i].s == (r : Int)) = false := by simpa using h2
                have hval : Hid (atN N us[i] k = false) := hid (by rw [hat.out]; simp [h1, h2])
                clear h1 h2
                go_wp2_with fail
                go_quiet (fail)
                go_wp2_with fail
                go_roundw
                case rel => exact ⟨i + 1, by omega, by go_num, by rw [hs.out, hval.out, hrI.out, hb2], below_drewN hB2 _⟩
                case measure => simp [intOf]; omega
            · have hb1 : (us[i].x == (q : Int)) = false := by simpa using h1
              have hval : Hid (atN N us[i] k = false) := hid (by rw [hat.out]; simp [h1])
              clear h1
              go_wp2_with fail
              go_quiet (fail)
              go_wp2_with fail
              go_roundw
              case rel => exact ⟨i + 1, by omega, by go_num, by rw [hs.out, hval.out], below_drewN hB2 _⟩
              case measure => simp [intOf]; omega
        · obtain rfl : i = us.length := by omega
          have hT : us.take us.length = us := List.take_length
          rw [hT]
          cases hany : us.any (atN N · k) with
          | true =>
            go_wp2_with fail
            go_roundw
            case rel =>
              refine ⟨k + 1, by omega, by go_num, fun j hj => ?_, hB2⟩
              rcases Nat.lt_succ_iff_lt_or_eq.1 hj with h | h
              · exact hp j h
              · subst h; exact hany
            case measure => simp [intOf]; omega
          | false =>
            go_wp2_with fail
            go_ret
            exact ⟨by rw [gapN_stop _ _ 0 k (fun j _ hj => hp j hj) (Nat.zero_le _) (by omega) hany]; rfl, hB2⟩
    · obtain rfl : k = us.length + 1 := by omega
      go_wp2_with fail
      go_ret
      exact ⟨by rw [gapN_all _ _ 0 fun j _ hj => hp j (by omega), Nat.zero_add]; rfl, hB⟩

end Go.Proofs.Ytlnlffpkdeaimaa

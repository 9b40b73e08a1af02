/- slices.Index, slices.Contains at numbers. -/
import Derived.Test.YtppcjaljhahdnaaQMem
namespace Go.Proofs.Ytppcjaljhahdnaa
open Go.RowKit
set_option linter.unusedVariables false

def IdxPost (w : World) (v : Int) (xs : List Int) (e : Ending) (w' : World) : Prop :=
  w' = w ∧ ∃ i : Int, e = .returned (.int .i64 i) ∧ (if v ∈ xs then 0 ≤ i else i = -1)
theorem index_any (S : Nat → Prop) (A : Option Addr) (c : Nat) (xs : List Int) (v : Int) (w : World) (h : Rd S w 1 A xs.length (xs.map (.int .u64))) (hl : xs.length ≤ 1000000000) :
    Calls Try.prog 52 #[.slice A xs.length c, .int .u64 v] w (IdxPost w v xs) := by
  go_enter Try.func52, Try.ntmps52
  go_wp2_with fail
  go_loopw [8] (fun i wr => ∃ k : Nat, k ≤ xs.length ∧ i = .int .i64 k ∧ wr = w ∧ ∀ j (h : j < xs.length), j < k → xs[j] ≠ v) (fun i _ => xs.length - (intOf i).toNat)
  case atStart => exact ⟨0, Nat.zero_le _, rfl, rfl, fun j _ h => absurd h (by omega)⟩
  case round =>
    obtain ⟨k, hk, rfl, rfl, hne⟩ := hrel
    by_cases hlt : k < xs.length
    · obtain ⟨b, o, rfl, _, hbl, hc⟩ := h.at_ hlt
      have a0 : wr.cell? ⟨b, o + k, none⟩ = some (.int .u64 xs[k]) := hc k _ (by simp [hlt])
      have i1 : (k : Int) < (xs.length : Int) := by omega
      have hne := hid hne
      clear hc h
      by_cases hv : v = xs[k]
      · have hm : v ∈ xs := by rw [hv]; exact List.getElem_mem hlt
        have hd : (v == xs[k]) = true := by simpa using hv
        have hm := hid hm
        clear hv
        go_wp2_with fail
        go_ret
        exact ⟨rfl, k, rfl, by rw [if_pos hm.out]; omega⟩
      · have hd : (v == xs[k]) = false := by simpa using hv
        have hv := hid hv
        go_wp2_with fail
        go_roundw
        case rel =>
          refine ⟨k + 1, by omega, by go_num, by simp, fun j h hj => ?_⟩
          rcases Nat.lt_or_ge j k with g | g
          · exact hne.out j h g
          · obtain rfl : j = k := by omega
            exact fun e => hv.out e.symm
        case measure => simp [intOf]; omega
    · obtain rfl : k = xs.length := by omega
      have hm : ¬ v ∈ xs := fun hm => by
        obtain ⟨j, hj, e⟩ := List.getElem_of_mem hm
        exact hne j hj hj e
      have hm := hid hm
      clear hne
      go_wp2_with fail
      go_ret
      exact ⟨rfl, -1, rfl, by rw [if_neg hm.out]⟩
theorem contains_any (S : Nat → Prop) (A : Option Addr) (c : Nat) (xs : List Int) (v : Int) (w : World) (h : Rd S w 1 A xs.length (xs.map (.int .u64))) (hl : xs.length ≤ 1000000000) :
    Calls Try.prog 31 #[.slice A xs.length c, .int .u64 v] w fun e w' => e = .returned (.bool (decide (v ∈ xs))) ∧ w' = w := by
  go_enter Try.func31, Try.ntmps31
  go_wp2_with fail
  refine (index_any S A c xs v w h hl).mono ?_
  rintro e w' ⟨rfl, i, rfl, hi⟩
  by_cases hm : v ∈ xs
  · rw [if_pos hm] at hi
    have hd : decide (v ∈ xs) = true := decide_eq_true hm
    go_wp2_with fail
    go_ret
    exact ⟨by rw [hd]; simp, rfl⟩
  · rw [if_neg hm] at hi
    subst hi
    have hd : decide (v ∈ xs) = false := decide_eq_false hm
    go_wp2_with fail
    go_ret
    exact ⟨by rw [hd]; rfl, rfl⟩

end Go.Proofs.Ytppcjaljhahdnaa

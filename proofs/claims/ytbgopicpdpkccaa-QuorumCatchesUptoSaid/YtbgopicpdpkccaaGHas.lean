/- quorum: Has. -/
import Derived.Test.YtbgopicpdpkccaaGList
namespace Go.Proofs.Ytbgopicpdpkccaa
open Go.RowKit
set_option linter.unusedVariables false
set_option linter.unusedSimpArgs false

theorem bytes_eq (a b : ByteArray) : (a.toList == b.toList) = decide (a = b) := by
  rw [Bool.eq_iff_iff]
  simp only [beq_iff_eq, decide_eq_true_eq]
  exact ⟨fun h => ba_inj h, fun h => by rw [h]⟩
def hasB (l : List ByteArray) (t : ByteArray) : Bool := l.any fun u => decide (u = t)
theorem hasB_mem {l : List ByteArray} {t : ByteArray} : hasB l t = true ↔ t ∈ l := by
  unfold hasB
  rw [List.any_eq_true]
  exact ⟨fun ⟨u, h1, h2⟩ => of_decide_eq_true h2 ▸ h1, fun h => ⟨t, h, decide_eq_true rfl⟩⟩
theorem strs_at {S : Nat → Prop} {w : World} {A : Option Addr} {l : List ByteArray} {k : Nat} (h : Rd S w 1 A l.length (l.map .string)) (hk : k < l.length) : ∃ b o, A = some ⟨b, o, none⟩ ∧ b < w.heap.size ∧ w.cell? ⟨b, o + k, none⟩ = some (.string l[k]) := by
  obtain ⟨b, o, e, hS, hl, hc⟩ := h.at_ hk
  exact ⟨b, o, e, hl, hc k _ (by simp [hk])⟩
set_option maxRecDepth 100000 in
set_option maxHeartbeats 1000000 in
theorem has_any (S : Nat → Prop) (A : Option Addr) (c : Nat) (l : List ByteArray) (t : ByteArray) (w : World) (ha : Rd S w 1 A l.length (l.map .string)) (hl : l.length ≤ 1048577) : Calls Try.prog 24 #[.slice A l.length c, .string t] w fun e w' => e = .returned (.bool (hasB l t)) ∧ w' = w := by
  have hll : (l.length : Int) ≤ 1048577 := by omega
  clear hl
  go_enter Try.func24, Try.ntmps24
  go_wp2_with fail
  go_loopw [5] (fun i wr => ∃ k : Nat, k ≤ l.length ∧ i = .int .i64 k ∧ wr = w ∧ ∀ j (h : j < l.length), j < k → l[j] ≠ t) (fun i _ => l.length - (intOf i).toNat)
  case atStart => exact ⟨0, Nat.zero_le _, rfl, rfl, fun j _ h => by omega⟩
  case round =>
    obtain ⟨k, hk, rfl, rfl, hno0⟩ := hrel
    have hno := hid hno0
    clear hno0
    by_cases hlt : k < l.length
    · have i1 : (k : Int) < (l.length : Int) := by omega
      obtain ⟨b, o, rfl, hbl, a0⟩ := strs_at ha hlt
      by_cases he : l[k] = t
      · have hfin : Hid (hasB l t = true) := hid (hasB_mem.2 (he ▸ List.getElem_mem hlt))
        have t1 : (l[k].toList == t.toList) = true := by rw [bytes_eq]; exact decide_eq_true he
        clear ha he
        go_wp2_with fail
        go_ret
        exact ⟨by rw [hfin.out]; rfl, by first | rfl | trivial⟩
      · have t1 : (l[k].toList == t.toList) = false := by rw [bytes_eq]; exact decide_eq_false he
        have hne := hid he
        clear ha he
        go_wp2_with fail
        go_roundw
        case rel =>
          refine ⟨k + 1, by omega, by go_num, by first | rfl | trivial, fun j h hj => ?_⟩
          rcases Nat.lt_succ_iff_lt_or_eq.1 hj with hj | rfl
          · exact hno.out j h hj
          · exact hne.out
        case measure => simp [intOf]; omega
    · obtain rfl : k = l.length := by omega
      have hfin : Hid (hasB l t = false) := hid (Bool.eq_false_iff.2 fun hm => by
        have hm := hasB_mem.1 hm
        obtain ⟨j, hj, e⟩ := List.mem_iff_getElem.1 hm
        exact hno.out j hj hj e)
      clear ha
      go_wp2_with fail
      go_ret
      exact ⟨by rw [hfin.out]; rfl, by first | rfl | trivial⟩

end Go.Proofs.Ytbgopicpdpkccaa

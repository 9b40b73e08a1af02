/- quorum: Texts; a list of texts in a row of its own. -/
import Derived.Test.YtbgopicpdpkccaaGHas
namespace Go.Proofs.Ytbgopicpdpkccaa
open Go.RowKit
set_option linter.unusedVariables false
set_option linter.unusedSimpArgs false

set_option maxRecDepth 100000 in
set_option maxHeartbeats 1000000 in
theorem texts_same (S S' : Nat → Prop) (A A' : Option Addr) (c c' : Nat) (l : List ByteArray) (w : World) (ha : Rd S w 1 A l.length (l.map .string)) (hb : Rd S' w 1 A' l.length (l.map .string)) (hl : l.length ≤ 1000) : Calls Try.prog 27 #[.slice A l.length c, .slice A' l.length c'] w fun e w' => e = .returned (.bool true) ∧ Below w.heap.size w w' := by
  go_enter Try.func27, Try.ntmps27
  go_wp2_with fail
  go_loopw [5] (fun i wr => ∃ k : Nat, k ≤ l.length ∧ i = .int .i64 k ∧ Below w.heap.size w wr) (fun i _ => l.length - (intOf i).toNat)
  case atStart => exact ⟨0, Nat.zero_le _, rfl, Below.refl _ _⟩
  case round =>
    obtain ⟨k, hk, rfl, hB0⟩ := hrel
    have hB := hid hB0
    by_cases hlt : k < l.length
    · have i1 : (k : Int) < (l.length : Int) := by omega
      obtain ⟨b, o, e1, hbl, a0⟩ := strs_at ha hlt
      obtain ⟨b', o', e2, hbl', a0'⟩ := strs_at hb hlt
      have a1 : wr.cell? ⟨b, o + k, none⟩ = some (.string l[k]) := (World.cell?_of_block (w := w) (a := ⟨b, o + k, none⟩) (hB0.block b hbl)).trans a0
      have a1' : wr.cell? ⟨b', o' + k, none⟩ = some (.string l[k]) := (World.cell?_of_block (w := w) (a := ⟨b', o' + k, none⟩) (hB0.block b' hbl')).trans a0'
      subst e1 e2
      clear ha hb a0 a0' hB0
      go_upto_region 6 with fail
      go_quiet (fail)
      go_wp2_with fail
      go_roundw
      case rel => exact ⟨k + 1, by omega, by go_num, below_drewN hB.out _⟩
      case measure => simp [intOf]; omega
    · obtain rfl : k = l.length := by omega
      clear ha hb hB0
      go_wp2_with fail
      go_ret
      exact ⟨rfl, hB.out⟩
theorem rd_take {S : Nat → Prop} {w : World} {A : Option Addr} {l : List ByteArray} {k : Nat} (h : Rd S w 1 A l.length (l.map .string)) (hk : k ≤ l.length) : Rd S w 1 A k ((l.take k).map .string) := by
  refine ⟨by simp; omega, fun h0 => ?_⟩
  obtain ⟨b, o, e, hS, hl, hc⟩ := h.2 (by omega)
  refine ⟨b, o, e, hS, hl, fun j u hu => hc j u ?_⟩
  rw [List.map_take] at hu
  by_cases hj : j < k
  · rwa [List.getElem?_take_of_lt hj] at hu
  · rw [List.getElem?_take_eq_none (by omega)] at hu
    cases hu
/-- a list of texts, in a row of its own -/
def WRow (w : World) (v : Value) (l : List ByteArray) : Prop := ∃ A c, v = .slice A l.length c ∧ w.ownsRow 0 9 1 (.slice A l.length c) l.length (l.map .string)
theorem WRow.upd {M : Nat → Prop} {w w' : World} {v : Value} {l : List ByteArray} (h : WRow w v l) (hu : Upd M w w') (hM : ∀ b, v.ownBlock = some b → ¬ M b) : WRow w' v l := by
  obtain ⟨A, c, rfl, h⟩ := h
  refine ⟨A, c, rfl, h.1, ?_⟩
  rcases h.2 with hn | ⟨g, cap, cur, hv, hg, hh, rest⟩
  · exact .inl hn
  · refine .inr ⟨g, cap, cur, hv, hg, ?_, rest⟩
    have hl : g < w.heap.size := (Array.getElem?_eq_some_iff.1 hh).1
    exact (hu.block g hl (hM g (by rw [hv]; rfl))).trans hh
theorem WRow.lt {w : World} {v : Value} {l : List ByteArray} (h : WRow w v l) {b : Nat} (hb : v.ownBlock = some b) : b < w.heap.size := by
  obtain ⟨A, c, rfl, h⟩ := h
  exact (World.ownsRow.lt h b hb).2
theorem WRow.of_own {w : World} {base : Nat} {v : Value} {l : List ByteArray} (h : w.ownsRow base 9 1 v l.length (l.map .string)) : WRow w v l ∧ ∀ b, v.ownBlock = some b → base ≤ b := by
  obtain ⟨A, c, rfl, _, _⟩ := own_form h
  exact ⟨⟨A, c, rfl, own_base (Nat.zero_le _) h⟩, fun b hb => (World.ownsRow.lt h b hb).1⟩

end Go.Proofs.Ytbgopicpdpkccaa

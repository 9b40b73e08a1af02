/- The document's store: New, at, Claimed, Dump. -/
import Derived.Test.YtnbbdjbjbjlcpaaDoorSNew
import Derived.Test.YtnbbdjbjbjlcpaaDoorSSort
namespace Go.Proofs.YtnbbdjbjbjlcpaaDoor
open Go.RowKit
set_option linter.unusedVariables false
set_option linter.unusedSimpArgs false

theorem has_pos {L : List Kv} {k : ByteArray} (ha : Asc L) (h : posK k L < L.length) : hasK k L = decide ((L[posK k L]).1 = k) := by
  cases hh : hasK k L with
  | true =>
    obtain ⟨x, h1, h2, _⟩ := pos_get ha hh
    rw [List.getElem?_eq_getElem h] at h1
    injection h1 with h1
    rw [h1, h2]; simp
  | false =>
    symm
    apply decide_eq_false
    intro e
    have : hasK k L = true := hasK_mem.2 ⟨_, List.getElem_mem h, e⟩
    rw [hh] at this; cases this
theorem has_end {L : List Kv} {k : ByteArray} (ha : Asc L) (h : ¬ posK k L < L.length) : hasK k L = false := by
  cases hh : hasK k L with
  | false => rfl
  | true =>
    obtain ⟨x, h1, _⟩ := pos_get ha hh
    exact absurd (List.getElem?_eq_some_iff.1 h1).1 h
section
variable {S : Nat → Prop} {w w' : World} {r : Nat} {s : St}
end
end Go.Proofs.YtnbbdjbjbjlcpaaDoor

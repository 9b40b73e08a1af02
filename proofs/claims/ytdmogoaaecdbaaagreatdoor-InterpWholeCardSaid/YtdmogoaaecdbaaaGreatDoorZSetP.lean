/- interp: the document's Set as a plain law: one more text, where it goes. -/
import Derived.Test.YtdmogoaaecdbaaaGreatDoorJ21
namespace Go.Proofs.YtdmogoaaecdbaaaGreatDoor
open Go.RowKit
set_option linter.unusedVariables false
set_option linter.unusedSimpArgs false

def posS (k : ByteArray) (l : List ByteArray) : Nat := posK k (srtL l)
theorem hasS {k : ByteArray} {l : List ByteArray} : hasK k (srtL l) = true ↔ k ∈ l := by
  rw [← srtK_mem]
  unfold srtK
  rw [hasK_mem, List.mem_map]
theorem srtK_get {l : List ByteArray} {i : Nat} {x : ByteArray} (h : (srtK l)[i]? = some x) : ∃ y, (srtL l)[i]? = some y ∧ y.1 = x := by
  unfold srtK at h
  rw [List.getElem?_map] at h
  cases hy : (srtL l)[i]? with
  | none => rw [hy] at h; cases h
  | some y => rw [hy] at h; injection h with h; exact ⟨y, rfl, h⟩
theorem posS_lt {k x : ByteArray} {l : List ByteArray} {i : Nat} (h : (srtK l)[i]? = some x) : ltB x k = true ↔ i < posS k l := by
  obtain ⟨y, hy, rfl⟩ := srtK_get h
  exact pos_lt (srtL_asc l) i y hy
theorem posS_le {k : ByteArray} {l : List ByteArray} : posS k l ≤ (srtK l).length := by
  unfold srtK posS
  rw [List.length_map]
  exact posK_le
theorem posS_hit {k : ByteArray} {l : List ByteArray} (h : k ∈ l) : (srtK l)[posS k l]? = some k := by
  obtain ⟨x, hx, e, _⟩ := pos_get (srtL_asc l) (hasS.2 h)
  unfold srtK posS
  rw [List.getElem?_map, hx]
  show some x.1 = some k
  rw [e]
theorem posS_miss {k x : ByteArray} {l : List ByteArray} (h : ¬ k ∈ l) (hx : (srtK l)[posS k l]? = some x) : x ≠ k := fun e => h (srtK_mem.1 (e ▸ List.mem_of_getElem? hx))
theorem set_hit {k : ByteArray} {l : List ByteArray} (h : k ∈ l) : srtK (l ++ [k]) = srtK l := srtK_congr fun j => by
  rw [List.mem_append, List.mem_singleton]
  exact ⟨fun h2 => h2.elim id fun e => e ▸ h, .inl⟩
theorem set_miss {k : ByteArray} {l : List ByteArray} (h : ¬ k ∈ l) : srtK (l ++ [k]) = (srtK l).take (posS k l) ++ [k] ++ (srtK l).drop (posS k l) := by
  have h1 : hasK k (srtL l) = false := Bool.eq_false_iff.2 fun e => h (hasS.1 e)
  have h2 : srtL (l ++ [k]) = insK k (srtL l) := by unfold srtL; exact insAll_snoc l k
  have h3 := ins_split (srtL_asc l) h1
  unfold srtK
  rw [h2, h3]
  rw [List.map_append, List.map_append, List.map_take, List.map_drop]
  rfl
end Go.Proofs.YtdmogoaaecdbaaaGreatDoor

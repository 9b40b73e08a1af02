/- store: the keys of all partitions, sorted: plain law. -/
import Derived.Test.YtnbbdjbjbjlcpaaDoorSSort
namespace Go.Proofs.YtnbbdjbjbjlcpaaDoor
open Go.RowKit
set_option linter.unusedVariables false
set_option linter.unusedSimpArgs false

/-- partition p's keys; those of the partitions below i -/
def keysP (n p : Nat) (L : List Kv) : List ByteArray := (L.filter fun x => decide (partK n x.1 = p)).map (·.1)
def keysTo (n i : Nat) (L : List Kv) : List ByteArray := (L.filter fun x => decide (partK n x.1 < i)).map (·.1)
def encK (k : ByteArray) : Value × Value := (.string k, .int .i64 1)
theorem keysTo_zero (n : Nat) (L : List Kv) : keysTo n 0 L = [] := by simp [keysTo]
theorem keysTo_all {n : Nat} (hn : 0 < n) (L : List Kv) : keysTo n n L = L.map (·.1) := by
  unfold keysTo
  congr 1
  exact List.filter_eq_self.2 fun x _ => by simpa using partK_lt x.1 hn
theorem filter_step {α : Type} (f : α → Nat) (i : Nat) : ∀ L : List α, ((L.filter fun x => decide (f x < i)) ++ (L.filter fun x => decide (f x = i))).Perm (L.filter fun x => decide (f x < i + 1))
  | [] => List.Perm.refl _
  | a :: L => by
    have ih := filter_step f i L
    by_cases h1 : f a < i
    · rw [List.filter_cons_of_pos (by simpa using h1), List.filter_cons_of_neg (by simp; omega), List.filter_cons_of_pos (by simp; omega)]
      exact ih.cons _
    · by_cases h2 : f a = i
      · rw [List.filter_cons_of_neg (by simpa using h1), List.filter_cons_of_pos (by simpa using h2), List.filter_cons_of_pos (by simp; omega)]
        exact List.perm_middle.trans (ih.cons _)
      · rw [List.filter_cons_of_neg (by simpa using h1), List.filter_cons_of_neg (by simpa using h2), List.filter_cons_of_neg (by simp; omega)]
        exact ih
theorem keysTo_step (n i : Nat) (L : List Kv) : (keysTo n i L ++ keysP n i L).Perm (keysTo n (i + 1) L) := by
  unfold keysTo keysP
  rw [← List.map_append]
  exact (filter_step (fun x : Kv => partK n x.1) i L).map _
theorem keysP_mem {n p : Nat} {L : List Kv} {k : ByteArray} : k ∈ keysP n p L ↔ hasK k L = true ∧ partK n k = p := by
  unfold keysP
  rw [hasK_mem]
  constructor
  · intro h
    obtain ⟨x, hx, rfl⟩ := List.mem_map.1 h
    obtain ⟨h1, h2⟩ := List.mem_filter.1 hx
    exact ⟨⟨x, h1, rfl⟩, by simpa using h2⟩
  · rintro ⟨⟨x, hx, rfl⟩, h2⟩
    exact List.mem_map.2 ⟨x, List.mem_filter.2 ⟨hx, by simpa using h2⟩, rfl⟩
theorem keysP_nodup {n p : Nat} {L : List Kv} (ha : Asc L) : (keysP n p L).Nodup := (List.filter_sublist.map _).nodup (asc_nodup ha)
theorem kp1_inj : ∀ a b : ByteArray, ((a, Value.int .i64 1) : ByteArray × Value) = (b, Value.int .i64 1) → a = b := fun a b e => by injection e
theorem claims_perm {w : World} {b n p : Nat} {L : List Kv} {l : List (ByteArray × Value)} (ha : Asc L) (h : MapIs strE w b l) (hd : ∀ x, getK x l = Dc L n p x) : l.Perm ((keysP n p L).map fun k => (k, Value.int .i64 1)) :=
  (List.perm_ext_iff_of_nodup (nodup_of_map _ h.nodup) (nodup_map kp1_inj (keysP_nodup ha))).2 fun q => by
    obtain ⟨y, u⟩ := q
    rw [← getK_mem h.nodup, hd]
    unfold Dc
    constructor
    · intro hy
      by_cases hc : hasK y L = true ∧ partK n y = p
      · rw [if_pos hc] at hy
        injection hy with hy
        exact List.mem_map.2 ⟨y, keysP_mem.2 hc, by rw [hy]⟩
      · rw [if_neg hc] at hy; cases hy
    · intro hy
      obtain ⟨k, hk, e⟩ := List.mem_map.1 hy
      injection e with e1 e2
      subst e1
      rw [if_pos (keysP_mem.1 hk), e2]
theorem claims_len {w : World} {b n p : Nat} {L : List Kv} {l : List (ByteArray × Value)} (ha : Asc L) (h : MapIs strE w b l) (hd : ∀ x, getK x l = Dc L n p x) : l.length = (keysP n p L).length := by
  rw [(claims_perm ha h hd).length_eq, List.length_map]
theorem done_claims {w : World} {b n p : Nat} {L : List Kv} {l : List (ByteArray × Value)} {es : Array MapEntry} {out : List ByteArray} (ha : Asc L) (h : MapIs strE w b l) (hd : ∀ x, getK x l = Dc L n p x) (hpr : pairs es.toList = encs strE l) (ho : (pairs es.toList).Perm (out.map encK)) : out.Perm (keysP n p L) := by
  have e1 : out.map encK = encs strE (out.map fun k => (k, Value.int .i64 1)) := by unfold encs; rw [List.map_map]; rfl
  rw [hpr, e1] at ho
  have h4 := (encs_inj w ho).symm.trans (claims_perm ha h hd)
  exact encs_inj.perm_of_map (f := fun k : ByteArray => (k, Value.int .i64 1)) (fun a b e => kp1_inj a b e) h4
theorem bl_lt : ∀ a b : List UInt8, Op.bytesLess a b = decide (a < b)
  | _, [] => by simp [Op.bytesLess]
  | [], _ :: _ => by simp [Op.bytesLess]
  | a :: x, b :: y => by
    have ih := bl_lt x y
    unfold Op.bytesLess
    rw [ih]
    by_cases h1 : a < b
    · simp [h1, List.cons_lt_cons_iff]
    · by_cases h2 : a = b
      · subst h2; simp [List.cons_lt_cons_iff]
      · simp [h1, h2, List.cons_lt_cons_iff]
/-- slices.Sort on the keys, in whatever order they come -/
theorem sort_keys {L : List Kv} {out : List ByteArray} (ha : Asc L) (hp : out.Perm (L.map (·.1))) : (out.map ByteArray.toList).mergeSort (fun x y => decide (x ≤ y)) = L.map fun x => x.1.toList := by
  have h1 : ((out.map ByteArray.toList).mergeSort (fun x y => decide (x ≤ y))).Perm (L.map fun x => x.1.toList) := by
    refine (List.mergeSort_perm _ _).trans ?_
    have := hp.map ByteArray.toList
    rw [List.map_map] at this
    exact this
  have h2 := List.pairwise_mergeSort (le := fun x y : List UInt8 => decide (x ≤ y)) (fun a b c h1 h2 => by simp only [decide_eq_true_eq] at *; exact List.le_trans h1 h2) (fun a b => by simp only [Bool.or_eq_true, decide_eq_true_eq]; exact List.le_total a b) (out.map ByteArray.toList)
  have h3 : (L.map fun x => x.1.toList).Pairwise fun a b => decide (a ≤ b) = true := by
    rw [List.pairwise_map]
    refine ha.imp fun {a b} h => ?_
    unfold ltB at h
    rw [bl_lt] at h
    simp only [decide_eq_true_eq] at *
    exact List.le_of_lt h
  exact List.Perm.eq_of_pairwise (fun a b _ _ h1 h2 => by simp only [decide_eq_true_eq] at *; exact List.le_antisymm h1 h2) h2 h3 h1
end Go.Proofs.YtnbbdjbjbjlcpaaDoor

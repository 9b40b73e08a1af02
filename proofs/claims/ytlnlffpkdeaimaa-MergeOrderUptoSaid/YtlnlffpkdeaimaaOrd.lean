/- MergeOrder's plain law: what two merges hold when the same acts have arrived, and what can be taken. -/
import Derived.Test.YtlnlffpkdeaimaaSim2
namespace Go.Proofs.Ytlnlffpkdeaimaa
open Go.RowKit
set_option linter.unusedVariables false
set_option linter.unusedSimpArgs false

section
variable {κ α : Type} [DecidableEq κ]
theorem getA_del_ne {k k' : κ} (h : k ≠ k') : ∀ L : List (κ × α), getA k (delA k' L) = getA k L := by
  intro L
  induction L with
  | nil => rfl
  | cons p l ih =>
    by_cases h1 : k' = p.1
    · have h2 : k ≠ p.1 := fun e => h (e.trans h1.symm)
      simp [delA, getA, h1.symm ▸ h, if_pos h1, h2]
    · by_cases h2 : k = p.1
      · simp [delA, getA, h1, h2]
      · simp [delA, getA, h1, h2, ih]
theorem getA_snoc (k k' : κ) (v : α) : ∀ L : List (κ × α), getA k' L = none → getA k (L ++ [(k', v)]) = if k = k' then some v else getA k L := by
  intro L
  induction L with
  | nil => intro _; simp [getA]
  | cons p l ih =>
    intro h
    by_cases h1 : k' = p.1
    · simp [getA, h1] at h
    · simp only [getA, if_neg h1] at h
      by_cases h2 : k = p.1
      · have h3 : k ≠ k' := fun e => h1 (e ▸ h2)
        simp [getA, h2]
        intro e; exact absurd e.symm h1
      · simp [getA, h2, ih h]
end

/-- the k-th place in the one order -/
def keyN (n k : Nat) : Int × Int := (((k / n : Nat) : Int), ((k % n : Nat) : Int))
theorem keyN_inj {n a b : Nat} (h : keyN n a = keyN n b) : a = b := by
  unfold keyN at h
  simp only [Prod.mk.injEq] at h
  have h1 : a / n = b / n := by omega
  have h2 : a % n = b % n := by omega
  rw [← Nat.div_add_mod a n, ← Nat.div_add_mod b n, h1, h2]
/-- what can be taken from the k-th place on, m at the most -/
def takesN {α : Type} (n : Nat) : Nat → Nat → List ((Int × Int) × α) → List ((Int × Int) × α)
  | 0, _, _ => []
  | m + 1, k, L => match getA (keyN n k) L with
    | none => []
    | some p => (keyN n k, p) :: takesN n m (k + 1) (delA (keyN n k) L)
theorem takesN_congr {α : Type} (n : Nat) : ∀ (m k : Nat) (L L' : List ((Int × Int) × α)), (∀ j, k ≤ j → getA (keyN n j) L = getA (keyN n j) L') → takesN n m k L = takesN n m k L' := by
  intro m
  induction m with
  | zero => intro k L L' _; rfl
  | succ m ih =>
    intro k L L' h
    have h0 := h k (Nat.le_refl _)
    unfold takesN
    rw [← h0]
    cases getA (keyN n k) L with
    | none => rfl
    | some p =>
      simp only [List.cons.injEq, true_and]
      refine ih _ _ _ fun j hj => ?_
      have hne : keyN n j ≠ keyN n k := fun e => by have := keyN_inj e; omega
      rw [getA_del_ne hne, getA_del_ne hne]
      exact h j (by omega)
/-- the first place from k on, m steps at the most, where p is false -/
def gapN (p : Nat → Bool) : Nat → Nat → Nat
  | 0, k => k
  | m + 1, k => if p k then gapN p m (k + 1) else k
theorem gapN_congr (p q : Nat → Bool) : ∀ (m k : Nat), (∀ j, k ≤ j → p j = q j) → gapN p m k = gapN q m k := by
  intro m
  induction m with
  | zero => intro k _; rfl
  | succ m ih => intro k h; unfold gapN; rw [h k (Nat.le_refl _), ih (k + 1) fun j hj => h j (by omega)]
theorem takesN_len {α : Type} (n : Nat) : ∀ (m k : Nat) (L : List ((Int × Int) × α)), k + (takesN n m k L).length = gapN (fun j => (getA (keyN n j) L).isSome) m k := by
  intro m
  induction m with
  | zero => intro k L; rfl
  | succ m ih =>
    intro k L
    unfold takesN gapN
    cases h : getA (keyN n k) L with
    | none => simp
    | some p =>
      simp only [Option.isSome_some, if_true, List.length_cons]
      have h1 := ih (k + 1) (delA (keyN n k) L)
      rw [gapN_congr _ (fun j => (getA (keyN n j) L).isSome) m (k + 1) (fun j hj => by
        have hne : keyN n j ≠ keyN n k := fun e => by have := keyN_inj e; omega
        simp only [getA_del_ne hne])] at h1
      omega

abbrev Held := List ((Int × Int) × List Pl)
/-- nothing bars the place -/
structure GoodAt (n x t : Int) : Prop where
  bad : arrBad n t x = false
  told : toldB 0 0 x t = false
  far : ¬ 64 ≤ x - 0
theorem code_zero {n x t : Int} {L : Held} {ps : List Pl} : arrCode n 0 0 L x t ps = 0 ↔ GoodAt n x t ∧ ∀ qs, getA (x, t) L = some qs → qs = ps := by
  unfold arrCode
  constructor
  · intro h
    split at h
    · simp at h
    · rename_i h1
      split at h
      · simp at h
      · rename_i h2
        split at h
        · simp at h
        · rename_i h3
          refine ⟨⟨by simpa using h1, by simpa using h2, h3⟩, fun qs hq => ?_⟩
          rw [hq] at h
          by_cases he : qs = ps
          · exact he
          · simp [codeIf, eqL, he] at h
  · rintro ⟨⟨h1, h2, h3⟩, h4⟩
    rw [h1, h2, if_neg (by simp), if_neg (by simp), if_neg h3]
    cases h5 : getA (x, t) L with
    | none => rfl
    | some qs => simp [codeIf, eqL, h4 qs h5]
theorem held_good {n x t : Int} {L : Held} {ps : List Pl} (h : GoodAt n x t) : arrHeld n 0 0 L x t ps = match getA (x, t) L with
    | some _ => L
    | none => L ++ [((x, t), ps)] := by
  unfold arrHeld
  rw [h.bad, h.told, if_neg (by simp), if_neg (by simp), if_neg h.far]
  cases getA (x, t) L <;> rfl
theorem getA_arr {n x t : Int} {L : Held} {ps : List Pl} (h : arrCode n 0 0 L x t ps = 0) (k : Int × Int) : getA k (arrHeld n 0 0 L x t ps) = if k = (x, t) then some ps else getA k L := by
  obtain ⟨hg, he⟩ := code_zero.1 h
  rw [held_good hg]
  cases h5 : getA (x, t) L with
  | none => exact getA_snoc _ _ _ _ h5
  | some qs =>
    by_cases hk : k = (x, t)
    · subst hk; simp [h5, he qs h5]
    · simp [hk]

/-- L holds what has arrived, and nothing else -/
structure Holds (n : Int) (L D : Held) : Prop where
  iff : ∀ k ps, getA k L = some ps ↔ (k, ps) ∈ D
  good : ∀ d ∈ D, GoodAt n d.1.1 d.1.2
theorem Holds.nil {n : Int} : Holds n [] [] := ⟨fun k ps => by simp [getA], by simp⟩
theorem Holds.step {n x t : Int} {L D : Held} {ps : List Pl} (h : Holds n L D) (hc : arrCode n 0 0 L x t ps = 0) : Holds n (arrHeld n 0 0 L x t ps) (D ++ [((x, t), ps)]) := by
  obtain ⟨hg, he⟩ := code_zero.1 hc
  refine ⟨fun k qs => ?_, fun d hd => ?_⟩
  · rw [getA_arr hc]
    by_cases hk : k = (x, t)
    · subst hk
      simp only [if_true, Option.some.injEq, List.mem_append, List.mem_singleton, Prod.mk.injEq, true_and]
      constructor
      · intro e; exact .inr e.symm
      · rintro (e | e)
        · exact (he qs ((h.iff _ _).2 e)).symm
        · exact e.symm
    · simp only [hk, if_false, List.mem_append, List.mem_singleton, Prod.mk.injEq, false_and, or_false]
      exact h.iff k qs
  · rcases List.mem_append.1 hd with hd | hd
    · exact h.good d hd
    · obtain rfl := List.mem_singleton.1 hd
      exact hg
/-- L holds some of D -/
def PartOf (L D : Held) : Prop := ∀ k ps, getA k L = some ps → (k, ps) ∈ D
theorem PartOf.step {n x t : Int} {L L0 D : Held} {ps : List Pl} (h0 : Holds n L0 D) (h : PartOf L D) (hd : ((x, t), ps) ∈ D) :
    arrCode n 0 0 L x t ps = 0 ∧ PartOf (arrHeld n 0 0 L x t ps) D ∧ ∀ k qs, (k, qs) ∈ D → k = (x, t) ∨ getA k L = some qs → getA k (arrHeld n 0 0 L x t ps) = some qs := by
  have hu : ∀ k qs rs, (k, qs) ∈ D → (k, rs) ∈ D → qs = rs := fun k qs rs h1 h2 => by
    have e1 := (h0.iff k qs).2 h1
    have e2 := (h0.iff k rs).2 h2
    rw [e1] at e2
    exact Option.some.inj e2
  have hc : arrCode n 0 0 L x t ps = 0 := code_zero.2 ⟨h0.good _ hd, fun qs hq => hu _ _ _ (h _ _ hq) hd⟩
  refine ⟨hc, fun k qs hq => ?_, fun k qs hk ho => ?_⟩
  · rw [getA_arr hc] at hq
    split at hq
    · rename_i hk; subst hk; obtain rfl := Option.some.inj hq; exact hd
    · exact h k qs hq
  · rw [getA_arr hc]
    by_cases hkx : k = (x, t)
    · subst hkx; simp [hu _ _ _ hd hk]
    · rcases ho with ho | ho
      · exact absurd ho hkx
      · simp [hkx, ho]
theorem same_held {n : Int} {L L' D : Held} (h : Holds n L D) (hp : PartOf L' D) (ha : ∀ k qs, (k, qs) ∈ D → getA k L' = some qs) (k : Int × Int) : getA k L = getA k L' := by
  cases h1 : getA k L with
  | some ps => exact (ha k ps ((h.iff _ _).1 h1)).symm
  | none =>
    cases h2 : getA k L' with
    | none => rfl
    | some qs => have := (h.iff _ _).2 (hp k qs h2); rw [h1] at this; cases this
/-- the number that can be taken is where the acts first have a gap -/
theorem takes_complete {n : Int} {N m : Nat} {L D : Held} (h : Holds n L D) : (takesN N m 0 L).length = gapN (fun j => D.any fun d => decide (d.1 = keyN N j)) m 0 := by
  have h1 := takesN_len N m 0 L
  rw [Nat.zero_add] at h1
  rw [h1]
  refine gapN_congr _ _ _ _ fun j _ => ?_
  rw [Bool.eq_iff_iff]
  simp only [Option.isSome_iff_exists, List.any_eq_true, decide_eq_true_eq]
  constructor
  · rintro ⟨ps, hp⟩; exact ⟨_, (h.iff _ _).1 hp, rfl⟩
  · rintro ⟨⟨k, ps⟩, hd, he⟩
    simp only at he
    subst he
    exact ⟨ps, (h.iff _ _).2 hd⟩

end Go.Proofs.Ytlnlffpkdeaimaa

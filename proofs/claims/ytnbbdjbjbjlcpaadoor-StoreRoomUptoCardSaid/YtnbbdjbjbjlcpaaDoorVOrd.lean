/- value: the order of values, as plain data. -/
import Derived.Test.YtnbbdjbjbjlcpaaDoorKPlain
import Derived.Lib.Bytealg
namespace Go.Proofs.YtnbbdjbjbjlcpaaDoor
open Go
set_option linter.unusedVariables false
set_option linter.unusedSimpArgs false

/-- a three-way order -/
structure Ord3 {α : Type} (f : α → α → Int) : Prop where
  rng : ∀ a b, f a b = -1 ∨ f a b = 0 ∨ f a b = 1
  zero : ∀ a b, f a b = 0 ↔ a = b
  anti : ∀ a b, f b a = - f a b
  trans : ∀ a b c, f a b = -1 → f b c = -1 → f a c = -1
def cmpI (a b : Int) : Int := if a < b then -1 else if b < a then 1 else 0
theorem ord_int : Ord3 cmpI where
  rng a b := by unfold cmpI; by_cases h1 : a < b <;> by_cases h2 : b < a <;> simp [h1, h2]
  zero a b := by unfold cmpI; by_cases h1 : a < b <;> by_cases h2 : b < a <;> simp [h1, h2] <;> omega
  anti a b := by unfold cmpI; by_cases h1 : a < b <;> by_cases h2 : b < a <;> simp [h1, h2] <;> omega
  trans a b c h1 h2 := by
    unfold cmpI at *
    by_cases p1 : a < b
    · by_cases p2 : b < c
      · rw [if_pos (by omega)]
      · rw [if_neg p2] at h2; split at h2 <;> omega
    · rw [if_neg p1] at h1; split at h1 <;> omega
theorem ord_bytes : Ord3 Lib.compareBytes where
  rng a := by
    induction a with
    | nil => intro b; cases b <;> simp [Lib.compareBytes]
    | cons x l ih =>
      intro b
      cases b with
      | nil => simp [Lib.compareBytes]
      | cons y m => unfold Lib.compareBytes; by_cases h1 : x < y <;> by_cases h2 : y < x <;> simp only [h1, h2, if_true, if_false] <;> (first | exact ih m | simp)
  zero a := by
    induction a with
    | nil => intro b; cases b <;> simp [Lib.compareBytes]
    | cons x l ih =>
      intro b
      cases b with
      | nil => simp [Lib.compareBytes]
      | cons y m =>
        unfold Lib.compareBytes
        by_cases h1 : x < y
        · rw [if_pos h1]; simp; rintro rfl; exact absurd h1 (UInt8.lt_irrefl _)
        · by_cases h2 : y < x
          · rw [if_neg h1, if_pos h2]; simp; rintro rfl; exact absurd h2 (UInt8.lt_irrefl _)
          · have : x = y := UInt8.le_antisymm (UInt8.not_lt.1 h2) (UInt8.not_lt.1 h1)
            rw [if_neg h1, if_neg h2, ih m, this]; simp
  anti a := by
    induction a with
    | nil => intro b; cases b <;> simp [Lib.compareBytes]
    | cons x l ih =>
      intro b
      cases b with
      | nil => simp [Lib.compareBytes]
      | cons y m =>
        unfold Lib.compareBytes
        by_cases h1 : x < y
        · simp [h1, UInt8.lt_asymm h1]
        · by_cases h2 : y < x
          · simp [h1, h2]
          · rw [if_neg h1, if_neg h2, if_neg h2, if_neg h1]; exact ih m
  trans a := by
    induction a with
    | nil => intro b c; cases b <;> cases c <;> simp [Lib.compareBytes]
    | cons x l ih =>
      intro b c
      cases b with
      | nil => simp [Lib.compareBytes]
      | cons y m =>
        cases c with
        | nil => simp [Lib.compareBytes]
        | cons z n =>
          unfold Lib.compareBytes
          intro h1 h2
          by_cases a1 : x < y
          · by_cases a2 : y < z
            · rw [if_pos (UInt8.lt_trans a1 a2)]
            · rw [if_neg a2] at h2
              by_cases a3 : z < y
              · rw [if_pos a3] at h2; cases h2
              · have : y = z := UInt8.le_antisymm (UInt8.not_lt.1 a3) (UInt8.not_lt.1 a2)
                rw [← this, if_pos a1]
          · rw [if_neg a1] at h1
            by_cases a4 : y < x
            · rw [if_pos a4] at h1; cases h1
            · have e : x = y := UInt8.le_antisymm (UInt8.not_lt.1 a4) (UInt8.not_lt.1 a1)
              rw [if_neg a4] at h1
              subst e
              by_cases a2 : x < z
              · rw [if_pos a2]
              · rw [if_neg a2] at h2 ⊢
                by_cases a3 : z < x
                · rw [if_pos a3] at h2; cases h2
                · rw [if_neg a3] at h2 ⊢
                  exact ih m n h1 h2
/-- the order of values -/
def Vl.cmp (a b : Vl) : Int := if cmpI a.k b.k ≠ 0 then cmpI a.k b.k else if cmpI a.n b.n ≠ 0 then cmpI a.n b.n else Lib.compareBytes a.s.data.toList b.s.data.toList
theorem s_inj (a b : ByteArray) (h : a.data.toList = b.data.toList) : a = b := by
  obtain ⟨⟨a⟩⟩ := a; obtain ⟨⟨b⟩⟩ := b; simp at h; rw [h]
theorem ord_vl : Ord3 Vl.cmp where
  rng a b := by
    unfold Vl.cmp
    split
    · exact ord_int.rng _ _
    · split
      · exact ord_int.rng _ _
      · exact ord_bytes.rng _ _
  zero a b := by
    unfold Vl.cmp
    by_cases h1 : cmpI a.k b.k = 0
    · by_cases h2 : cmpI a.n b.n = 0
      · rw [if_neg (by simp [h1]), if_neg (by simp [h2]), ord_bytes.zero]
        have e1 := (ord_int.zero _ _).1 h1
        have e2 := (ord_int.zero _ _).1 h2
        obtain ⟨k, n, s⟩ := a; obtain ⟨k', n', s'⟩ := b
        simp only at e1 e2
        subst e1 e2
        simp
        exact ⟨fun h => s_inj _ _ (by rw [h]), fun h => by rw [h]⟩
      · rw [if_neg (by simp [h1]), if_pos h2]
        exact ⟨fun h => absurd h h2, by rintro rfl; exact absurd ((ord_int.zero _ _).2 rfl) h2⟩
    · rw [if_pos h1]
      exact ⟨fun h => absurd h h1, by rintro rfl; exact absurd ((ord_int.zero _ _).2 rfl) h1⟩
  anti a b := by
    unfold Vl.cmp
    have e1 := ord_int.anti a.k b.k
    have e2 := ord_int.anti a.n b.n
    have e3 := ord_bytes.anti a.s.data.toList b.s.data.toList
    rw [e1, e2, e3]
    split <;> split <;> (first | rfl | omega | (split <;> split <;> (first | rfl | omega)))
  trans a b c h1 h2 := by
    have k1 := ord_int.rng a.k b.k; have k2 := ord_int.rng b.k c.k
    have n1 := ord_int.rng a.n b.n; have n2 := ord_int.rng b.n c.n
    have kt := ord_int.trans a.k b.k c.k; have nt := ord_int.trans a.n b.n c.n
    have st := ord_bytes.trans a.s.data.toList b.s.data.toList c.s.data.toList
    have kz1 := (ord_int.zero a.k b.k).1; have kz2 := (ord_int.zero b.k c.k).1
    have nz1 := (ord_int.zero a.n b.n).1; have nz2 := (ord_int.zero b.n c.n).1
    unfold Vl.cmp at *
    by_cases p1 : cmpI a.k b.k = 0
    · rw [kz1 p1]
      by_cases p2 : cmpI b.k c.k = 0
      · rw [if_neg (by simp [p1])] at h1
        rw [if_neg (by simp [p2])] at h2 ⊢
        by_cases q1 : cmpI a.n b.n = 0
        · rw [nz1 q1]
          by_cases q2 : cmpI b.n c.n = 0
          · rw [if_neg (by simp [q1])] at h1
            rw [if_neg (by simp [q2])] at h2 ⊢
            exact st h1 h2
          · rw [if_pos q2] at h2 ⊢; exact h2
        · rw [if_pos q1] at h1
          by_cases q2 : cmpI b.n c.n = 0
          · rw [← nz2 q2]; rw [if_pos q1]; exact h1
          · rw [if_pos q2] at h2
            have := nt h1 h2
            rw [if_pos (by omega)]; exact this
      · rw [if_pos p2] at h2 ⊢; exact h2
    · rw [if_pos p1] at h1
      by_cases p2 : cmpI b.k c.k = 0
      · rw [← kz2 p2]; rw [if_pos p1]; exact h1
      · rw [if_pos p2] at h2
        have := kt h1 h2
        rw [if_pos (by omega)]; exact this
end Go.Proofs.YtnbbdjbjbjlcpaaDoor

/- Texts of the proof, joined: VOrd, SPl, App, GBase, SData, KHelp, VShelf, SFoot, SOf, SNew, SShelf. -/
import Derived.Test.YtphglnenafdkaaaGreatDoorP03
import Derived.Lib.Bytealg
import Derived.Test.YtphglnenafdkaaaGreatDoorP01
import Derived.Test.YtphglnenafdkaaaGreatDoorRows
import Derived.Maps.AppendAt
import Derived.RegionTactic
import Derived.OwnWalk
import Derived.Test.YtphglnenafdkaaaGreatDoorP02
import Derived.Laws.StructEq
import Derived.Deep.DeepMust
import Derived.Deep.RegionLaw
import Derived.Deep.RegionHeld3
import Derived.Deep.DeepCutAuto
import Derived.Deep.CutBlock
import Derived.BigRegion
import Derived.StillTailTactics
import Derived.Deep.WholeRow
import Derived.Laws.Rows
import Derived.Shelf.Small.Bits
import Derived.Shelf.Small.Strs
import Derived.Shelf.Strconv.Itoa0
import Derived.Shelf.LaysM
import Derived.Shelf.Bytes.Len
import Derived.Shelf.Bytes.TryGrow
import Derived.Shelf.Bytes.GrowSliceCatch
import Derived.Shelf.Bytes.GrowSlice
import Derived.Shelf.Strings.Search1
import Derived.Shelf.Bytes.GrowRow0Kept
import Derived.Shelf.Strings.Search2
import Derived.Shelf.Bytes.GrowRowKept
import Derived.Shelf.Strings.Search3
import Derived.Shelf.Bytes.GrowNilKept
import Derived.Shelf.Strings.Cut
import Derived.Shelf.Bytes.GrowKept
import Derived.Shelf.Strings.Count
import Derived.Shelf.Strings.Shaped
import Derived.Shelf.Bytes.WriteStringKept
import Derived.Shelf.Sort.Plain
import Derived.Shelf.Bytes.ResetKept
import Derived.Shelf.Bytes.BufferK
import Derived.Shelf.Unicode.DecodeSlow
import Derived.Shelf.Slices.In.SortNone
import Derived.Ground.SlgfProg
import Derived.Shelf.SlicesE.IndexFunc
import Derived.Test.YtphglnenafdkaaaGreatDoorProg
import Derived.Shelf.Strconv.Itoa1
import Derived.Shelf.Strconv.Itoa2
import Derived.Shelf.Strconv.Itoa3
import Derived.Shelf.Strconv.Itoa4
import Derived.Shelf.Bytes.Bytes
import Derived.Shelf.Strconv.ParseIntEmpty
import Derived.Shelf.Strconv.Clone
import Derived.Shelf.Strconv.SyntaxError
import Derived.Shelf.LaysC
import Derived.Shelf.Strconv.ToError
import Derived.Shelf.Strconv.Lower
import Derived.Shelf.Strconv.ParseUint10
import Derived.Shelf.Strconv.ParseUint10Empty
import Derived.Shelf.Strconv.ParseUint10Any
import Derived.Shelf.Strconv.ParseInt10
import Derived.Shelf.Strconv.RangeError
import Derived.Shelf.Strconv.ToErrorRange
import Derived.Shelf.Strconv.ParseUintEmpty
import Derived.Shelf.Strconv.ParseUint10b64
import Derived.Shelf.Strconv.ParseUint10b32
import Derived.Shelf.Strconv.ParseUint10b16
import Derived.Shelf.Strconv.ParseUint10b8
import Derived.Shelf.Strconv.ParseUint10At
import Derived.Shelf.Strconv.ParseInt10At64
import Derived.Shelf.Strconv.ParseInt10At32
import Derived.Shelf.Strconv.ParseInt10At16
import Derived.Shelf.Strconv.ParseInt10At8
import Derived.Shelf.Strconv.ParseInt10All
import Derived.Shelf.Strconv.ParseIntPublic10
import Derived.Shelf.Strconv.ErrVarParseInt
import Derived.Shelf.Strings.Split
import Derived.Shelf.Strings.SplitShaped
import Derived.Shelf.SlSortCmp.WholeK
import Derived.Shelf.SlGeneric
import Derived.Ground.SlsfProg
namespace Go.Proofs.YtphglnenafdkaaaGreatDoor
open Go
set_option linter.unusedVariables false
set_option linter.unusedSimpArgs false

/-- a three-way order -/
structure Ord3 {α : Type} (f : α → α → Int) : Prop where
  rng : ∀ a b, f a b = -1 ∨ f a b = 0 ∨ f a b = 1
  zero : ∀ a b, f a b = 0 ↔ a = b
  anti : ∀ a b, f b a = - f a b
  trans : ∀ a b c, f a b = -1 → f b c = -1 → f a c = -1
def cmpI (a b : Int) : Int := if a < b then -1 else if b < a then 1 else 0
theorem ord_int : Ord3 cmpI where
  rng a b := by unfold cmpI; by_cases h1 : a < b <;> by_cases h2 : b < a <;> simp [h1, h2]
  zero a b := by unfold cmpI; by_cases h1 : a < b <;> by_cases h2 : b < a <;> simp [h1, h2] <;> omega
  anti a b := by unfold cmpI; by_cases h1 : a < b <;> by_cases h2 : b < a <;> simp [h1, h2] <;> omega
  trans a b c h1 h2 := by
    unfold cmpI at *
    by_cases p1 : a < b
    · by_cases p2 : b < c
      · rw [if_pos (by omega)]
      · rw [if_neg p2] at h2; split at h2 <;> omega
    · rw [if_neg p1] at h1; split at h1 <;> omega
theorem ord_bytes : Ord3 Lib.compareBytes where
  rng a := by
    induction a with
    | nil => intro b; cases b <;> simp [Lib.compareBytes]
    | cons x l ih =>
      intro b
      cases b with
      | nil => simp [Lib.compareBytes]
      | cons y m => unfold Lib.compareBytes; by_cases h1 : x < y <;> by_cases h2 : y < x <;> simp only [h1, h2, if_true, if_false] <;> (first | exact ih m | simp)
  zero a := by
    induction a with
    | nil => intro b; cases b <;> simp [Lib.compareBytes]
    | cons x l ih =>
      intro b
      cases b with
      | nil => simp [Lib.compareBytes]
      | cons y m =>
        unfold Lib.compareBytes
        by_cases h1 : x < y
        · rw [if_pos h1]; simp; rintro rfl; exact absurd h1 (UInt8.lt_irrefl _)
        · by_cases h2 : y < x
          · rw [if_neg h1, if_pos h2]; simp; rintro rfl; exact absurd h2 (UInt8.lt_irrefl _)
          · have : x = y := UInt8.le_antisymm (UInt8.not_lt.1 h2) (UInt8.not_lt.1 h1)
            rw [if_neg h1, if_neg h2, ih m, this]; simp
  anti a := by
    induction a with
    | nil => intro b; cases b <;> simp [Lib.compareBytes]
    | cons x l ih =>
      intro b
      cases b with
      | nil => simp [Lib.compareBytes]
      | cons y m =>
        unfold Lib.compareBytes
        by_cases h1 : x < y
        · simp [h1, UInt8.lt_asymm h1]
        · by_cases h2 : y < x
          · simp [h1, h2]
          · rw [if_neg h1, if_neg h2, if_neg h2, if_neg h1]; exact ih m
  trans a := by
    induction a with
    | nil => intro b c; cases b <;> cases c <;> simp [Lib.compareBytes]
    | cons x l ih =>
      intro b c
      cases b with
      | nil => simp [Lib.compareBytes]
      | cons y m =>
        cases c with
        | nil => simp [Lib.compareBytes]
        | cons z n =>
          unfold Lib.compareBytes
          intro h1 h2
          by_cases a1 : x < y
          · by_cases a2 : y < z
            · rw [if_pos (UInt8.lt_trans a1 a2)]
            · rw [if_neg a2] at h2
              by_cases a3 : z < y
              · rw [if_pos a3] at h2; cases h2
              · have : y = z := UInt8.le_antisymm (UInt8.not_lt.1 a3) (UInt8.not_lt.1 a2)
                rw [← this, if_pos a1]
          · rw [if_neg a1] at h1
            by_cases a4 : y < x
            · rw [if_pos a4] at h1; cases h1
            · have e : x = y := UInt8.le_antisymm (UInt8.not_lt.1 a4) (UInt8.not_lt.1 a1)
              rw [if_neg a4] at h1
              subst e
              by_cases a2 : x < z
              · rw [if_pos a2]
              · rw [if_neg a2] at h2 ⊢
                by_cases a3 : z < x
                · rw [if_pos a3] at h2; cases h2
                · rw [if_neg a3] at h2 ⊢
                  exact ih m n h1 h2
/-- the order of values -/
def Vl.cmp (a b : Vl) : Int := if cmpI a.k b.k ≠ 0 then cmpI a.k b.k else if cmpI a.n b.n ≠ 0 then cmpI a.n b.n else Lib.compareBytes a.s.data.toList b.s.data.toList
theorem s_inj (a b : ByteArray) (h : a.data.toList = b.data.toList) : a = b := by
  obtain ⟨⟨a⟩⟩ := a; obtain ⟨⟨b⟩⟩ := b; simp at h; rw [h]
theorem ord_vl : Ord3 Vl.cmp where
  rng a b := by
    unfold Vl.cmp
    split
    · exact ord_int.rng _ _
    · split
      · exact ord_int.rng _ _
      · exact ord_bytes.rng _ _
  zero a b := by
    unfold Vl.cmp
    by_cases h1 : cmpI a.k b.k = 0
    · by_cases h2 : cmpI a.n b.n = 0
      · rw [if_neg (by simp [h1]), if_neg (by simp [h2]), ord_bytes.zero]
        have e1 := (ord_int.zero _ _).1 h1
        have e2 := (ord_int.zero _ _).1 h2
        obtain ⟨k, n, s⟩ := a; obtain ⟨k', n', s'⟩ := b
        simp only at e1 e2
        subst e1 e2
        simp
        exact ⟨fun h => s_inj _ _ (by rw [h]), fun h => by rw [h]⟩
      · rw [if_neg (by simp [h1]), if_pos h2]
        exact ⟨fun h => absurd h h2, by rintro rfl; exact absurd ((ord_int.zero _ _).2 rfl) h2⟩
    · rw [if_pos h1]
      exact ⟨fun h => absurd h h1, by rintro rfl; exact absurd ((ord_int.zero _ _).2 rfl) h1⟩
  anti a b := by
    unfold Vl.cmp
    have e1 := ord_int.anti a.k b.k
    have e2 := ord_int.anti a.n b.n
    have e3 := ord_bytes.anti a.s.data.toList b.s.data.toList
    rw [e1, e2, e3]
    split <;> split <;> (first | rfl | omega | (split <;> split <;> (first | rfl | omega)))
  trans a b c h1 h2 := by
    have k1 := ord_int.rng a.k b.k; have k2 := ord_int.rng b.k c.k
    have n1 := ord_int.rng a.n b.n; have n2 := ord_int.rng b.n c.n
    have kt := ord_int.trans a.k b.k c.k; have nt := ord_int.trans a.n b.n c.n
    have st := ord_bytes.trans a.s.data.toList b.s.data.toList c.s.data.toList
    have kz1 := (ord_int.zero a.k b.k).1; have kz2 := (ord_int.zero b.k c.k).1
    have nz1 := (ord_int.zero a.n b.n).1; have nz2 := (ord_int.zero b.n c.n).1
    unfold Vl.cmp at *
    by_cases p1 : cmpI a.k b.k = 0
    · rw [kz1 p1]
      by_cases p2 : cmpI b.k c.k = 0
      · rw [if_neg (by simp [p1])] at h1
        rw [if_neg (by simp [p2])] at h2 ⊢
        by_cases q1 : cmpI a.n b.n = 0
        · rw [nz1 q1]
          by_cases q2 : cmpI b.n c.n = 0
          · rw [if_neg (by simp [q1])] at h1
            rw [if_neg (by simp [q2])] at h2 ⊢
            exact st h1 h2
          · rw [if_pos q2] at h2 ⊢; exact h2
        · rw [if_pos q1] at h1
          by_cases q2 : cmpI b.n c.n = 0
          · rw [← nz2 q2]; rw [if_pos q1]; exact h1
          · rw [if_pos q2] at h2
            have := nt h1 h2
            rw [if_pos (by omega)]; exact this
      · rw [if_pos p2] at h2 ⊢; exact h2
    · rw [if_pos p1] at h1
      by_cases p2 : cmpI b.k c.k = 0
      · rw [← kz2 p2]; rw [if_pos p1]; exact h1
      · rw [if_pos p2] at h2
        have := kt h1 h2
        rw [if_pos (by omega)]; exact this
end Go.Proofs.YtphglnenafdkaaaGreatDoor

namespace Go.Proofs.YtphglnenafdkaaaGreatDoor
open Go
set_option linter.unusedVariables false
set_option linter.unusedSimpArgs false

/-! the order of keys -/
theorem less_cmp : ∀ a b : List UInt8, Op.bytesLess a b = decide (Lib.compareBytes a b = -1) := by
  intro a
  induction a with
  | nil => intro b; cases b <;> simp [Op.bytesLess, Lib.compareBytes]
  | cons x l ih =>
    intro b
    cases b with
    | nil => simp [Op.bytesLess, Lib.compareBytes]
    | cons y m =>
      unfold Op.bytesLess Lib.compareBytes
      by_cases h1 : x < y
      · simp [h1]
      · by_cases h2 : y < x
        · have : x ≠ y := by rintro rfl; exact UInt8.lt_irrefl _ h2
          simp [h1, h2, this]
        · have : x = y := UInt8.le_antisymm (UInt8.not_lt.1 h2) (UInt8.not_lt.1 h1)
          subst this
          simp only [h1, decide_false, Bool.false_or, if_false, BEq.rfl, Bool.true_and, ih]
def ltB (a b : ByteArray) : Bool := Op.bytesLess a.toList b.toList
theorem ltB_iff (a b : ByteArray) : ltB a b = true ↔ Lib.compareBytes a.toList b.toList = -1 := by unfold ltB; rw [less_cmp]; simp
theorem ltB_irrefl (a : ByteArray) : ltB a a = false := by
  cases h : ltB a a with
  | false => rfl
  | true => rw [ltB_iff, (ord_bytes.zero _ _).2 rfl] at h; cases h
theorem ltB_trans {a b c : ByteArray} (h1 : ltB a b = true) (h2 : ltB b c = true) : ltB a c = true := by
  rw [ltB_iff] at *; exact ord_bytes.trans _ _ _ h1 h2
theorem ltB_tri {a b : ByteArray} (h1 : ltB a b = false) (h2 : ltB b a = false) : a = b := by
  have h1' : ¬ ltB a b = true := by rw [h1]; simp
  have h2' : ¬ ltB b a = true := by rw [h2]; simp
  rw [ltB_iff] at h1' h2'
  rw [ord_bytes.anti] at h2'
  apply ba_inj
  rw [← ord_bytes.zero]
  rcases ord_bytes.rng a.toList b.toList with h | h | h
  · exact absurd h h1'
  · exact h
  · exact absurd (by rw [h]) h2'
theorem ltB_asymm {a b : ByteArray} (h1 : ltB a b = true) : ltB b a = false := by
  cases h : ltB b a with
  | false => rfl
  | true => have := ltB_trans h1 h; rw [ltB_irrefl] at this; cases this
theorem ltB_ne {a b : ByteArray} (h1 : ltB a b = true) : a ≠ b := by rintro rfl; rw [ltB_irrefl] at h1; cases h1
/-! keys -/
def keyB (c : UInt8) : Bool := (decide (97 ≤ c.toNat) && decide (c.toNat ≤ 122)) || (decide (48 ≤ c.toNat) && decide (c.toNat ≤ 57)) || decide (c.toNat = 47) || decide (c.toNat = 58) || decide (c.toNat = 46) || decide (c.toNat = 95) || decide (c.toNat = 45)
def validK (k : ByteArray) : Bool := k.toList.all keyB && decide (1 ≤ k.size) && decide (k.size ≤ 32)
def hashL : Nat → List UInt8 → Nat
  | h, [] => h
  | h, c :: r => hashL ((h ^^^ c.toNat) * 1099511628211 % 18446744073709551616) r
def hash0 (k : ByteArray) : Nat := hashL 14695981039346656037 k.toList
def partK (n : Nat) (k : ByteArray) : Nat := hash0 k % n
theorem partK_lt {n : Nat} (k : ByteArray) (h : 0 < n) : partK n k < n := Nat.mod_lt _ h
/-! lists of keys with values -/
abbrev Kv := ByteArray × Vl
def Asc (L : List Kv) : Prop := L.Pairwise fun x y => ltB x.1 y.1 = true
def hasK (k : ByteArray) (L : List Kv) : Bool := L.any fun x => decide (x.1 = k)
def valK (k : ByteArray) : List Kv → Vl
  | [] => vl0
  | x :: l => if x.1 = k then x.2 else valK k l
def insK (k : ByteArray) : List Kv → List Kv
  | [] => [(k, vl0)]
  | x :: l => if ltB x.1 k then x :: insK k l else if x.1 = k then x :: l else (k, vl0) :: x :: l
def upK (k : ByteArray) (v : Vl) (L : List Kv) : List Kv := L.map fun x => if x.1 = k then (k, v) else x
def dumpL (L : List Kv) : List Kv := L.filter fun x => !decide (x.2.k = 0)
def cntP (n p : Nat) (L : List Kv) : Nat := L.countP fun x => decide (partK n x.1 = p)
section
variable {L : List Kv} {k j : ByteArray} {v : Vl} {n p : Nat}
theorem hasK_cons (x : Kv) (L : List Kv) (k : ByteArray) : hasK k (x :: L) = (decide (x.1 = k) || hasK k L) := rfl
theorem hasK_mem : hasK k L = true ↔ ∃ x ∈ L, x.1 = k := by simp [hasK]
theorem hasK_asc {x : Kv} (h : Asc (x :: L)) (hk : ltB x.1 k = false) : x.1 = k ∨ hasK k (x :: L) = false := by
  by_cases e : x.1 = k
  · exact .inl e
  · right
    cases hh : hasK k (x :: L) with
    | false => rfl
    | true =>
      obtain ⟨y, hy, rfl⟩ := hasK_mem.1 hh
      rcases List.mem_cons.1 hy with rfl | hy
      · exact absurd rfl e
      · have := (List.pairwise_cons.1 h).1 y hy
        rw [this] at hk; cases hk
theorem hasK_ins : ∀ {L : List Kv}, hasK j (insK k L) = (decide (k = j) || hasK j L) := by
  intro L
  induction L with
  | nil => simp [insK, hasK]
  | cons x l ih =>
    unfold insK
    split
    · rw [hasK_cons, ih, hasK_cons]; simp [Bool.or_left_comm]
    · split
      · rename_i h; rw [hasK_cons, h]; simp
      · rw [hasK_cons]
theorem ins_mem : ∀ {L : List Kv} {x : Kv}, x ∈ insK k L → x = (k, vl0) ∨ x ∈ L := by
  intro L
  induction L with
  | nil => intro x h; simp [insK] at h; exact .inl h
  | cons y l ih =>
    intro x h
    unfold insK at h
    split at h
    · rcases List.mem_cons.1 h with rfl | h
      · exact .inr (List.mem_cons_self ..)
      · exact (ih h).imp id (List.mem_cons_of_mem _)
    · split at h
      · exact .inr h
      · rcases List.mem_cons.1 h with rfl | h
        · exact .inl rfl
        · exact .inr h
theorem ins_asc : ∀ {L : List Kv}, Asc L → Asc (insK k L) := by
  intro L
  induction L with
  | nil => intro _; simp [insK, Asc]
  | cons x l ih =>
    intro h
    have h' := List.pairwise_cons.1 h
    unfold insK
    split
    · rename_i hk
      refine List.pairwise_cons.2 ⟨fun y hy => ?_, ih h'.2⟩
      rcases ins_mem hy with rfl | hy
      · exact hk
      · exact h'.1 y hy
    · split
      · exact h
      · rename_i h1 h2
        have h3 : ltB k x.1 = true := by
          cases e : ltB k x.1 with
          | true => rfl
          | false => exact absurd (ltB_tri (by simpa using h1) e) h2
        refine List.pairwise_cons.2 ⟨fun y hy => ?_, h⟩
        rcases List.mem_cons.1 hy with rfl | hy
        · exact h3
        · exact ltB_trans h3 (h'.1 y hy)
theorem valK_none : ∀ {L : List Kv}, hasK k L = false → valK k L = vl0 := by
  intro L
  induction L with
  | nil => intro _; rfl
  | cons x l ih =>
    intro h
    rw [hasK_cons] at h
    simp at h
    unfold valK
    rw [if_neg h.1]
    exact ih h.2
theorem valK_ins : ∀ {L : List Kv}, Asc L → valK j (insK k L) = valK j L := by
  intro L
  induction L with
  | nil => intro _; unfold insK valK; split <;> simp [valK]
  | cons x l ih =>
    intro h
    have h' := List.pairwise_cons.1 h
    unfold insK
    split
    · rw [valK, valK, ih h'.2]
    · split
      · rfl
      · rename_i h1 h2
        rw [valK]
        split
        · rename_i e
          simp only at e
          subst e
          rcases hasK_asc h (by simpa using h1) with e | e
          · exact absurd e h2
          · exact (valK_none e).symm
        · rfl
theorem ins_has : ∀ {L : List Kv}, Asc L → hasK k L = true → insK k L = L := by
  intro L
  induction L with
  | nil => intro _ h; cases h
  | cons x l ih =>
    intro h hk
    have h' := List.pairwise_cons.1 h
    unfold insK
    split
    · rename_i h1
      rw [hasK_cons] at hk
      have hne := ltB_ne h1
      simp [hne] at hk
      rw [ih h'.2 hk]
    · split
      · rfl
      · rename_i h1 h2
        rcases hasK_asc h (by simpa using h1) with e | e
        · exact absurd e h2
        · rw [e] at hk; cases hk
/-- where a key stands, or would stand -/
def posK (k : ByteArray) (L : List Kv) : Nat := L.countP fun x => ltB x.1 k
theorem pos_t {x : Kv} {L : List Kv} {k : ByteArray} (h : ltB x.1 k = true) : posK k (x :: L) = posK k L + 1 := List.countP_cons_of_pos (p := fun x : Kv => ltB x.1 k) h
theorem pos_f {x : Kv} {L : List Kv} {k : ByteArray} (h : ¬ ltB x.1 k = true) : posK k (x :: L) = posK k L := List.countP_cons_of_neg (p := fun x : Kv => ltB x.1 k) h
theorem pos_z {l : List Kv} {x : Kv} {k : ByteArray} (h : ∀ y ∈ l, ltB x.1 y.1 = true) (h1 : ¬ ltB x.1 k = true) : posK k l = 0 := List.countP_eq_zero.2 fun y hy e => h1 (ltB_trans (h y hy) e)
theorem posK_le : posK k L ≤ L.length := List.countP_le_length
theorem ins_split : ∀ {L : List Kv}, Asc L → hasK k L = false → insK k L = L.take (posK k L) ++ [(k, vl0)] ++ L.drop (posK k L) := by
  intro L
  induction L with
  | nil => intro _ _; rfl
  | cons x l ih =>
    intro h hk
    have h' := List.pairwise_cons.1 h
    rw [hasK_cons] at hk
    simp only [Bool.or_eq_false_iff, decide_eq_false_iff_not] at hk
    unfold insK
    by_cases h1 : ltB x.1 k = true
    · rw [if_pos h1, ih h'.2 hk.2, pos_t h1]
      simp
    · have hz := pos_z h'.1 h1
      rw [if_neg h1, if_neg hk.1, pos_f h1, hz]
      simp
theorem pos_get : ∀ {L : List Kv}, Asc L → hasK k L = true → ∃ x, L[posK k L]? = some x ∧ x.1 = k ∧ x.2 = valK k L := by
  intro L
  induction L with
  | nil => intro _ h; cases h
  | cons x l ih =>
    intro h hk
    have h' := List.pairwise_cons.1 h
    rw [hasK_cons] at hk
    by_cases h1 : ltB x.1 k = true
    · have hne := ltB_ne h1
      simp [hne] at hk
      obtain ⟨y, e1, e2, e3⟩ := ih h'.2 hk
      rw [pos_t h1]
      exact ⟨y, by simpa using e1, e2, by rw [valK, if_neg hne]; exact e3⟩
    · have hx : x.1 = k := by
        rcases hasK_asc h (by simpa using h1) with e | e
        · exact e
        · rw [hasK_cons] at e; rw [e] at hk; cases hk
      have hz := pos_z h'.1 h1
      rw [pos_f h1, hz]
      exact ⟨x, rfl, hx, by rw [valK, if_pos hx]⟩
theorem pos_lt : ∀ {L : List Kv}, Asc L → ∀ i x, L[i]? = some x → (ltB x.1 k = true ↔ i < posK k L) := by
  intro L
  induction L with
  | nil => intro _ i x h; simp at h
  | cons y l ih =>
    intro h i x hx
    have h' := List.pairwise_cons.1 h
    by_cases h1 : ltB y.1 k = true
    · rw [pos_t h1]
      cases i with
      | zero => simp at hx; subst hx; simp [h1]
      | succ i =>
        simp at hx
        have := ih h'.2 i x hx
        rw [this]; omega
    · have hz := pos_z h'.1 h1
      rw [pos_f h1, hz]
      cases i with
      | zero => simp at hx; subst hx; simp [h1]
      | succ i =>
        simp at hx
        have hm := List.mem_of_getElem? hx
        have : ¬ ltB x.1 k = true := fun e => h1 (ltB_trans (h'.1 x hm) e)
        simp [this]
theorem cnt_ins : ∀ {L : List Kv}, Asc L → cntP n p (insK k L) = cntP n p L + if hasK k L = false ∧ partK n k = p then 1 else 0 := by
  intro L h
  cases hk : hasK k L with
  | true => rw [ins_has h hk]; simp
  | false =>
    rw [ins_split h hk]
    unfold cntP
    rw [List.countP_append, List.countP_append, List.countP_singleton]
    have : L.countP (fun x => decide (partK n x.1 = p)) = (L.take (posK k L)).countP (fun x => decide (partK n x.1 = p)) + (L.drop (posK k L)).countP (fun x => decide (partK n x.1 = p)) := by
      rw [← List.countP_append, List.take_append_drop]
    rw [this]
    by_cases e : partK n k = p <;> simp [e] <;> omega
theorem up_keys : (upK k v L).map (·.1) = L.map (·.1) := by
  unfold upK
  rw [List.map_map]
  apply List.map_congr_left
  intro x _
  simp only [Function.comp]
  split
  · rename_i h; exact h.symm
  · rfl
theorem asc_keys {L' : List Kv} (h : L'.map (·.1) = L.map (·.1)) (ha : Asc L) : Asc L' := by
  have e : ∀ M : List Kv, Asc M ↔ (M.map (·.1)).Pairwise fun x y => ltB x y = true := fun M => by unfold Asc; rw [List.pairwise_map]
  rw [e] at *
  rw [h]; exact ha
theorem up_asc (h : Asc L) : Asc (upK k v L) := asc_keys up_keys h
theorem has_keys {L' : List Kv} (h : L'.map (·.1) = L.map (·.1)) : hasK j L' = hasK j L := by
  have e : ∀ M : List Kv, hasK j M = (M.map (·.1)).any fun x => decide (x = j) := fun M => by unfold hasK; rw [List.any_map]; rfl
  rw [e, e, h]
theorem hasK_up : hasK j (upK k v L) = hasK j L := has_keys up_keys
theorem cnt_keys {L' : List Kv} (h : L'.map (·.1) = L.map (·.1)) : cntP n p L' = cntP n p L := by
  have e : ∀ M : List Kv, cntP n p M = (M.map (·.1)).countP fun x => decide (partK n x = p) := fun M => by unfold cntP; rw [List.countP_map]; rfl
  rw [e, e, h]
theorem cnt_up : cntP n p (upK k v L) = cntP n p L := cnt_keys up_keys
theorem valK_up : ∀ {L : List Kv}, valK j (upK k v L) = if k = j ∧ hasK k L = true then v else valK j L := by
  intro L
  induction L with
  | nil => simp [upK, valK, hasK]
  | cons x l ih =>
    have e : upK k v (x :: l) = (if x.1 = k then (k, v) else x) :: upK k v l := rfl
    rw [e, valK, ih, hasK_cons, valK]
    by_cases h1 : x.1 = k
    · rw [if_pos h1]
      by_cases h2 : k = j
      · simp [h1, h2]
      · have : x.1 ≠ j := fun e => h2 (h1.symm.trans e)
        simp [h1, h2, this]
    · rw [if_neg h1]
      by_cases h2 : x.1 = j
      · have : k ≠ j := fun e => h1 (h2.trans e.symm)
        simp [h2, this]
      · simp [h1, h2]
theorem valK_mem {x : Kv} : ∀ {L : List Kv}, Asc L → x ∈ L → valK x.1 L = x.2 := by
  intro L
  induction L with
  | nil => intro _ h; cases h
  | cons y l ih =>
    intro h hx
    have h' := List.pairwise_cons.1 h
    unfold valK
    rcases List.mem_cons.1 hx with rfl | hx
    · rw [if_pos rfl]
    · rw [if_neg (ltB_ne (h'.1 x hx)), ih h'.2 hx]
theorem asc_nodup (h : Asc L) : (L.map (·.1)).Nodup := by
  unfold Asc at h
  rw [List.nodup_iff_pairwise_ne, List.pairwise_map]
  exact h.imp fun h => ltB_ne h
/-- two rising lists that have the same are one -/
theorem asc_eq {L M : List Kv} (hL : Asc L) (hM : Asc M) (h : L.Perm M) : L = M :=
  h.eq_of_pairwise (fun a b _ _ h1 h2 => by rw [ltB_asymm h1] at h2; cases h2) hL hM
theorem dump_asc (h : Asc L) : Asc (dumpL L) := h.filter _
end
/-! stores -/
structure St where
  parts : Nat
  room : Nat
  L : List Kv
/-- a write -/
structure Wr where
  key : ByteArray
  gone : Bool
  v : Vl
def riseB (ks : List ByteArray) : Bool := (List.range (ks.length - 1)).all fun i => ltB (ks.getD i ⟨#[]⟩) (ks.getD (i + 1) ⟨#[]⟩)
def moreK (s : St) (ks : List ByteArray) (p : Nat) : Nat := ks.countP fun k => !hasK k s.L && decide (partK s.parts k = p)
def fullB (s : St) (ks : List ByteArray) : Bool := (List.range s.parts).any fun p => decide (0 < moreK s ks p) && decide (s.room < cntP s.parts p s.L + moreK s ks p)
def claimE (s : St) (ks : List ByteArray) : Int := if ks.any (fun k => !validK k) = true then 30 else if riseB ks = false then 40 else if fullB s ks = true then 5 else 0
def insAll (L : List Kv) (ks : List ByteArray) : List Kv := ks.foldl (fun L k => insK k L) L
def claimS (s : St) (ks : List ByteArray) : St := if claimE s ks = 0 then { s with L := insAll s.L ks } else s
def wrE (s : St) (ws : List Wr) (i : Nat) : Int :=
  let w := ws.getD i ⟨⟨#[]⟩, false, vl0⟩
  if validK w.key = false then 30
  else if 0 < i ∧ ltB (ws.getD (i - 1) ⟨⟨#[]⟩, false, vl0⟩).key w.key = false then 40
  else if hasK w.key s.L = false then 41
  else if w.v.ok = false then 20
  else if w.gone = true ∧ w.v ≠ vl0 then 2
  else 0
def applyE (s : St) (ws : List Wr) : Int := (scan (wrE s ws) ws.length 0).1
def upAll (L : List Kv) (ws : List Wr) : List Kv := ws.foldl (fun L x => upK x.key x.v L) L
def applyS (s : St) (ws : List Wr) : St := if applyE s ws = 0 then { s with L := upAll s.L ws } else s
/-- what always holds -/
structure St.Ok (s : St) : Prop where
  parts : 1 ≤ s.parts ∧ s.parts ≤ 64
  room : 1 ≤ s.room ∧ s.room ≤ 4096
  asc : Asc s.L
  key : ∀ x ∈ s.L, validK x.1 = true
  val : ∀ x ∈ s.L, x.2.ok = true
  cnt : ∀ p, p < s.parts → cntP s.parts p s.L ≤ s.room
section
variable {s : St} {ks : List ByteArray} {ws : List Wr}
theorem insAll_asc : ∀ {ks : List ByteArray} {L : List Kv}, Asc L → Asc (insAll L ks) := by
  intro ks
  induction ks with
  | nil => intro L h; exact h
  | cons k ks ih => intro L h; exact ih (ins_asc h)
theorem insAll_has {j : ByteArray} : ∀ {ks : List ByteArray} {L : List Kv}, hasK j (insAll L ks) = (ks.any (fun k => decide (k = j)) || hasK j L) := by
  intro ks
  induction ks with
  | nil => intro L; simp [insAll]
  | cons k ks ih =>
    intro L
    show hasK j (insAll (insK k L) ks) = _
    rw [ih, hasK_ins, List.any_cons]
    cases decide (k = j) <;> cases ks.any (fun k => decide (k = j)) <;> simp
theorem insAll_val {j : ByteArray} : ∀ {ks : List ByteArray} {L : List Kv}, Asc L → valK j (insAll L ks) = valK j L := by
  intro ks
  induction ks with
  | nil => intro L _; rfl
  | cons k ks ih => intro L h; exact (ih (ins_asc h)).trans (valK_ins h)
theorem insAll_mem : ∀ {ks : List ByteArray} {L : List Kv} {x : Kv}, x ∈ insAll L ks → (x.1 ∈ ks ∧ x.2 = vl0) ∨ x ∈ L := by
  intro ks
  induction ks with
  | nil => intro L x h; exact .inr h
  | cons k ks ih =>
    intro L x h
    rcases ih (L := insK k L) h with h | h
    · exact .inl ⟨List.mem_cons_of_mem _ h.1, h.2⟩
    · rcases ins_mem h with rfl | h
      · exact .inl ⟨List.mem_cons_self .., rfl⟩
      · exact .inr h
theorem insAll_cnt {n p : Nat} : ∀ {ks : List ByteArray} {L : List Kv}, Asc L → ks.Nodup → cntP n p (insAll L ks) = cntP n p L + ks.countP fun k => !hasK k L && decide (partK n k = p) := by
  intro ks
  induction ks with
  | nil => intro L _ _; rfl
  | cons k ks ih =>
    intro L h hn
    have hn' := List.nodup_cons.1 hn
    show cntP n p (insAll (insK k L) ks) = _
    rw [ih (ins_asc h) hn'.2, cnt_ins h, List.countP_cons]
    have e : (ks.countP fun j => !hasK j (insK k L) && decide (partK n j = p)) = ks.countP fun j => !hasK j L && decide (partK n j = p) := by
      apply List.countP_congr
      intro j hj
      have : k ≠ j := by rintro rfl; exact hn'.1 hj
      rw [hasK_ins]; simp [this]
    rw [e]
    cases hasK k L <;> by_cases h2 : partK n k = p <;> simp [h2] <;> omega
theorem rise_lt (h : riseB ks = true) : ∀ i j, i < j → j < ks.length → ltB (ks.getD i ⟨#[]⟩) (ks.getD j ⟨#[]⟩) = true := by
  intro i j hij hj
  unfold riseB at h
  rw [List.all_eq_true] at h
  induction j with
  | zero => omega
  | succ j ih =>
    have h1 := h j (List.mem_range.2 (by omega))
    by_cases e : i = j
    · subst e; exact h1
    · exact ltB_trans (ih (by omega) (by omega)) h1
theorem rise_nodup (h : riseB ks = true) : ks.Nodup := by
  rw [List.nodup_iff_pairwise_ne, List.pairwise_iff_getElem]
  intro i j hi hj hij
  have := ltB_ne (rise_lt h i j hij hj)
  simpa [List.getD_eq_getElem?_getD, hi, hj] using this
theorem claim_ok (h : s.Ok) (ks : List ByteArray) : (claimS s ks).Ok := by
  unfold claimS
  split
  · rename_i he
    unfold claimE at he
    split at he; · cases he
    rename_i h1
    split at he; · cases he
    rename_i h2
    split at he; · cases he
    rename_i h3
    have hr : riseB ks = true := by simpa using h2
    refine ⟨h.parts, h.room, insAll_asc h.asc, fun x hx => ?_, fun x hx => ?_, fun p hp => ?_⟩
    · rcases insAll_mem hx with ⟨hx, _⟩ | hx
      · simp at h1; exact h1 _ hx
      · exact h.key x hx
    · rcases insAll_mem hx with ⟨_, hx⟩ | hx
      · rw [hx]; decide
      · exact h.val x hx
    · show cntP s.parts p (insAll s.L ks) ≤ s.room
      rw [insAll_cnt h.asc (rise_nodup hr)]
      have hp' : p < s.parts := hp
      have h4 : ¬ (0 < moreK s ks p ∧ s.room < cntP s.parts p s.L + moreK s ks p) := by
        intro h4
        apply h3
        unfold fullB
        exact List.any_eq_true.2 ⟨p, List.mem_range.2 hp', by simp [h4.1, h4.2]⟩
      have h5 := h.cnt p hp'
      unfold moreK at h4
      omega
  · exact h
theorem upAll_keys : ∀ {ws : List Wr} {L : List Kv}, (upAll L ws).map (·.1) = L.map (·.1) := by
  intro ws
  induction ws with
  | nil => intro L; rfl
  | cons x ws ih => intro L; exact (ih (L := upK x.key x.v L)).trans up_keys
theorem up_mem {k : ByteArray} {v : Vl} {L : List Kv} {x : Kv} (h : x ∈ upK k v L) : (x.1 = k ∧ x.2 = v) ∨ x ∈ L := by
  obtain ⟨y, hy, rfl⟩ := List.mem_map.1 h
  split
  · exact .inl ⟨rfl, rfl⟩
  · exact .inr hy
theorem upAll_mem : ∀ {ws : List Wr} {L : List Kv} {x : Kv}, x ∈ upAll L ws → (∃ u ∈ ws, x.1 = u.key ∧ x.2 = u.v) ∨ x ∈ L := by
  intro ws
  induction ws with
  | nil => intro L x h; exact .inr h
  | cons u ws ih =>
    intro L x h
    rcases ih (L := upK u.key u.v L) h with ⟨y, hy, h⟩ | h
    · exact .inl ⟨y, List.mem_cons_of_mem _ hy, h⟩
    · rcases up_mem h with h | h
      · exact .inl ⟨u, List.mem_cons_self .., h⟩
      · exact .inr h
theorem scan_zero (f : Nat → Int) : ∀ (n i : Nat), (scan f n i).1 = 0 ↔ ∀ j, i ≤ j → j < i + n → f j = 0 := by
  intro n
  induction n with
  | zero => intro i; simp [scan]; intro j h1 h2; omega
  | succ n ih =>
    intro i
    unfold scan
    by_cases h : f i = 0
    · rw [if_pos h, ih]
      exact ⟨fun h1 j h2 h3 => by by_cases e : j = i; · rw [e]; exact h
                                  · exact h1 j (by omega) (by omega), fun h1 j h2 h3 => h1 j (by omega) (by omega)⟩
    · rw [if_neg h]
      exact ⟨fun h1 => absurd h1 h, fun h1 => h1 i (by omega) (by omega)⟩
theorem apply_zero (h : applyE s ws = 0) (u : Wr) (hu : u ∈ ws) : validK u.key = true ∧ hasK u.key s.L = true ∧ u.v.ok = true := by
  obtain ⟨i, hi⟩ := List.getElem?_of_mem hu
  have hlt := (List.getElem?_eq_some_iff.1 hi).1
  have := (scan_zero (wrE s ws) ws.length 0).1 h i (by omega) (by omega)
  unfold wrE at this
  simp only [List.getD_eq_getElem?_getD, hi, Option.getD_some] at this
  split at this; · cases this
  rename_i h1
  split at this; · cases this
  split at this; · cases this
  rename_i h3
  split at this; · cases this
  rename_i h4
  exact ⟨by simpa using h1, by simpa using h3, by simpa using h4⟩
theorem apply_ok (h : s.Ok) (ws : List Wr) : (applyS s ws).Ok := by
  unfold applyS
  split
  · rename_i he
    refine ⟨h.parts, h.room, asc_keys upAll_keys h.asc, fun x hx => ?_, fun x hx => ?_, fun p hp => ?_⟩
    · rcases upAll_mem hx with ⟨u, hu, e, _⟩ | hx
      · rw [e]; exact (apply_zero he u hu).1
      · exact h.key x hx
    · rcases upAll_mem hx with ⟨u, hu, _, e⟩ | hx
      · rw [e]; exact (apply_zero he u hu).2.2
      · exact h.val x hx
    · show cntP s.parts p (upAll s.L ws) ≤ s.room
      rw [cnt_keys upAll_keys]; exact h.cnt p hp
  · exact h
end
end Go.Proofs.YtphglnenafdkaaaGreatDoor

namespace Go.Proofs.YtphglnenafdkaaaGreatDoor
open Go.RowKit

theorem add_zero (b o j : Nat) : (Addr.mk b o none).add j = ⟨b, o + j, none⟩ := Addr.add_lit b o j

section
variable {P : Program} (w : World)
theorem run_append_nothing (base : Nat) (t ty e : TypeId) (i : TypeInfo) (size : Nat) (ht : P.underlying t = some (.slice e)) (hi : P.info? e = some i) (_hsize : i.size = size)
    (v : Value) (n : Nat) (xs : List Value) (hown : w.ownsRow base e size v n xs) (A : Option Addr) (c : Nat) : (Builtin.append_ #[t, t] ty #[v, .slice A 0 c]).run P w = .ok v w := by
  have hf : ∀ A : Option Addr, (Builtin.firstCells i.size 0 (.slice A 0 c)).run P w = .ok #[] w := by
    intro A; cases A <;> simp [Builtin.firstCells, loadCells, loadCellsFrom]
  rcases hown.2 with ⟨rfl, rfl⟩ | ⟨g, cap, cur, rfl, _, _, hnc, _⟩
  · simp [Builtin.append_, run_underlying ht, sizeOf, typeInfo, hi, Builtin.lenOf, hf]
  · simp [Builtin.append_, run_underlying ht, sizeOf, typeInfo, hi, Builtin.lenOf, hf, hnc, storeCells]

theorem run_append_rd (base : Nat) (t ty e : TypeId) (i : TypeInfo) (z : Value) (size bytes : Nat) (ht : P.underlying t = some (.slice e)) (hi : P.info? e = some i) (hz : i.zero = some z)
    (hsize : i.size = size) (hby : i.bytes = bytes) (hzs : z.cells.size = size) (hsz : 0 < size)
    (v : Value) (n : Nat) (xs : List Value) (hown : w.ownsRow base e size v n xs)
    (S : Nat → Prop) (A : Option Addr) (m c : Nat) (news : List Value) (hr : Rd S w size A m news) (h1 : ∀ u ∈ news, u.oneCell' = true)
    (h63 : n + m ≤ maxLen) (hbytes : (n + m) * bytes ≤ 140737488355328) (hbase : base ≤ w.heap.size) :
    ∃ v' w', (Builtin.append_ #[t, t] ty #[v, .slice A m c]).run P w = .ok v' w' ∧ w'.ownsRow base e size v' (n + m) (xs ++ news) ∧ w.grownBy w' v.ownBlock ∧
      (v'.ownBlock = v.ownBlock ∨ v'.ownBlock = some w.heap.size) := by
  rcases Nat.eq_zero_or_pos m with h0 | h0
  · subst h0
    have hn : news = [] := List.eq_nil_of_length_eq_zero (by simpa using hr.1)
    subst hn
    exact ⟨v, w, run_append_nothing w base t ty e i size ht hi hsize v n xs hown A c, by simpa using hown, World.grownBy.refl w _, .inl rfl⟩
  · obtain ⟨b, o, rfl, _, _, hc⟩ := hr.2 h0
    obtain ⟨v', w', hrun, h2, h3, _, h5⟩ := run_append_own_at (P := P) w base t ty e i z size bytes ht hi hz hsize hby hzs hsz v n xs hown ⟨b, o, none⟩ m c news hr.1 (fun j u hu => by rw [add_zero]; exact hc j u hu) h1 h63 hbytes hbase
    exact ⟨v', w', hrun, h2, h3, h5⟩

theorem wp_append_rd {o : Oper} {a : Act} {K : Act → World → Prop} {Q : Exit → Act → World → Prop} (s x : Operand) (t : TypeId)
    (ho : o.op = .call { callee := .builtin .append, args := #[s, x], argTypes := #[t, t] })
    (base : Nat) (e : TypeId) (i : TypeInfo) (z : Value) (size bytes : Nat) (ht : P.underlying t = some (.slice e)) (hi : P.info? e = some i) (hz : i.zero = some z)
    (hsize : i.size = size) (hby : i.bytes = bytes) (hzs : z.cells.size = size) (hsz : 0 < size)
    (v : Value) (n : Nat) (xs : List Value) (hs : a.eval s = v) (hown : w.ownsRow base e size v n xs)
    (S : Nat → Prop) (A : Option Addr) (m c : Nat) (news : List Value) (hx : a.eval x = .slice A m c) (hr : Rd S w size A m news) (h1 : ∀ u ∈ news, u.oneCell' = true)
    (h63 : n + m ≤ maxLen) (hbytes : (n + m) * bytes ≤ 140737488355328) (hbase : base ≤ w.heap.size)
    (h : ∀ v' w', w'.ownsRow base e size v' (n + m) (xs ++ news) → w.grownBy w' v.ownBlock → (v'.ownBlock = v.ownBlock ∨ v'.ownBlock = some w.heap.size) → K (a.put o.dst v') w') : o.wp P a w K Q := by
  obtain ⟨v', w', hrun, h2, h3, h4⟩ := run_append_rd (P := P) w base t o.type e i z size bytes ht hi hz hsize hby hzs hsz v n xs hown S A m c news hr h1 h63 hbytes hbase
  unfold Oper.wp execOp
  simp only [ho, resolve, invoke, builtin, Sem.run_bind, Sem.run_pure, Result.andThen_ok, List.map_toArray, List.map_cons, List.map_nil, hs, hx, hrun]
  exact h v' w' h2 h3 h4

theorem wpList_append_rd {ops : Array Oper} {rest : List Oper} {o : Oper} {a : Act} {Q : Exit → Act → World → Prop} (hgd : o.guard = none) (s x : Operand) (t : TypeId)
    (ho : o.op = .call { callee := .builtin .append, args := #[s, x], argTypes := #[t, t] })
    (base : Nat) (e : TypeId) (i : TypeInfo) (z : Value) (size bytes : Nat) (ht : P.underlying t = some (.slice e)) (hi : P.info? e = some i) (hz : i.zero = some z)
    (hsize : i.size = size) (hby : i.bytes = bytes) (hzs : z.cells.size = size) (hsz : 0 < size)
    (v : Value) (n : Nat) (xs : List Value) (hs : a.eval s = v) (hown : w.ownsRow base e size v n xs)
    (S : Nat → Prop) (A : Option Addr) (m c : Nat) (news : List Value) (hx : a.eval x = .slice A m c) (hr : Rd S w size A m news) (h1 : ∀ u ∈ news, u.oneCell' = true)
    (h63 : n + m ≤ maxLen) (hbytes : (n + m) * bytes ≤ 140737488355328) (hbase : base ≤ w.heap.size)
    (h : ∀ v' w', w'.ownsRow base e size v' (n + m) (xs ++ news) → w.grownBy w' v.ownBlock → (v'.ownBlock = v.ownBlock ∨ v'.ownBlock = some w.heap.size) → wpList P ops Q rest (a.put o.dst v') w') : wpList P ops Q (o :: rest) a w :=
  wpList_plain hgd fun _ hK => wp_append_rd w s x t ho base e i z size bytes ht hi hz hsize hby hzs hsz v n xs hs hown S A m c news hx hr h1 h63 hbytes hbase fun v' w' h2 h3 h4 => hK _ _ (h v' w' h2 h3 h4)
end

/-- an owned row reads -/
theorem Rd.of_own {w : World} {base : Nat} {e : TypeId} {size n c : Nat} {A : Option Addr} {xs : List Value} (h : w.ownsRow base e size (.slice A n c) n xs) : Rd (fun b => some b = (Value.slice A n c).ownBlock) w size A n xs := by
  refine ⟨h.1, fun hn => ?_⟩
  obtain ⟨g, cap, hv, _, hlt⟩ := h.form hn
  have hA : A = some ⟨g, 0, none⟩ := by injection hv
  subst hA
  exact ⟨g, 0, rfl, rfl, hlt, fun j u hu => by have := h.cells (g := g) rfl j u hu; rwa [add_zero] at this⟩
theorem own_form {w : World} {base : Nat} {e : TypeId} {size n : Nat} {v : Value} {xs : List Value} (h : w.ownsRow base e size v n xs) : ∃ A c, v = .slice A n c ∧ n ≤ c ∧ c ≤ maxLen := by
  rcases h.2 with ⟨rfl, rfl⟩ | ⟨g, cap, cur, rfl, _, _, h1, h2, _⟩
  · exact ⟨_, _, rfl, Nat.le_refl _, by simp [maxLen]⟩
  · exact ⟨_, _, rfl, h1, h2⟩

/-- a clone -/
def Cloned (e size : Nat) (xs : List Value) (n : Nat) (w : World) (v : Value) (w' : World) : Prop :=
  w'.ownsRow w.heap.size e size v n xs ∧ Below w.heap.size w w'

theorem cloned_nil (e size : Nat) (w w' : World) (h : Below w.heap.size w w') : Cloned e size [] 0 w (.slice none 0 0) w' :=
  ⟨World.ownsRow_nil _ _ _ _, h⟩

theorem eql_nil (t e : TypeId) (h : Tryz.prog.underlying t = some (.slice e)) (w : World) (a : Option Addr) (n c : Nat) : (binOp .eql t (.slice a n c) (.slice none 0 0)).run Tryz.prog w = .ok (.bool a.isNone) w := by
  simp only [binOp]
  simp [run_equal_slice_nil w t e a n c h]

end Go.Proofs.YtphglnenafdkaaaGreatDoor

namespace Go.Proofs.YtphglnenafdkaaaGreatDoor
open Go.RowKit
set_option linter.unusedVariables false
set_option linter.unusedSimpArgs false

theorem own_below {w w' : World} {base : Nat} {e : TypeId} {size n : Nat} {v : Value} {xs : List Value} (h : w.ownsRow base e size v n xs) (hb : Below w.heap.size w w') : w'.ownsRow base e size v n xs := by
  refine ⟨h.1, ?_⟩
  rcases h.2 with hn | ⟨g, cap, cur, rfl, hg, hh, rest⟩
  · exact .inl hn
  · exact .inr ⟨g, cap, cur, rfl, hg, (hb.block g (Array.getElem?_eq_some_iff.1 hh).1).trans hh, rest⟩
theorem own_base {w : World} {base base' : Nat} {e : TypeId} {size n : Nat} {v : Value} {xs : List Value} (hb : base' ≤ base) (h : w.ownsRow base e size v n xs) : w.ownsRow base' e size v n xs := by
  refine ⟨h.1, ?_⟩
  rcases h.2 with hn | ⟨g, cap, cur, rfl, hg, rest⟩
  · exact .inl hn
  · exact .inr ⟨g, cap, cur, rfl, by omega, rest⟩
/-- a copy's append: what was there before the new row was laid is as it was -/
theorem below_of_copy {W w1 : World} {o : Obj} (hg : (W.alloc o).grownBy w1 (some W.heap.size)) : Below W.heap.size W w1 :=
  ((Below.refl _ _).alloc (Nat.le_refl _) o).grown hg (by simp) fun k hk => by injection hk with hk; omega
theorem own_empty (W : World) (e : TypeId) (size : Nat) : (W.alloc (.cells #[] e)).ownsRow W.heap.size e size (.slice (some ⟨W.heap.size, 0, none⟩) 0 0) 0 [] := World.ownsRow_made W #[] 0 (Nat.le_refl _) (by simp [maxLen]) (by simp)

theorem own_empty' (W : World) (e : TypeId) (size : Nat) (g : Nat) (hg : g = W.heap.size) : (W.alloc (.cells #[] e)).ownsRow g e size (.slice (some ⟨g, 0, none⟩) 0 0) 0 [] := by
  subst hg; exact own_empty W e size
theorem below_of_copy' {W w1 : World} {o : Obj} {g : Nat} (hg : (W.alloc o).grownBy w1 (Value.slice (some ⟨g, 0, none⟩) 0 0).ownBlock) (hW : g = W.heap.size) : Below W.heap.size W w1 := by
  subst hW; exact below_of_copy hg
/-- 'append(T{}, src...)': a copy in a row of its own -/
theorem wpList_copy_rd {P : Program} (W : World) {ops : Array Oper} {rest : List Oper} {o : Oper} {a : Act} {Q : Exit → Act → World → Prop} (hgd : o.guard = none) (s x : Operand) (t : TypeId)
    (ho : o.op = .call { callee := .builtin .append, args := #[s, x], argTypes := #[t, t] })
    (e : TypeId) (i : TypeInfo) (z : Value) (size bytes : Nat) (ht : P.underlying t = some (.slice e)) (hi : P.info? e = some i) (hz : i.zero = some z)
    (hsize : i.size = size) (hby : i.bytes = bytes) (hzs : z.cells.size = size) (hsz : 0 < size)
    (g : Nat) (hs : a.eval s = .slice (some ⟨g, 0, none⟩) 0 0) (hg : g = W.heap.size)
    (S : Nat → Prop) (A : Option Addr) (m c : Nat) (news : List Value) (hx : a.eval x = .slice A m c) (hr : Rd S W size A m news) (h1 : ∀ u ∈ news, u.oneCell' = true)
    (h63 : m ≤ maxLen) (hbytes : m * bytes ≤ 140737488355328)
    (h : ∀ A' c' w', w'.ownsRow W.heap.size e size (.slice A' m c') m news → Below W.heap.size W w' → wpList P ops Q rest (a.put o.dst (.slice A' m c')) w') : wpList P ops Q (o :: rest) a (W.alloc (.cells #[] e)) := by
  subst hg
  refine wpList_append_rd _ hgd s x t ho W.heap.size e i z size bytes ht hi hz hsize hby hzs hsz (.slice (some ⟨W.heap.size, 0, none⟩) 0 0) 0 [] hs (own_empty W e size) S A m c news hx (hr.alloc _) h1 (by omega) (by simpa using hbytes) (by simp) ?_
  intro v' w' h2 h3 _
  simp only [Nat.zero_add, List.nil_append] at h2
  obtain ⟨A', c', rfl, _, _⟩ := own_form h2
  exact h A' c' w' h2 (below_of_copy h3)

theorem Rd.of_own' {w : World} {base : Nat} {e : TypeId} {size n c : Nat} {A : Option Addr} {xs : List Value} (h : w.ownsRow base e size (.slice A n c) n xs) : Rd (fun b => base ≤ b) w size A n xs :=
  (Rd.of_own h).more fun b hb _ => (h.lt b hb.symm).1
theorem Rd.setCell {S : Nat → Prop} {w : World} {size n : Nat} {A : Option Addr} {xs : List Value} (h : Rd S w size A n xs) {p : Addr} (hp : ¬ S p.block) (u : Value) : Rd S (w.setCell p u) size A n xs :=
  h.keep fun b hb _ => Below.heap_setCell w p u b (by rintro rfl; exact hp hb)
theorem Rd.new (w : World) (e : TypeId) (size n : Nat) (cs : Array Value) (g : Nat) (hg : g = w.heap.size) (hn : cs.size = n * size) : Rd (fun b => b = g) (w.alloc (.cells cs e)) size (some ⟨g, 0, none⟩) n cs.toList := by
  subst hg
  refine ⟨by simpa using hn, fun _ => ⟨_, 0, rfl, rfl, by simp, fun j u hu => ?_⟩⟩
  rw [Nat.zero_add, (Blk.new w e cs).cell j]
  simpa using hu

theorem own_type_ne {w : World} {base base' : Nat} {e e' : TypeId} {size size' n n' : Nat} {v v' : Value} {xs xs' : List Value} (h : w.ownsRow base e size v n xs) (h' : w.ownsRow base' e' size' v' n' xs') (hne : e ≠ e') : v.ownBlock = none ∨ v.ownBlock ≠ v'.ownBlock := by
  rcases h.2 with ⟨rfl, _⟩ | ⟨g, cap, cur, rfl, _, hh, _⟩
  · left; rfl
  · right
    rcases h'.2 with ⟨rfl, _⟩ | ⟨g', cap', cur', rfl, _, hh', _⟩
    · simp [Value.ownBlock]
    · simp only [Value.ownBlock, ne_eq, Option.some.injEq]
      rintro rfl
      rw [hh] at hh'
      injection hh' with hh'
      injection hh' with _ ht
      exact hne ht
def OwnS (S : Nat → Prop) (w : World) (e : TypeId) (size : Nat) (v : Value) (n : Nat) (xs : List Value) : Prop := w.ownsRow 0 e size v n xs ∧ ∀ b, v.ownBlock = some b → S b
section
variable {S S' : Nat → Prop} {w w' : World} {e : TypeId} {size n : Nat} {v : Value} {xs : List Value}
theorem OwnS.keep (h : OwnS S w e size v n xs) (hk : ∀ b, S b → b < w.heap.size → w'.heap[b]? = w.heap[b]?) : OwnS S w' e size v n xs := by
  refine ⟨⟨h.1.1, ?_⟩, h.2⟩
  rcases h.1.2 with hn | ⟨g, cap, cur, rfl, hg, hh, rest⟩
  · exact .inl hn
  · exact .inr ⟨g, cap, cur, rfl, hg, (hk g (h.2 g rfl) (Array.getElem?_eq_some_iff.1 hh).1).trans hh, rest⟩
theorem OwnS.of_own {base : Nat} (h : w.ownsRow base e size v n xs) : OwnS (fun b => base ≤ b ∧ b < w.heap.size) w e size v n xs := ⟨own_base (Nat.zero_le _) h, fun b hb => h.lt b hb⟩
theorem OwnS.more (h : OwnS S w e size v n xs) (hS : ∀ b, S b → b < w.heap.size → S' b) : OwnS S' w e size v n xs := ⟨h.1, fun b hb => hS b (h.2 b hb) (h.1.lt b hb).2⟩
theorem OwnS.rd {A : Option Addr} {c : Nat} (h : OwnS S w e size (.slice A n c) n xs) : Rd S w size A n xs := (Rd.of_own h.1).more fun b hb _ => h.2 b hb.symm
end
theorem Upd.of_below' {w w' : World} (h : Below w.heap.size w w') (M : Nat → Prop) : Upd M w w' := Upd.of_below h fun k hk hB => absurd hk (by omega)
theorem below_two {w : World} (o o' : Obj) : Below w.heap.size w ((w.alloc o).alloc o') := ((Below.refl _ _).alloc (Nat.le_refl _) o).alloc (by simp) o'

theorem OwnS.keepT {S : Nat → Prop} {w w' : World} {e : TypeId} {size n : Nat} {v : Value} {xs : List Value} (h : OwnS S w e size v n xs) (hk : ∀ b cs, Blk w b e cs → w'.heap[b]? = w.heap[b]?) : OwnS S w' e size v n xs := by
  refine ⟨⟨h.1.1, ?_⟩, h.2⟩
  rcases h.1.2 with hn | ⟨g, cap, cur, rfl, hg, hh, rest⟩
  · exact .inl hn
  · exact .inr ⟨g, cap, cur, rfl, hg, (hk g cur hh).trans hh, rest⟩
theorem own_formS {w : World} {base : Nat} {e : TypeId} {size n : Nat} {A : Option Addr} {c : Nat} {xs : List Value} (h : w.ownsRow base e size (.slice A n c) n xs) (hn : 0 < n) : ∃ g cur, A = some ⟨g, 0, none⟩ ∧ Blk w g e cur := by
  rcases h.2 with ⟨h0, h1⟩ | ⟨g, cap, cur, hv, _, hb, _⟩
  · omega
  · simp only [Value.slice.injEq] at hv
    exact ⟨g, cur, hv.1, hb⟩

theorem own_upd {M : Nat → Prop} {w w' : World} {e : TypeId} {size n c : Nat} {gr : Nat} {xs : List Value} (h : w.ownsRow 0 e size (.slice (some ⟨gr, 0, none⟩) n c) n xs) (hu : Upd M w w') (hM : ¬ M gr) : w'.ownsRow 0 e size (.slice (some ⟨gr, 0, none⟩) n c) n xs := by
  refine ⟨h.1, ?_⟩
  rcases h.2 with ⟨h0, _⟩ | ⟨g, cap, cur, hv, hg, hh, rest⟩
  · cases h0
  · simp only [Value.slice.injEq, Option.some.injEq, Addr.mk.injEq, true_and, and_true] at hv
    obtain ⟨rfl, rfl⟩ := hv
    have hl : gr < w.heap.size := (Array.getElem?_eq_some_iff.1 hh).1
    exact .inr ⟨gr, c, cur, rfl, hg, (hu.block gr hl hM).trans hh, rest⟩
theorem own_updB {M : Nat → Prop} {w w' : World} {base : Nat} {e : TypeId} {size n : Nat} {v : Value} {xs : List Value} (h : w.ownsRow base e size v n xs) (hu : Upd M w w') (hM : ∀ k, base ≤ k → k < w.heap.size → ¬ M k) : w'.ownsRow base e size v n xs := by
  refine ⟨h.1, ?_⟩
  rcases h.2 with hn | ⟨g, cap, cur, rfl, hg, hh, rest⟩
  · exact .inl hn
  · have hl : g < w.heap.size := (Array.getElem?_eq_some_iff.1 hh).1
    exact .inr ⟨g, cap, cur, rfl, hg, (hu.block g hl (hM g hg hl)).trans hh, rest⟩
theorem int_eq (a b : Int) (w : World) : (Op.equal 3 (.int .i64 a) (.int .i64 b)).run Tryz.prog w = .ok (decide (a = b)) w := by
  have ht : Tryz.prog.underlying 3 = some (.int .i64) := Tryz.underlying3
  unfold Op.equal Op.maxDepth
  go_simp
  first | done | (by_cases h : a = b <;> simp [h])
theorem int_check (em : Bool) (a : Int) (w : World) : (Instr.checkKey em 10000 3 (.int .i64 a)).run Tryz.prog w = .ok () w := by
  kernel_rfl
def intE : KeyEnc Tryz.prog 3 Int where
  enc := .int .i64
  desc := _
  under := Tryz.underlying3
  eq := int_eq
  check := int_check
  now := fun a b => .inr (by by_cases h : a = b <;> simp [Instr.sameNow, h])
  bits := fun a => by
    rw [show (10000 : Nat) = 9998 + 1 + 1 from rfl]
    simp [Instr.sameBits]

/-- the value at a key -/
def getA {κ α : Type} [DecidableEq κ] (k : κ) : List (κ × α) → Option α
  | [] => none
  | p :: l => if k = p.1 then some p.2 else getA k l
def setA {κ α : Type} [DecidableEq κ] (k : κ) (v : α) : List (κ × α) → List (κ × α)
  | [] => [(k, v)]
  | p :: l => if k = p.1 then (k, v) :: l else p :: setA k v l
def delA {κ α : Type} [DecidableEq κ] (k : κ) : List (κ × α) → List (κ × α)
  | [] => []
  | p :: l => if k = p.1 then l else p :: delA k l
theorem look_map {κ α : Type} [DecidableEq κ] (f : α → Value) (k : κ) : ∀ (l : List (κ × α)) (i : Nat), (look k (l.map fun p => (p.1, f p.2)) i).map (·.2) = (getA k l).map f := by
  intro l
  induction l with
  | nil => intro i; rfl
  | cons p l ih =>
    intro i
    by_cases h : k = p.1
    · simp [look, getA, h]
    · simp [look, getA, h, ih]
theorem getK_map {κ α : Type} [DecidableEq κ] (f : α → Value) (k : κ) (l : List (κ × α)) : getK k (l.map fun p => (p.1, f p.2)) = (getA k l).map f := look_map f k l 0
theorem setK_map {κ α : Type} [DecidableEq κ] (f : α → Value) (k : κ) (v : α) (l : List (κ × α)) : setK k (f v) (l.map fun p => (p.1, f p.2)) = (setA k v l).map fun p => (p.1, f p.2) := by
  induction l with
  | nil => rfl
  | cons p l ih =>
    by_cases h : k = p.1
    · simp [setK, setA, h]
    · simp [setK, setA, h, ih]
theorem delK_map {κ α : Type} [DecidableEq κ] (f : α → Value) (k : κ) (l : List (κ × α)) : delK k (l.map fun p => (p.1, f p.2)) = (delA k l).map fun p => (p.1, f p.2) := by
  induction l with
  | nil => rfl
  | cons p l ih =>
    by_cases h : k = p.1
    · simp [delK, delA, h]
    · simp [delK, delA, h, ih]
section
variable {κ α : Type} [DecidableEq κ]
theorem getA_mem {k : κ} {l : List (κ × α)} {v : α} (h : getA k l = some v) : (k, v) ∈ l := by
  induction l with
  | nil => cases h
  | cons p l ih =>
    by_cases e : k = p.1
    · simp only [getA, e, if_true, Option.some.injEq] at h
      subst h; subst e; exact List.mem_cons_self
    · simp only [getA, e, if_false] at h
      exact List.mem_cons_of_mem _ (ih h)
theorem getA_set (k j : κ) (v : α) (l : List (κ × α)) : getA j (setA k v l) = if j = k then some v else getA j l := by
  induction l with
  | nil => by_cases h : j = k <;> simp [setA, getA, h]
  | cons p l ih =>
    by_cases h : k = p.1
    · by_cases e : j = k
      · subst e; simp [setA, getA, h]
      · have : ¬ j = p.1 := fun x => e (x.trans h.symm)
        simp [setA, getA, h, e, this]
    · by_cases e : j = p.1
      · have : ¬ j = k := fun x => h (x.symm.trans e)
        simp [setA, getA, h, e]
        intro x; exact absurd x.symm h
      · simp [setA, getA, h, e, ih]
theorem setA_mem {k : κ} {v : α} {l : List (κ × α)} {p : κ × α} (h : p ∈ setA k v l) : p = (k, v) ∨ p ∈ l := by
  induction l with
  | nil => exact .inl (by simpa [setA] using h)
  | cons q l ih =>
    by_cases e : k = q.1
    · simp only [setA, e, if_true] at h
      rcases List.mem_cons.1 h with h | h
      · exact .inl (by rw [h, e])
      · exact .inr (List.mem_cons_of_mem _ h)
    · simp only [setA, e, if_false] at h
      rcases List.mem_cons.1 h with h | h
      · exact .inr (h ▸ List.mem_cons_self)
      · rcases ih h with h | h
        · exact .inl h
        · exact .inr (List.mem_cons_of_mem _ h)
/-- keys stand once -/
def Once (l : List (κ × α)) : Prop := (l.map (·.1)).Nodup
theorem Once.set {k : κ} {v : α} {l : List (κ × α)} (h : Once l) : Once (setA k v l) := by
  unfold Once at *
  induction l with
  | nil => simp [setA]
  | cons p l ih =>
    simp only [List.map_cons, List.nodup_cons] at h
    by_cases e : k = p.1
    · simp only [setA, e, if_true, List.map_cons, List.nodup_cons]; exact h
    · simp only [setA, e, if_false, List.map_cons, List.nodup_cons]
      refine ⟨fun hm => ?_, ih h.2⟩
      obtain ⟨q, hq, he⟩ := List.mem_map.1 hm
      rcases setA_mem hq with rfl | hq
      · exact e he
      · exact h.1 (List.mem_map.2 ⟨q, hq, he⟩)
theorem Once.del {k : κ} {l : List (κ × α)} (h : Once l) : Once (delA k l) ∧ ∀ j, getA j (delA k l) = if j = k then none else getA j l := by
  unfold Once at *
  induction l with
  | nil => exact ⟨h, fun j => by simp [delA, getA]⟩
  | cons p l ih =>
    simp only [List.map_cons, List.nodup_cons] at h
    have hn : ∀ (l : List (κ × α)), p.1 ∉ l.map (·.1) → getA p.1 l = none := by
      intro l hl
      cases hg : getA p.1 l with
      | none => rfl
      | some v => exact absurd (List.mem_map.2 ⟨_, getA_mem hg, rfl⟩) hl
    by_cases e : k = p.1
    · subst e
      simp only [delA, if_true]
      refine ⟨h.2, fun j => ?_⟩
      by_cases hj : j = p.1
      · subst hj; simp [hn l h.1]
      · simp [getA, hj]
    · obtain ⟨i1, i2⟩ := ih h.2
      have hsub : ∀ q, q ∈ delA k l → q ∈ l := by
        intro q
        clear ih h hn i1 i2
        induction l with
        | nil => intro h; cases h
        | cons r l ih =>
          intro hq
          by_cases e : k = r.1
          · simp only [delA, e, if_true] at hq; exact List.mem_cons_of_mem _ hq
          · simp only [delA, e, if_false] at hq
            rcases List.mem_cons.1 hq with h | h
            · exact h ▸ List.mem_cons_self
            · exact List.mem_cons_of_mem _ (ih h)
      simp only [delA, e, if_false, List.map_cons, List.nodup_cons]
      refine ⟨⟨fun hm => ?_, i1⟩, fun j => ?_⟩
      · obtain ⟨q, hq, he⟩ := List.mem_map.1 hm
        exact h.1 (List.mem_map.2 ⟨q, hsub q hq, he⟩)
      · by_cases hj : j = p.1
        · subst hj
          have : ¬ p.1 = k := fun x => e x.symm
          simp [getA, this]
        · simp [getA, hj, i2]
end

theorem zero_int (w : World) : (zeroValue 3).run Tryz.prog w = .ok (.int .i64 0) w := by kernel_rfl
section
variable {κ α : Type} [DecidableEq κ]
theorem setA_mem' {k : κ} {v : α} {l : List (κ × α)} (ho : Once l) {p : κ × α} (h : p ∈ setA k v l) : p = (k, v) ∨ p ∈ l ∧ p.1 ≠ k := by
  unfold Once at ho
  induction l with
  | nil => exact .inl (by simpa [setA] using h)
  | cons q l ih =>
    simp only [List.map_cons, List.nodup_cons] at ho
    by_cases e : k = q.1
    · simp only [setA, e, if_true] at h
      rcases List.mem_cons.1 h with h | h
      · exact .inl (by rw [h, e])
      · exact .inr ⟨List.mem_cons_of_mem _ h, fun he => ho.1 (List.mem_map.2 ⟨p, h, he.trans e⟩)⟩
    · simp only [setA, e, if_false] at h
      rcases List.mem_cons.1 h with h | h
      · exact .inr ⟨h ▸ List.mem_cons_self, fun he => e (h ▸ he.symm)⟩
      · rcases ih ho.2 h with h | h
        · exact .inl h
        · exact .inr ⟨List.mem_cons_of_mem _ h.1, h.2⟩
theorem setA_pairwise {k : κ} {v : α} {R : κ × α → κ × α → Prop} : ∀ {l : List (κ × α)}, Once l → l.Pairwise R → (∀ p ∈ l, p.1 ≠ k → R (k, v) p ∧ R p (k, v)) → (setA k v l).Pairwise R := by
  intro l
  induction l with
  | nil => intro _ _ _; simp [setA]
  | cons q l ih =>
    intro ho hp hR
    have ho' := ho
    unfold Once at ho
    simp only [List.map_cons, List.nodup_cons] at ho
    obtain ⟨hp1, hp2⟩ := List.pairwise_cons.1 hp
    by_cases e : k = q.1
    · simp only [setA, e, if_true]
      refine List.pairwise_cons.2 ⟨fun p hpl => ?_, hp2⟩
      exact e ▸ (hR p (List.mem_cons_of_mem _ hpl) fun he => ho.1 (List.mem_map.2 ⟨p, hpl, he.trans e⟩)).1
    · simp only [setA, e, if_false]
      refine List.pairwise_cons.2 ⟨fun p hpl => ?_, ih ho.2 hp2 fun p hpl hne => hR p (List.mem_cons_of_mem _ hpl) hne⟩
      rcases setA_mem hpl with rfl | h
      · exact (hR q List.mem_cons_self fun he => e he.symm).2
      · exact hp1 p h
end
theorem OwnS.more' {S S' : Nat → Prop} {w : World} {e : TypeId} {size n : Nat} {v : Value} {xs : List Value} (h : OwnS S w e size v n xs) (hS : ∀ b, S b → S' b) : OwnS S' w e size v n xs := ⟨h.1, fun b hb => hS b (h.2 b hb)⟩
section
theorem step_append_of {P : Program} {ops : Array Oper} {o : Oper} {a : Act} {w : World} {K : Act → World → Prop} {Q : Exit → Act → World → Prop} {E : Prop} (hgd : o.guard = none) (s x : Operand) (t : TypeId)
    (ho : o.op = .call { callee := .builtin .append, args := #[s, x], argTypes := #[t, t] })
    (v1 v2 : Value) (hs : a.eval s = v1) (hx : a.eval x = v2) (v' : Value) (w' : World) {ty0 : TypeId} (hrun0 : (Builtin.append_ #[t, t] ty0 #[v1, v2]).run P w = .ok v' w')
    (h : K (a.put o.dst v') w') : if Region.wanted o (yielded ops a.tmps) = true then Oper.wp P o a w K Q else E := by
  have hw : Region.wanted o (yielded ops a.tmps) = true := by simp [Region.wanted, hgd]
  have hrun : (Builtin.append_ #[t, t] o.type #[v1, v2]).run P w = .ok v' w' := hrun0
  rw [if_pos hw]
  unfold Oper.wp execOp
  simp only [ho, resolve, invoke, builtin, Sem.run_bind, Sem.run_pure, Result.andThen_ok, List.map_toArray, List.map_cons, List.map_nil, hs, hx, hrun]
  exact h
end
section
variable {P : Program} (w : World)
theorem step_append_rd {ops : Array Oper} {o : Oper} {a : Act} {K : Act → World → Prop} {Q : Exit → Act → World → Prop} {E : Prop} (hgd : o.guard = none) (s x : Operand) (t : TypeId)
    (ho : o.op = .call { callee := .builtin .append, args := #[s, x], argTypes := #[t, t] })
    (base : Nat) (e : TypeId) (i : TypeInfo) (z : Value) (size bytes : Nat) (ht : P.underlying t = some (.slice e)) (hi : P.info? e = some i) (hz : i.zero = some z)
    (hsize : i.size = size) (hby : i.bytes = bytes) (hzs : z.cells.size = size) (hsz : 0 < size)
    (v : Value) (n : Nat) (xs : List Value) (hs : a.eval s = v) (hown : w.ownsRow base e size v n xs)
    (S : Nat → Prop) (A : Option Addr) (m c : Nat) (news : List Value) (hx : a.eval x = .slice A m c) (hr : Rd S w size A m news) (h1 : ∀ u ∈ news, u.oneCell' = true)
    (h63 : n + m ≤ maxLen) (hbytes : (n + m) * bytes ≤ 140737488355328) (hbase : base ≤ w.heap.size) (N : Nat) (hN : n + m = N) (ys : List Value) (hys : xs ++ news = ys)
    (h : ∀ A' c' w', w'.ownsRow base e size (.slice A' N c') N ys → w.grownBy w' v.ownBlock → ((Value.slice A' N c').ownBlock = v.ownBlock ∨ (Value.slice A' N c').ownBlock = some w.heap.size) → K (a.put o.dst (.slice A' N c')) w') :
    if Region.wanted o (yielded ops a.tmps) = true then Oper.wp P o a w K Q else E := by
  have hw : Region.wanted o (yielded ops a.tmps) = true := by simp [Region.wanted, hgd]
  rw [if_pos hw]
  exact wp_append_rd w s x t ho base e i z size bytes ht hi hz hsize hby hzs hsz v n xs hs hown S A m c news hx hr h1 h63 hbytes hbase (fun v' w' h2 h3 h4 => by
    subst hN; subst hys
    obtain ⟨A', c', rfl, _, _⟩ := own_form h2
    exact h A' c' w' h2 h3 h4)
end


theorem wpList_append_of {P : Program} {ops : Array Oper} {rest : List Oper} {o : Oper} {a : Act} {w : World} {Q : Exit → Act → World → Prop} (hgd : o.guard = none) (s x : Operand) (t : TypeId)
    (ho : o.op = .call { callee := .builtin .append, args := #[s, x], argTypes := #[t, t] })
    (v1 v2 : Value) (hs : a.eval s = v1) (hx : a.eval x = v2) (v' : Value) (w' : World) (hrun : (Builtin.append_ #[t, t] o.type #[v1, v2]).run P w = .ok v' w')
    (h : wpList P ops Q rest (a.put o.dst v') w') : wpList P ops Q (o :: rest) a w :=
  wpList_plain hgd fun K hK => by
    unfold Oper.wp execOp
    simp only [ho, resolve, invoke, builtin, Sem.run_bind, Sem.run_pure, Result.andThen_ok, List.map_toArray, List.map_cons, List.map_nil, hs, hx, hrun]
    exact hK _ _ h


end Go.Proofs.YtphglnenafdkaaaGreatDoor

namespace Go.Proofs.YtphglnenafdkaaaGreatDoor
open Go.RowKit
set_option linter.unusedVariables false
set_option linter.unusedSimpArgs false

theorem ba_beq (a b : ByteArray) : (a == b) = decide (a = b) := by
  by_cases h : a = b
  · rw [decide_eq_true h]; exact (MapKept.bytes_beq a b).2 h
  · rw [decide_eq_false h]
    cases e : a == b with
    | false => rfl
    | true => exact absurd ((MapKept.bytes_beq a b).1 e) h
theorem str_eq (a b : ByteArray) (w : World) : (Op.equal 9 (.string a) (.string b)).run Tryz.prog w = .ok (decide (a = b)) w := by
  have ht : Tryz.prog.underlying 9 = some .string := Tryz.underlying9
  have e : (a.toList == b.toList) = decide (a = b) := by
    by_cases h : a = b
    · subst h; simp
    · have : ¬ a.toList = b.toList := fun e => h (ba_inj e)
      simp [h, this]
  unfold Op.equal Op.maxDepth
  go_simp
  try rw [e]
theorem str_check (em : Bool) (a : ByteArray) (w : World) : (Instr.checkKey em 10000 9 (.string a)).run Tryz.prog w = .ok () w := by
  kernel_rfl
def strE : KeyEnc Tryz.prog 9 ByteArray where
  enc := .string
  desc := _
  under := Tryz.underlying9
  eq := str_eq
  check := str_check
  now := fun a b => .inr (by
    unfold Instr.sameNow
    simp only [ba_beq])
  bits := fun a => by
    rw [show (10000 : Nat) = 9998 + 1 + 1 from rfl]
    simp [Instr.sameBits, ba_beq]
/-- what a claims map has -/
def Dc (L : List Kv) (n p : Nat) (k : ByteArray) : Option Value := if hasK k L = true ∧ partK n k = p then some (.int .i64 1) else none
/-- what the values map has -/
def Dv (L : List Kv) (k : ByteArray) : Option Value := if (valK k L).k = 0 then none else some (.agg #[.int .i64 (valK k L).k, .int .i64 (valK k L).n, .string (valK k L).s])
/-- the program's store lies at block g: its partitions' maps, its values' map -/
structure PIn (S : Nat → Prop) (w : World) (g : Nat) (s : St) (cb cc : Nat) (mb : Nat → Nat) (vb : Nat) : Prop where
  blk : Blk w g 76 #[.int .i64 s.room, .slice (some ⟨cb, 0, none⟩) s.parts cc, .map (some vb)]
  row : ∃ cs, Blk w cb 78 cs ∧ ∀ p, p < s.parts → cs[p]? = some (.map (some (mb p)))
  cl : ∀ p, p < s.parts → MapF strE w (mb p) (Dc s.L s.parts p)
  inj : ∀ p q, p < s.parts → q < s.parts → mb p = mb q → p = q
  vals : MapF strE w vb (Dv s.L)
  vne : ∀ p, p < s.parts → mb p ≠ vb
  inS : S g ∧ S cb ∧ S vb ∧ ∀ p, p < s.parts → S (mb p)
  lt : ∀ j, S j → j < w.heap.size
  ok : s.Ok
def PAt (S : Nat → Prop) (w : World) (g : Nat) (s : St) : Prop := ∃ cb cc mb vb, PIn S w g s cb cc mb vb
section
variable {S : Nat → Prop} {w w' : World} {g cb cc vb : Nat} {mb : Nat → Nat} {s : St}
theorem PIn.keep (h : PIn S w g s cb cc mb vb) (hk : ∀ b, S b → w'.heap[b]? = w.heap[b]?) (hs : w.heap.size ≤ w'.heap.size) : PIn S w' g s cb cc mb vb := by
  obtain ⟨cs, h1, h2⟩ := h.row
  exact ⟨(hk _ h.inS.1).trans h.blk, ⟨cs, (hk _ h.inS.2.1).trans h1, h2⟩, fun p hp => (h.cl p hp).keep (hk _ (h.inS.2.2.2 p hp)), h.inj, h.vals.keep (hk _ h.inS.2.2.1), h.vne, h.inS, fun j hj => Nat.lt_of_lt_of_le (h.lt j hj) hs, h.ok⟩
theorem PIn.below (h : PIn S w g s cb cc mb vb) (hb : Below w.heap.size w w') : PIn S w' g s cb cc mb vb := h.keep (fun b hb' => hb.block b (h.lt b hb')) hb.size
theorem PIn.upd {M : Nat → Prop} (h : PIn S w g s cb cc mb vb) (hu : Upd M w w') (hM : ∀ b, S b → ¬ M b) : PIn S w' g s cb cc mb vb := h.keep (fun b hb => hu.block b (h.lt b hb) (hM b hb)) hu.size
theorem PAt.below (h : PAt S w g s) (hb : Below w.heap.size w w') : PAt S w' g s := by obtain ⟨_, _, _, _, h⟩ := h; exact ⟨_, _, _, _, h.below hb⟩
theorem PAt.upd {M : Nat → Prop} (h : PAt S w g s) (hu : Upd M w w') (hM : ∀ b, S b → ¬ M b) : PAt S w' g s := by obtain ⟨_, _, _, _, h⟩ := h; exact ⟨_, _, _, _, h.upd hu hM⟩
theorem PAt.lt (h : PAt S w g s) : ∀ j, S j → j < w.heap.size := by obtain ⟨_, _, _, _, h⟩ := h; exact h.lt
theorem PAt.ok (h : PAt S w g s) : s.Ok := by obtain ⟨_, _, _, _, h⟩ := h; exact h.ok
theorem PAt.inS (h : PAt S w g s) : S g := by obtain ⟨_, _, _, _, h⟩ := h; exact h.inS.1
theorem PIn.cells (h : PIn S w g s cb cc mb vb) : w.cell? ⟨g, 0, none⟩ = some (.int .i64 s.room) ∧ w.cell? ⟨g, 1, none⟩ = some (.slice (some ⟨cb, 0, none⟩) s.parts cc) ∧ w.cell? ⟨g, 2, none⟩ = some (.map (some vb)) := ⟨h.blk.cell 0, h.blk.cell 1, h.blk.cell 2⟩
theorem PIn.rowc (h : PIn S w g s cb cc mb vb) (p : Nat) (hp : p < s.parts) : w.cell? ⟨cb, p, none⟩ = some (.map (some (mb p))) := by
  obtain ⟨cs, h1, h2⟩ := h.row
  exact (h1.cell p).trans (h2 p hp)
theorem PIn.get (h : PIn S w g s cb cc mb vb) (k : ByteArray) : (Instr.lookup 74 (.map (some vb)) (.string k) false).run Tryz.prog w = .ok (.agg #[.int .i64 (valK k s.L).k, .int .i64 (valK k s.L).n, .string (valK k s.L).s]) w := by
  have hz : ∀ w, (zeroValue 38).run Tryz.prog w = .ok (.agg #[.int .i64 0, .int .i64 0, .string ⟨#[]⟩]) w := fun w => by kernel_rfl
  have hl := h.vals.lookup Tryz.underlying74 hz k
  have e : (Dv s.L k).getD (.agg #[.int .i64 0, .int .i64 0, .string ⟨#[]⟩]) = .agg #[.int .i64 (valK k s.L).k, .int .i64 (valK k s.L).n, .string (valK k s.L).s] := by
    unfold Dv
    by_cases h0 : (valK k s.L).k = 0
    · rw [if_pos h0]
      have hv : valK k s.L = vl0 := by
        cases hh : hasK k s.L with
        | false => exact valK_none hh
        | true =>
          obtain ⟨x, hx, hk⟩ := hasK_mem.1 hh
          have h1 := valK_mem h.ok.asc hx
          rw [hk] at h1
          have h2 := h.ok.val x hx
          rw [← h1] at h2
          unfold Vl.ok at h2
          rw [if_pos h0] at h2
          simp at h2
          have e : valK k s.L = ⟨(valK k s.L).k, (valK k s.L).n, (valK k s.L).s⟩ := rfl
          rw [e, h0, h2.1, h2.2]; rfl
      rw [hv]; rfl
    · rw [if_neg h0]; rfl
  rw [e] at hl
  exact hl
theorem PIn.claimed (h : PIn S w g s cb cc mb vb) (k : ByteArray) {p : Nat} (hp : partK s.parts k = p) : (Instr.lookup 78 (.map (some (mb p))) (.string k) false).run Tryz.prog w = .ok (.int .i64 (if hasK k s.L = true then 1 else 0)) w := by
  have hpl : p < s.parts := by rw [← hp]; exact partK_lt k (by have := h.ok.parts; omega)
  have hl := (h.cl p hpl).lookup Tryz.underlying78 zero_int k
  have e : (Dc s.L s.parts p k).getD (.int .i64 0) = .int .i64 (if hasK k s.L = true then 1 else 0) := by
    unfold Dc
    cases hasK k s.L <;> simp [hp]
  rw [e] at hl
  exact hl
/-- how many a partition's map has -/
theorem PIn.size (h : PIn S w g s cb cc mb vb) (p : Nat) (hp : p < s.parts) (ty : TypeId) : (Builtin.len_ #[78] ty #[.map (some (mb p))]).run Tryz.prog w = .ok (.int .i64 (cntP s.parts p s.L)) w := by
  have e := (h.cl p hp).len Tryz.underlying78 ty ((s.L.filter fun x => decide (partK s.parts x.1 = p)).map (·.1)) ((List.filter_sublist.map _).nodup (asc_nodup h.ok.asc)) fun k => by
    unfold Dc
    constructor
    · intro hk
      obtain ⟨x, hx, rfl⟩ := List.mem_map.1 hk
      have := List.mem_filter.1 hx
      rw [if_pos ⟨hasK_mem.2 ⟨x, this.1, rfl⟩, by simpa using this.2⟩]; rfl
    · intro hk
      by_cases hc : hasK k s.L = true ∧ partK s.parts k = p
      · obtain ⟨x, hx, rfl⟩ := hasK_mem.1 hc.1
        exact List.mem_map.2 ⟨x, List.mem_filter.2 ⟨hx, by simp [hc.2]⟩, rfl⟩
      · rw [if_neg hc] at hk; cases hk
  rw [e, List.length_map]
  unfold cntP
  rw [List.countP_eq_length_filter]
end
/-! the document's store -/
def kvCells (L : List Kv) : List Value := L.flatMap fun x => [.string x.1, .int .i64 x.2.k, .int .i64 x.2.n, .string x.2.s]
structure RIn (S : Nat → Prop) (w : World) (r : Nat) (s : St) (A : Option Addr) (c : Nat) : Prop where
  blk : Blk w r 94 #[.int .i64 s.parts, .int .i64 s.room, .slice A s.L.length c]
  rd : Rd (fun b => S b ∧ b ≠ r) w 4 A s.L.length (kvCells s.L)
  frm : (A = none ∧ s.L.length = 0 ∧ c = 0) ∨ ((∃ b o, A = some ⟨b, o, none⟩) ∧ s.L.length ≤ c ∧ c ≤ maxLen)
  inS : S r
  lt : ∀ j, S j → j < w.heap.size
  ok : s.Ok
def RAt (S : Nat → Prop) (w : World) (r : Nat) (s : St) : Prop := ∃ A c, RIn S w r s A c -- 94
/-- what a method of the document's store leaves -/
def RGo (S : Nat → Prop) (w : World) (r : Nat) (s : St) (w' : World) : Prop := ∃ S', RAt S' w' r s ∧ (∀ j, S' j → S j ∨ w.heap.size ≤ j) ∧ Upd S w w' -- 94
section
variable {S : Nat → Prop} {w w' : World} {r c : Nat} {A : Option Addr} {s : St}
theorem RIn.keep (h : RIn S w r s A c) (hk : ∀ b, S b → w'.heap[b]? = w.heap[b]?) (hs : w.heap.size ≤ w'.heap.size) : RIn S w' r s A c := -- 94
  ⟨(hk _ h.inS).trans h.blk, h.rd.keep fun b hb _ => hk b hb.1, h.frm, h.inS, fun j hj => Nat.lt_of_lt_of_le (h.lt j hj) hs, h.ok⟩
theorem RIn.below (h : RIn S w r s A c) (hb : Below w.heap.size w w') : RIn S w' r s A c := h.keep (fun b hb' => hb.block b (h.lt b hb')) hb.size -- 94
theorem RIn.upd {M : Nat → Prop} (h : RIn S w r s A c) (hu : Upd M w w') (hM : ∀ b, S b → ¬ M b) : RIn S w' r s A c := h.keep (fun b hb => hu.block b (h.lt b hb) (hM b hb)) hu.size -- 94
theorem RAt.below (h : RAt S w r s) (hb : Below w.heap.size w w') : RAt S w' r s := by obtain ⟨_, _, h⟩ := h; exact ⟨_, _, h.below hb⟩ -- 94
theorem RAt.upd {M : Nat → Prop} (h : RAt S w r s) (hu : Upd M w w') (hM : ∀ b, S b → ¬ M b) : RAt S w' r s := by obtain ⟨_, _, h⟩ := h; exact ⟨_, _, h.upd hu hM⟩ -- 94
theorem RAt.lt (h : RAt S w r s) : ∀ j, S j → j < w.heap.size := by obtain ⟨_, _, h⟩ := h; exact h.lt -- 94
theorem RAt.ok (h : RAt S w r s) : s.Ok := by obtain ⟨_, _, h⟩ := h; exact h.ok -- 94
theorem RIn.cells (h : RIn S w r s A c) : w.cell? ⟨r, 0, none⟩ = some (.int .i64 s.parts) ∧ w.cell? ⟨r, 1, none⟩ = some (.int .i64 s.room) ∧ w.cell? ⟨r, 2, none⟩ = some (.slice A s.L.length c) := ⟨h.blk.cell 0, h.blk.cell 1, h.blk.cell 2⟩ -- 94
theorem kvCells_len (L : List Kv) : (kvCells L).length = L.length * 4 := by
  unfold kvCells
  induction L with
  | nil => rfl
  | cons x l ih => rw [List.flatMap_cons, List.length_append, ih]; simp; omega
theorem kvCells_at : ∀ {L : List Kv} {i : Nat} {x : Kv}, L[i]? = some x → (kvCells L)[i * 4]? = some (.string x.1) ∧ (kvCells L)[i * 4 + 1]? = some (.int .i64 x.2.k) ∧ (kvCells L)[i * 4 + 2]? = some (.int .i64 x.2.n) ∧ (kvCells L)[i * 4 + 3]? = some (.string x.2.s) := by
  intro L
  induction L with
  | nil => intro i x h; simp at h
  | cons y l ih =>
    intro i x h
    have e : kvCells (y :: l) = .string y.1 :: .int .i64 y.2.k :: .int .i64 y.2.n :: .string y.2.s :: kvCells l := rfl
    rw [e]
    cases i with
    | zero => simp at h; subst h; exact ⟨rfl, rfl, rfl, rfl⟩
    | succ i =>
      simp only [List.getElem?_cons_succ] at h
      obtain ⟨h1, h2, h3, h4⟩ := ih h
      rw [show (i + 1) * 4 = i * 4 + 1 + 1 + 1 + 1 by omega]
      simp only [List.getElem?_cons_succ]
      exact ⟨h1, h2, h3, h4⟩
/-- a row of keys with values, cell by cell -/
theorem rd_kv {S : Nat → Prop} {w : World} {A : Option Addr} {L : List Kv} (h : Rd S w 4 A L.length (kvCells L)) {i : Nat} (hi : i < L.length) : ∃ b o, A = some ⟨b, o, none⟩ ∧ S b ∧ b < w.heap.size ∧ w.cell? ⟨b, o + i * 4, none⟩ = some (.string (L[i]).1) ∧ w.cell? ⟨b, o + i * 4 + 1, none⟩ = some (.int .i64 (L[i]).2.k) ∧ w.cell? ⟨b, o + i * 4 + 2, none⟩ = some (.int .i64 (L[i]).2.n) ∧ w.cell? ⟨b, o + i * 4 + 3, none⟩ = some (.string (L[i]).2.s) := by
  obtain ⟨b, o, rfl, hS, hl, hc⟩ := h.at_ hi
  obtain ⟨h1, h2, h3, h4⟩ := kvCells_at (L := L) (i := i) (x := L[i]) (by simp [hi])
  exact ⟨b, o, rfl, hS, hl, hc _ _ h1, by rw [Nat.add_assoc]; exact hc _ _ h2, by rw [Nat.add_assoc]; exact hc _ _ h3, by rw [Nat.add_assoc]; exact hc _ _ h4⟩
end
end Go.Proofs.YtphglnenafdkaaaGreatDoor

namespace Go.Proofs.YtphglnenafdkaaaGreatDoor
open Go.RowKit
set_option linter.unusedVariables false
set_option linter.unusedSimpArgs false

theorem bytes_dec (a b : ByteArray) : (a.toList == b.toList) = decide (a = b) := by
  by_cases h : a = b
  · subst h; simp
  · rw [decide_eq_false h]
    exact Bool.eq_false_iff.2 fun e => h (ba_inj (by simpa using e))
def Vl.cells (v : Vl) : List Value := [.int .i64 v.k, .int .i64 v.n, .string v.s]
def Is.cells (i : Is) : List Value := [.int .i64 i.op, .int .i64 i.n]
def vcells (l : List Vl) : List Value := l.flatMap Vl.cells
def icells (l : List Is) : List Value := l.flatMap Is.cells
theorem flat_at {α : Type} (f : α → List Value) (sz : Nat) (hf : ∀ a, (f a).length = sz) (l : List α) (k j : Nat) (h : k < l.length) (hj : j < sz) : (l.flatMap f)[k * sz + j]? = (f l[k])[j]? := by
  induction l generalizing k with
  | nil => simp at h
  | cons x l ih =>
    rw [List.flatMap_cons]
    cases k with
    | zero => rw [List.getElem?_append_left (by rw [hf]; omega)]; simp
    | succ k =>
      rw [List.getElem?_append_right (by rw [hf, Nat.succ_mul]; omega), hf, show (k + 1) * sz + j - sz = k * sz + j by rw [Nat.succ_mul]; omega, ih k (by simpa using h)]
      simp
theorem flat_length {α : Type} (f : α → List Value) (sz : Nat) (hf : ∀ a, (f a).length = sz) (l : List α) : (l.flatMap f).length = l.length * sz := by
  induction l with
  | nil => simp
  | cons x l ih => rw [List.flatMap_cons, List.length_append, ih, hf, List.length_cons, Nat.succ_mul]; omega
theorem Rd.val_at {S : Nat → Prop} {w : World} {A : Option Addr} {l : List Vl} {k : Nat} (h : Rd S w 3 A l.length (vcells l)) (hk : k < l.length) : ∃ b o, A = some ⟨b, o, none⟩ ∧ b < w.heap.size ∧ w.cell? ⟨b, o + k * 3, none⟩ = some (.int .i64 l[k].k) ∧ w.cell? ⟨b, o + k * 3 + 1, none⟩ = some (.int .i64 l[k].n) ∧ w.cell? ⟨b, o + k * 3 + 2, none⟩ = some (.string l[k].s) := by
  obtain ⟨b, o, e, hS, hl, hc⟩ := Rd.at_ h hk
  have g := fun j (hj : j < 3) u (hu : (Vl.cells l[k])[j]? = some u) => hc (k * 3 + j) u (by rw [vcells, flat_at Vl.cells 3 (fun _ => rfl) l k j hk hj]; exact hu)
  simp only [← Nat.add_assoc] at g
  exact ⟨b, o, e, hl, g 0 (by omega) _ rfl, g 1 (by omega) _ rfl, g 2 (by omega) _ rfl⟩
theorem Rd.ins_at {S : Nat → Prop} {w : World} {A : Option Addr} {l : List Is} {k : Nat} (h : Rd S w 2 A l.length (icells l)) (hk : k < l.length) : ∃ b o, A = some ⟨b, o, none⟩ ∧ b < w.heap.size ∧ w.cell? ⟨b, o + k * 2, none⟩ = some (.int .i64 l[k].op) ∧ w.cell? ⟨b, o + k * 2 + 1, none⟩ = some (.int .i64 l[k].n) := by
  obtain ⟨b, o, e, hS, hl, hc⟩ := Rd.at_ h hk
  have g := fun j (hj : j < 2) u (hu : (Is.cells l[k])[j]? = some u) => hc (k * 2 + j) u (by rw [icells, flat_at Is.cells 2 (fun _ => rfl) l k j hk hj]; exact hu)
  simp only [← Nat.add_assoc] at g
  exact ⟨b, o, e, hl, g 0 (by omega) _ rfl, g 1 (by omega) _ rfl⟩
end Go.Proofs.YtphglnenafdkaaaGreatDoor

namespace Go.Proofs.YtphglnenafdkaaaGreatDoor
open Go.Shelf
def lays106_ren : Go.Shelf.Ren := ⟨fun | 106 => 77 | 213 => 95 | 265 => 134 | n => n, fun | 9 => 9 | 3 => 3 | n => n, fun | n => n⟩
theorem lays106 : Go.Proofs.Lays.n106 Tryz.prog lays106_ren := {
  mixed := by kernel_rfl
  f106 := Tryz.func77.trans (congrArg some (by kernel_rfl))
  f213 := Tryz.func95.trans (congrArg some (by kernel_rfl))
  f265 := Tryz.func134.trans (congrArg some (by kernel_rfl))
  t3 := Tryz.underlying3
  a3 := Tryz.isAgg3
  z3 := Tryz.sizeOf3
  v3 := Tryz.zeroValue3
  t9 := Tryz.underlying9
  a9 := Tryz.isAgg9
  z9 := Tryz.sizeOf9
  v9 := Tryz.zeroValue9 }
def lays137_ren : Go.Shelf.Ren := ⟨fun | 137 => 64 | 217 => 85 | 266 => 109 | n => n, fun | 9 => 9 | 5 => 5 | 3 => 3 | n => n, fun | n => n⟩
theorem lays137 : Go.Proofs.Lays.n137 Tryz.prog lays137_ren := {
  mixed := by kernel_rfl
  f137 := Tryz.func64.trans (congrArg some (by kernel_rfl))
  f217 := Tryz.func85.trans (congrArg some (by kernel_rfl))
  f266 := Tryz.func109.trans (congrArg some (by kernel_rfl))
  t3 := Tryz.underlying3
  a3 := Tryz.isAgg3
  z3 := Tryz.sizeOf3
  v3 := Tryz.zeroValue3
  t5 := Tryz.underlying5
  a5 := Tryz.isAgg5
  z5 := Tryz.sizeOf5
  v5 := Tryz.zeroValue5
  t9 := Tryz.underlying9
  a9 := Tryz.isAgg9
  z9 := Tryz.sizeOf9
  v9 := Tryz.zeroValue9 }
open Go.RowKit in
/-- strings.Compare: "Compare returns an integer comparing two strings lexicographically. The result will be 0 if a == b, -1 if a < b, and +1 if a > b.": IT RETURNS 'Lib.compareBytes a b'; the world is as it was. (LAID: no walk: one application.) -/
theorem strings_Compare (a b : ByteArray) (w : World) :
    Calls Tryz.prog 77 #[.string a, .string b] w fun e w' => e = .returned (.int .i64 (Lib.compareBytes a.data.toList b.data.toList)) ∧ w' = w := Any.strings_Compare lays106 a b w
open Go.RowKit in
/-- strings.IndexByte: "IndexByte returns the index of the first instance of c in s, or -1 if c is not present in s.": IT RETURNS 'Lib.indexByte s c'; the world is as it was. (LAID: no walk: one application.) -/
theorem strings_IndexByte (s : ByteArray) (c : Int) (w : World) :
    Calls Tryz.prog 64 #[.string s, .int .u8 c] w fun e w' => e = .returned (.int .i64 (Lib.indexByte s.data.toList c.toNat.toUInt8)) ∧ w' = w := Any.strings_IndexByte lays137 s c w
end Go.Proofs.YtphglnenafdkaaaGreatDoor

namespace Go.Proofs.YtphglnenafdkaaaGreatDoor
open Go.RowKit
set_option linter.unusedVariables false
set_option linter.unusedSimpArgs false

def keyBs : ByteArray := ⟨#[97, 98, 99, 100, 101, 102, 103, 104, 105, 106, 107, 108, 109, 110, 111, 112, 113, 114, 115, 116, 117, 118, 119, 120, 121, 122, 48, 49, 50, 51, 52, 53, 54, 55, 56, 57, 47, 58, 46, 95, 45]⟩
theorem keyB_all : ∀ n : Fin 256, decide (Lib.indexByte keyBs.data.toList (UInt8.ofNat n.val) < 0) = !keyB (UInt8.ofNat n.val) := by decide +kernel
theorem keyB_index (c : UInt8) : decide (Lib.indexByte keyBs.data.toList c < 0) = !keyB c := by
  have := keyB_all ⟨c.toNat, c.toNat_lt⟩
  simpa using this
theorem index_any (c : UInt8) (w : World) : Calls Tryz.prog 64 #[.string keyBs, .int .u8 (c.toNat : Nat)] w fun e w' => (∃ v : Int, e = .returned (.int .i64 v) ∧ decide (v < 0) = !keyB c) ∧ w' = w := by
  refine (strings_IndexByte keyBs (c.toNat : Nat) w).mono ?_
  rintro e w' ⟨rfl, rfl⟩
  exact ⟨⟨_, rfl, by simpa using keyB_index c⟩, rfl⟩
theorem all_at {s : ByteArray} {k : Nat} (h : k < s.size) (hb : keyB (s.data[k]'h) = false) : s.toList.all keyB = false := by
  rw [List.all_eq_false, ByteArray.toList_eq]
  exact ⟨s.data[k]'h, by rw [Array.mem_toList_iff]; exact Array.getElem_mem h, by rw [hb]; decide⟩
theorem all_all {s : ByteArray} (h : ∀ k (hk : k < s.size), keyB (s.data[k]'hk) = true) : s.toList.all keyB = true := by
  rw [List.all_eq_true, ByteArray.toList_eq]
  intro c hc
  rw [Array.mem_toList_iff] at hc
  obtain ⟨k, hk, rfl⟩ := Array.mem_iff_getElem.1 hc
  exact h k hk
theorem validK_no {s : ByteArray} (h : s.toList.all keyB = false) : validK s = false := by unfold validK; rw [h]; rfl
theorem validK_yes {s : ByteArray} (h : s.toList.all keyB = true) : validK s = (decide (1 ≤ s.size) && decide (s.size ≤ 32)) := by unfold validK; rw [h]; simp
theorem hash_at : ∀ {l : List UInt8} {h k : Nat} (hk : k < l.length), hashL h (l.take (k + 1)) = (hashL h (l.take k) ^^^ (l[k]).toNat) * 1099511628211 % 18446744073709551616 := by
  intro l
  induction l with
  | nil => intro h k hk; simp at hk
  | cons c r ih =>
    intro h k hk
    cases k with
    | zero => simp [hashL]
    | succ k =>
      simp only [List.take_succ_cons, hashL, List.getElem_cons_succ]
      exact ih (by simpa using hk)
theorem hashL_lt : ∀ (l : List UInt8) (h : Nat), h < 18446744073709551616 → hashL h l < 18446744073709551616 := by
  intro l
  induction l with
  | nil => intro h hh; exact hh
  | cons c r ih => intro h hh; exact ih _ (Nat.mod_lt _ (by decide))
theorem hash0_lt (k : ByteArray) : hash0 k < 18446744073709551616 := hashL_lt _ _ (by decide)
theorem wrap_u64_mod (n : Nat) : IntKind.u64.wrap (n : Int) = ((n % 18446744073709551616 : Nat) : Int) := by
  simp [IntKind.wrap, IntKind.bits, IntKind.signed]
theorem wrap_u64_lt {n : Nat} (h : n < 18446744073709551616) : IntKind.u64.wrap (n : Int) = (n : Int) := by
  rw [wrap_u64_mod, Nat.mod_eq_of_lt h]
theorem wrap_i64_lt {n : Nat} (h : n < 9223372036854775808) : IntKind.i64.wrap (n : Int) = (n : Int) := by
  rw [IntKind.wrap_i64]; omega
theorem bits_xor_u64 (a b : Nat) (ha : a < 18446744073709551616) (hb : b < 18446744073709551616) : bits BinOp.xor IntKind.u64 (a : Int) (b : Int) = ((a ^^^ b : Nat) : Int) := by
  have hx : a ^^^ b < 2 ^ 64 := Nat.xor_lt_two_pow (by omega) (by omega)
  have h1 : (BitVec.ofInt 64 (a : Int)).toNat = a := by
    rw [BitVec.ofInt_natCast, BitVec.toNat_ofNat]; exact Nat.mod_eq_of_lt (by omega)
  have h2 : (BitVec.ofInt 64 (b : Int)).toNat = b := by
    rw [BitVec.ofInt_natCast, BitVec.toNat_ofNat]; exact Nat.mod_eq_of_lt (by omega)
  show IntKind.u64.wrap ((BitVec.ofInt 64 (a : Int) ^^^ BitVec.ofInt 64 (b : Int)).toNat : Int) = _
  rw [BitVec.toNat_xor, h1, h2, IntKind.wrap_u64]
  omega
set_option maxRecDepth 100000 in
set_option maxHeartbeats 1000000 in
theorem validk_any (s : ByteArray) (w : World) (hs : s.size ≤ 9223372036854775806) : Calls Tryz.prog 36 #[.string s] w fun e w' => e = .returned (.bool (validK s)) ∧ w' = w := by
  go_enter Tryz.func36, Tryz.ntmps36
  go_wp2_with fail
  go_loopw [6] (fun v wr => ∃ k : Nat, v = .int .i64 k ∧ k ≤ s.size ∧ wr = w ∧ ∀ j (hj : j < s.size), j < k → keyB (s.data[j]'hj) = true) (fun v _ => s.size - (intOf v).toNat)
  case atStart => exact ⟨0, rfl, Nat.zero_le _, rfl, fun j _ h => by omega⟩
  case round =>
    obtain ⟨k, rfl, hk, rfl, ha0⟩ := hrel
    have ha := hid ha0
    clear ha0
    by_cases hlt : k < s.size
    · have i1 : (k : Int) < (s.size : Int) := by omega
      have hs9 : (s.size : Int) ≤ 9223372036854775806 := by omega
      cases hc0 : keyB (s.data[k]'hlt) with
      | true =>
        have hc := hid hc0
        have hi0 := index_any (s[k]'hlt) wr
        rw [show keyB (s[k]'hlt) = true from hc0] at hi0
        have hi := hid hi0
        clear hc0 hi0
        go_wp2_with fail
        refine hi.out.mono ?_
        rintro e w2 ⟨⟨v, rfl, hv⟩, rfl⟩
        simp only [Bool.not_true] at hv
        go_wp2_with fail
        go_roundw
        case rel => exact ⟨k + 1, by go_num, hlt, by first | rfl | trivial, fun j hj hjk => by
          by_cases e : j = k
          · subst e; exact hc.out
          · exact ha.out j hj (by omega)⟩
        case measure => simp [intOf]; omega
      | false =>
        have hfin : Hid (validK s = false) := hid (validK_no (all_at hlt hc0))
        have hi0 := index_any (s[k]'hlt) wr
        rw [show keyB (s[k]'hlt) = false from hc0] at hi0
        have hi := hid hi0
        clear hc0 hi0
        go_wp2_with fail
        refine hi.out.mono ?_
        rintro e w2 ⟨⟨v, rfl, hv⟩, rfl⟩
        simp only [Bool.not_false] at hv
        go_wp2_with fail
        go_ret
        exact ⟨by rw [hfin.out]; rfl, by first | rfl | trivial⟩
    · obtain rfl : k = s.size := by omega
      have hfin : Hid (validK s = (decide (1 ≤ s.size) && decide (s.size ≤ 32))) := hid (validK_yes (all_all fun j hj => ha.out j hj hj))
      by_cases h1 : 1 ≤ s.size
      · have t1 : decide ((1 : Int) ≤ (s.size : Int)) = true := decide_eq_true (by omega)
        have hd : Hid ((decide (1 ≤ s.size) && decide (s.size ≤ 32)) = decide ((s.size : Int) ≤ 32)) := hid (by rw [decide_eq_true h1, Bool.true_and]; exact decide_eq_decide.2 (by omega))
        clear h1
        go_wp2_with fail
        go_ret
        exact ⟨by rw [hfin.out, hd.out]; first | rfl | simp, by first | rfl | trivial⟩
      · have t1 : decide ((1 : Int) ≤ (s.size : Int)) = false := decide_eq_false (by omega)
        have hd : Hid ((decide (1 ≤ s.size) && decide (s.size ≤ 32)) = false) := hid (by rw [decide_eq_false h1, Bool.false_and])
        clear h1
        go_wp2_with fail
        go_ret
        exact ⟨by rw [hfin.out, hd.out]; first | rfl | simp, by first | rfl | trivial⟩
set_option maxRecDepth 100000 in
set_option maxHeartbeats 1000000 in
theorem rvalidk_any (s : ByteArray) (w : World) (hs : s.size ≤ 9223372036854775806) : Calls Tryz.prog 46 #[.string s] w fun e w' => e = .returned (.bool (validK s)) ∧ w' = w := by
  go_enter Tryz.func46, Tryz.ntmps46
  go_wp2_with fail
  go_loopw [3] (fun v wr => ∃ k : Nat, v = .int .i64 k ∧ k ≤ s.size ∧ wr = w ∧ ∀ j (hj : j < s.size), j < k → keyB (s.data[j]'hj) = true) (fun v _ => s.size - (intOf v).toNat)
  case atStart => exact ⟨0, rfl, Nat.zero_le _, rfl, fun j _ h => by omega⟩
  case round =>
    obtain ⟨k, rfl, hk, rfl, ha0⟩ := hrel
    have ha := hid ha0
    clear ha0
    by_cases hlt : k < s.size
    · have i1 : (k : Int) < (s.size : Int) := by omega
      have hs9 : (s.size : Int) ≤ 9223372036854775806 := by omega
      obtain ⟨c, hcc⟩ : ∃ c : Nat, c = (s[k]'hlt).toNat := ⟨_, rfl⟩
      have hkb : keyB (s.data[k]'hlt) = ((decide (97 ≤ c) && decide (c ≤ 122)) || (decide (48 ≤ c) && decide (c ≤ 57)) || decide (c = 47) || decide (c = 58) || decide (c = 46) || decide (c = 95) || decide (c = 45)) := by rw [hcc]; rfl
      have harms : (97 ≤ c ∧ c ≤ 122) ∨ (¬ 97 ≤ c ∧ 48 ≤ c ∧ c ≤ 57) ∨ (¬ 97 ≤ c ∧ ¬ 48 ≤ c ∧ c = 47) ∨ (¬ 97 ≤ c ∧ ¬ 48 ≤ c ∧ ¬ c = 47 ∧ ¬ c = 58 ∧ c = 46) ∨ (¬ 97 ≤ c ∧ ¬ 48 ≤ c ∧ ¬ c = 47 ∧ ¬ c = 58 ∧ ¬ c = 46 ∧ ¬ c = 95 ∧ c = 45) ∨ (¬ 97 ≤ c ∧ ¬ 48 ≤ c ∧ ¬ c = 47 ∧ ¬ c = 58 ∧ ¬ c = 46 ∧ ¬ c = 95 ∧ ¬ c = 45) ∨ (¬ 97 ≤ c ∧ 48 ≤ c ∧ ¬ c ≤ 57 ∧ ¬ c = 47 ∧ c = 58) ∨ (¬ 97 ≤ c ∧ 48 ≤ c ∧ ¬ c ≤ 57 ∧ ¬ c = 47 ∧ ¬ c = 58 ∧ ¬ c = 46 ∧ c = 95) ∨ (¬ 97 ≤ c ∧ 48 ≤ c ∧ ¬ c ≤ 57 ∧ ¬ c = 47 ∧ ¬ c = 58 ∧ ¬ c = 46 ∧ ¬ c = 95 ∧ ¬ c = 45) ∨ (97 ≤ c ∧ ¬ c ≤ 122 ∧ 48 ≤ c ∧ ¬ c ≤ 57 ∧ ¬ c = 47 ∧ ¬ c = 58 ∧ ¬ c = 46 ∧ ¬ c = 95 ∧ ¬ c = 45) := by omega
      rcases harms with ⟨h0, h1⟩ | ⟨h0, h1, h2⟩ | ⟨h0, h1, h2⟩ | ⟨h0, h1, h2, h3, h4⟩ | ⟨h0, h1, h2, h3, h4, h5, h6⟩ | ⟨h0, h1, h2, h3, h4, h5, h6⟩ | ⟨h0, h1, h2, h3, h4⟩ | ⟨h0, h1, h2, h3, h4, h5, h6⟩ | ⟨h0, h1, h2, h3, h4, h5, h6, h7⟩ | ⟨h0, h1, h2, h3, h4, h5, h6, h7, h8⟩
      · have t0 : decide ((97 : Int) ≤ ((s[k]'hlt).toNat : Int)) = true := decide_eq_true (by omega)
        have t1 : decide (((s[k]'hlt).toNat : Int) ≤ (122 : Int)) = true := decide_eq_true (by omega)
        have hc0 : keyB (s.data[k]'hlt) = true := by rw [hkb]; simp; omega
        have hc := hid hc0
        clear hc0 hkb h0 h1 hcc
        go_wp2_with fail
        go_roundw
        case rel => exact ⟨k + 1, by go_num, hlt, by first | rfl | trivial, fun j hj hjk => by
          by_cases e : j = k
          · subst e; exact hc.out
          · exact ha.out j hj (by omega)⟩
        case measure => simp [intOf]; omega
      · have t0 : decide ((97 : Int) ≤ ((s[k]'hlt).toNat : Int)) = false := decide_eq_false (by omega)
        have t1 : decide ((48 : Int) ≤ ((s[k]'hlt).toNat : Int)) = true := decide_eq_true (by omega)
        have t2 : decide (((s[k]'hlt).toNat : Int) ≤ (57 : Int)) = true := decide_eq_true (by omega)
        have hc0 : keyB (s.data[k]'hlt) = true := by rw [hkb]; simp; omega
        have hc := hid hc0
        clear hc0 hkb h0 h1 h2 hcc
        go_wp2_with fail
        go_roundw
        case rel => exact ⟨k + 1, by go_num, hlt, by first | rfl | trivial, fun j hj hjk => by
          by_cases e : j = k
          · subst e; exact hc.out
          · exact ha.out j hj (by omega)⟩
        case measure => simp [intOf]; omega
      · have t0 : decide ((97 : Int) ≤ ((s[k]'hlt).toNat : Int)) = false := decide_eq_false (by omega)
        have t1 : decide ((48 : Int) ≤ ((s[k]'hlt).toNat : Int)) = false := decide_eq_false (by omega)
        have t2 : (((s[k]'hlt).toNat : Int) == (47 : Int)) = true := by first | exact beq_iff_eq.2 (by omega) | exact beq_eq_false_iff_ne.2 (by omega)
        have hc0 : keyB (s.data[k]'hlt) = true := by rw [hkb]; simp; omega
        have hc := hid hc0
        clear hc0 hkb h0 h1 h2 hcc
        go_wp2_with fail
        go_roundw
        case rel => exact ⟨k + 1, by go_num, hlt, by first | rfl | trivial, fun j hj hjk => by
          by_cases e : j = k
          · subst e; exact hc.out
          · exact ha.out j hj (by omega)⟩
        case measure => simp [intOf]; omega
      · have t0 : decide ((97 : Int) ≤ ((s[k]'hlt).toNat : Int)) = false := decide_eq_false (by omega)
        have t1 : decide ((48 : Int) ≤ ((s[k]'hlt).toNat : Int)) = false := decide_eq_false (by omega)
        have t2 : (((s[k]'hlt).toNat : Int) == (47 : Int)) = false := by first | exact beq_iff_eq.2 (by omega) | exact beq_eq_false_iff_ne.2 (by omega)
        have t3 : (((s[k]'hlt).toNat : Int) == (58 : Int)) = false := by first | exact beq_iff_eq.2 (by omega) | exact beq_eq_false_iff_ne.2 (by omega)
        have t4 : (((s[k]'hlt).toNat : Int) == (46 : Int)) = true := by first | exact beq_iff_eq.2 (by omega) | exact beq_eq_false_iff_ne.2 (by omega)
        have hc0 : keyB (s.data[k]'hlt) = true := by rw [hkb]; simp; omega
        have hc := hid hc0
        clear hc0 hkb h0 h1 h2 h3 h4 hcc
        go_wp2_with fail
        go_roundw
        case rel => exact ⟨k + 1, by go_num, hlt, by first | rfl | trivial, fun j hj hjk => by
          by_cases e : j = k
          · subst e; exact hc.out
          · exact ha.out j hj (by omega)⟩
        case measure => simp [intOf]; omega
      · have t0 : decide ((97 : Int) ≤ ((s[k]'hlt).toNat : Int)) = false := decide_eq_false (by omega)
        have t1 : decide ((48 : Int) ≤ ((s[k]'hlt).toNat : Int)) = false := decide_eq_false (by omega)
        have t2 : (((s[k]'hlt).toNat : Int) == (47 : Int)) = false := by first | exact beq_iff_eq.2 (by omega) | exact beq_eq_false_iff_ne.2 (by omega)
        have t3 : (((s[k]'hlt).toNat : Int) == (58 : Int)) = false := by first | exact beq_iff_eq.2 (by omega) | exact beq_eq_false_iff_ne.2 (by omega)
        have t4 : (((s[k]'hlt).toNat : Int) == (46 : Int)) = false := by first | exact beq_iff_eq.2 (by omega) | exact beq_eq_false_iff_ne.2 (by omega)
        have t5 : (((s[k]'hlt).toNat : Int) == (95 : Int)) = false := by first | exact beq_iff_eq.2 (by omega) | exact beq_eq_false_iff_ne.2 (by omega)
        have t6 : (((s[k]'hlt).toNat : Int) == (45 : Int)) = true := by first | exact beq_iff_eq.2 (by omega) | exact beq_eq_false_iff_ne.2 (by omega)
        have hc0 : keyB (s.data[k]'hlt) = true := by rw [hkb]; simp; omega
        have hc := hid hc0
        clear hc0 hkb h0 h1 h2 h3 h4 h5 h6 hcc
        go_wp2_with fail
        go_roundw
        case rel => exact ⟨k + 1, by go_num, hlt, by first | rfl | trivial, fun j hj hjk => by
          by_cases e : j = k
          · subst e; exact hc.out
          · exact ha.out j hj (by omega)⟩
        case measure => simp [intOf]; omega
      · have t0 : decide ((97 : Int) ≤ ((s[k]'hlt).toNat : Int)) = false := decide_eq_false (by omega)
        have t1 : decide ((48 : Int) ≤ ((s[k]'hlt).toNat : Int)) = false := decide_eq_false (by omega)
        have t2 : (((s[k]'hlt).toNat : Int) == (47 : Int)) = false := by first | exact beq_iff_eq.2 (by omega) | exact beq_eq_false_iff_ne.2 (by omega)
        have t3 : (((s[k]'hlt).toNat : Int) == (58 : Int)) = false := by first | exact beq_iff_eq.2 (by omega) | exact beq_eq_false_iff_ne.2 (by omega)
        have t4 : (((s[k]'hlt).toNat : Int) == (46 : Int)) = false := by first | exact beq_iff_eq.2 (by omega) | exact beq_eq_false_iff_ne.2 (by omega)
        have t5 : (((s[k]'hlt).toNat : Int) == (95 : Int)) = false := by first | exact beq_iff_eq.2 (by omega) | exact beq_eq_false_iff_ne.2 (by omega)
        have t6 : (((s[k]'hlt).toNat : Int) == (45 : Int)) = false := by first | exact beq_iff_eq.2 (by omega) | exact beq_eq_false_iff_ne.2 (by omega)
        have hc0 : keyB (s.data[k]'hlt) = false := by rw [hkb]; simp; omega
        have hfin : Hid (validK s = false) := hid (validK_no (all_at hlt hc0))
        clear hc0 hkb h0 h1 h2 h3 h4 h5 h6 hcc
        go_wp2_with fail
        go_ret
        exact ⟨by rw [hfin.out]; rfl, by first | rfl | trivial⟩
      · have t0 : decide ((97 : Int) ≤ ((s[k]'hlt).toNat : Int)) = false := decide_eq_false (by omega)
        have t1 : decide ((48 : Int) ≤ ((s[k]'hlt).toNat : Int)) = true := decide_eq_true (by omega)
        have t2 : decide (((s[k]'hlt).toNat : Int) ≤ (57 : Int)) = false := decide_eq_false (by omega)
        have t3 : (((s[k]'hlt).toNat : Int) == (47 : Int)) = false := by first | exact beq_iff_eq.2 (by omega) | exact beq_eq_false_iff_ne.2 (by omega)
        have t4 : (((s[k]'hlt).toNat : Int) == (58 : Int)) = true := by first | exact beq_iff_eq.2 (by omega) | exact beq_eq_false_iff_ne.2 (by omega)
        have hc0 : keyB (s.data[k]'hlt) = true := by rw [hkb]; simp; omega
        have hc := hid hc0
        clear hc0 hkb h0 h1 h2 h3 h4 hcc
        go_wp2_with fail
        go_roundw
        case rel => exact ⟨k + 1, by go_num, hlt, by first | rfl | trivial, fun j hj hjk => by
          by_cases e : j = k
          · subst e; exact hc.out
          · exact ha.out j hj (by omega)⟩
        case measure => simp [intOf]; omega
      · have t0 : decide ((97 : Int) ≤ ((s[k]'hlt).toNat : Int)) = false := decide_eq_false (by omega)
        have t1 : decide ((48 : Int) ≤ ((s[k]'hlt).toNat : Int)) = true := decide_eq_true (by omega)
        have t2 : decide (((s[k]'hlt).toNat : Int) ≤ (57 : Int)) = false := decide_eq_false (by omega)
        have t3 : (((s[k]'hlt).toNat : Int) == (47 : Int)) = false := by first | exact beq_iff_eq.2 (by omega) | exact beq_eq_false_iff_ne.2 (by omega)
        have t4 : (((s[k]'hlt).toNat : Int) == (58 : Int)) = false := by first | exact beq_iff_eq.2 (by omega) | exact beq_eq_false_iff_ne.2 (by omega)
        have t5 : (((s[k]'hlt).toNat : Int) == (46 : Int)) = false := by first | exact beq_iff_eq.2 (by omega) | exact beq_eq_false_iff_ne.2 (by omega)
        have t6 : (((s[k]'hlt).toNat : Int) == (95 : Int)) = true := by first | exact beq_iff_eq.2 (by omega) | exact beq_eq_false_iff_ne.2 (by omega)
        have hc0 : keyB (s.data[k]'hlt) = true := by rw [hkb]; simp; omega
        have hc := hid hc0
        clear hc0 hkb h0 h1 h2 h3 h4 h5 h6 hcc
        go_wp2_with fail
        go_roundw
        case rel => exact ⟨k + 1, by go_num, hlt, by first | rfl | trivial, fun j hj hjk => by
          by_cases e : j = k
          · subst e; exact hc.out
          · exact ha.out j hj (by omega)⟩
        case measure => simp [intOf]; omega
      · have t0 : decide ((97 : Int) ≤ ((s[k]'hlt).toNat : Int)) = false := decide_eq_false (by omega)
        have t1 : decide ((48 : Int) ≤ ((s[k]'hlt).toNat : Int)) = true := decide_eq_true (by omega)
        have t2 : decide (((s[k]'hlt).toNat : Int) ≤ (57 : Int)) = false := decide_eq_false (by omega)
        have t3 : (((s[k]'hlt).toNat : Int) == (47 : Int)) = false := by first | exact beq_iff_eq.2 (by omega) | exact beq_eq_false_iff_ne.2 (by omega)
        have t4 : (((s[k]'hlt).toNat : Int) == (58 : Int)) = false := by first | exact beq_iff_eq.2 (by omega) | exact beq_eq_false_iff_ne.2 (by omega)
        have t5 : (((s[k]'hlt).toNat : Int) == (46 : Int)) = false := by first | exact beq_iff_eq.2 (by omega) | exact beq_eq_false_iff_ne.2 (by omega)
        have t6 : (((s[k]'hlt).toNat : Int) == (95 : Int)) = false := by first | exact beq_iff_eq.2 (by omega) | exact beq_eq_false_iff_ne.2 (by omega)
        have t7 : (((s[k]'hlt).toNat : Int) == (45 : Int)) = false := by first | exact beq_iff_eq.2 (by omega) | exact beq_eq_false_iff_ne.2 (by omega)
        have hc0 : keyB (s.data[k]'hlt) = false := by rw [hkb]; simp; omega
        have hfin : Hid (validK s = false) := hid (validK_no (all_at hlt hc0))
        clear hc0 hkb h0 h1 h2 h3 h4 h5 h6 h7 hcc
        go_wp2_with fail
        go_ret
        exact ⟨by rw [hfin.out]; rfl, by first | rfl | trivial⟩
      · have t0 : decide ((97 : Int) ≤ ((s[k]'hlt).toNat : Int)) = true := decide_eq_true (by omega)
        have t1 : decide (((s[k]'hlt).toNat : Int) ≤ (122 : Int)) = false := decide_eq_false (by omega)
        have t2 : decide ((48 : Int) ≤ ((s[k]'hlt).toNat : Int)) = true := decide_eq_true (by omega)
        have t3 : decide (((s[k]'hlt).toNat : Int) ≤ (57 : Int)) = false := decide_eq_false (by omega)
        have t4 : (((s[k]'hlt).toNat : Int) == (47 : Int)) = false := by first | exact beq_iff_eq.2 (by omega) | exact beq_eq_false_iff_ne.2 (by omega)
        have t5 : (((s[k]'hlt).toNat : Int) == (58 : Int)) = false := by first | exact beq_iff_eq.2 (by omega) | exact beq_eq_false_iff_ne.2 (by omega)
        have t6 : (((s[k]'hlt).toNat : Int) == (46 : Int)) = false := by first | exact beq_iff_eq.2 (by omega) | exact beq_eq_false_iff_ne.2 (by omega)
        have t7 : (((s[k]'hlt).toNat : Int) == (95 : Int)) = false := by first | exact beq_iff_eq.2 (by omega) | exact beq_eq_false_iff_ne.2 (by omega)
        have t8 : (((s[k]'hlt).toNat : Int) == (45 : Int)) = false := by first | exact beq_iff_eq.2 (by omega) | exact beq_eq_false_iff_ne.2 (by omega)
        have hc0 : keyB (s.data[k]'hlt) = false := by rw [hkb]; simp; omega
        have hfin : Hid (validK s = false) := hid (validK_no (all_at hlt hc0))
        clear hc0 hkb h0 h1 h2 h3 h4 h5 h6 h7 h8 hcc
        go_wp2_with fail
        go_ret
        exact ⟨by rw [hfin.out]; rfl, by first | rfl | trivial⟩
    · obtain rfl : k = s.size := by omega
      have hfin : Hid (validK s = (decide (1 ≤ s.size) && decide (s.size ≤ 32))) := hid (validK_yes (all_all fun j hj => ha.out j hj hj))
      by_cases h1 : 1 ≤ s.size
      · have t1 : decide ((1 : Int) ≤ (s.size : Int)) = true := decide_eq_true (by omega)
        have hd : Hid ((decide (1 ≤ s.size) && decide (s.size ≤ 32)) = decide ((s.size : Int) ≤ 32)) := hid (by rw [decide_eq_true h1, Bool.true_and]; exact decide_eq_decide.2 (by omega))
        clear h1
        go_wp2_with fail
        go_ret
        exact ⟨by rw [hfin.out, hd.out]; first | rfl | simp, by first | rfl | trivial⟩
      · have t1 : decide ((1 : Int) ≤ (s.size : Int)) = false := decide_eq_false (by omega)
        have hd : Hid ((decide (1 ≤ s.size) && decide (s.size ≤ 32)) = false) := hid (by rw [decide_eq_false h1, Bool.false_and])
        clear h1
        go_wp2_with fail
        go_ret
        exact ⟨by rw [hfin.out, hd.out]; first | rfl | simp, by first | rfl | trivial⟩
set_option maxRecDepth 100000 in
theorem hash_any (s : ByteArray) (w : World) (hs : s.size ≤ 9223372036854775806) : Calls Tryz.prog 65 #[.string s] w fun e w' => e = .returned (.int .u64 (hash0 s : Nat)) ∧ w' = w := by
  go_enter Tryz.func65, Tryz.ntmps65
  go_wp2_with fail
  go_loopw [3, 7] (fun u v wr => ∃ (k h : Nat), v = .int .i64 k ∧ u = .int .u64 h ∧ k ≤ s.size ∧ wr = w ∧ h = hashL 14695981039346656037 (s.toList.take k)) (fun u v _ => s.size - (intOf v).toNat)
  case atStart => exact ⟨0, _, rfl, rfl, Nat.zero_le _, rfl, rfl⟩
  case round =>
    obtain ⟨k, h, rfl, rfl, hk, rfl, hh0⟩ := hrel
    have hl : h < 18446744073709551616 := by rw [hh0]; exact hashL_lt _ _ (by decide)
    have hh := hid hh0
    clear hh0
    by_cases hlt : k < s.size
    · have i1 : (k : Int) < (s.size : Int) := by omega
      have hs9 : (s.size : Int) ≤ 9223372036854775806 := by omega
      have hcl : (s[k]'hlt).toNat < 256 := (s[k]'hlt).toNat_lt
      have c1 : IntKind.u64.wrap (((s[k]'hlt).toNat : Nat) : Int) = (((s[k]'hlt).toNat : Nat) : Int) := wrap_u64_lt (by omega)
      have c2 : bits BinOp.xor IntKind.u64 (h : Int) (((s[k]'hlt).toNat : Nat) : Int) = ((h ^^^ (s[k]'hlt).toNat : Nat) : Int) := bits_xor_u64 _ _ hl (by omega)
      have c3 : IntKind.u64.wrap (((h ^^^ (s[k]'hlt).toNat : Nat) : Int) * 1099511628211) = (((h ^^^ (s[k]'hlt).toNat) * 1099511628211 % 18446744073709551616 : Nat) : Int) := wrap_u64_mod ((h ^^^ (s[k]'hlt).toNat) * 1099511628211)
      clear hl hcl
      go_wp2_with fail
      go_roundw
      case rel =>
        refine ⟨k + 1, _, by go_num, rfl, hlt, by first | rfl | trivial, ?_⟩
        have hlt2 : k < s.toList.length := by rw [ByteArray.toList_eq]; simpa using hlt
        rw [hash_at hlt2, ← hh.out]
        congr 3
        simp [ByteArray.toList_eq]
        rfl
      case measure => simp [intOf]; omega
    · obtain rfl : k = s.size := by omega
      have hfin : Hid (h = hash0 s) := hid (by
        rw [hh.out, List.take_of_length_le (by rw [ByteArray.toList_eq]; simp)]; rfl)
      go_wp2_with fail
      go_ret
      exact ⟨by rw [hfin.out]; rfl, by first | rfl | trivial⟩
set_option maxRecDepth 100000 in
theorem rhash_any (s : ByteArray) (w : World) (hs : s.size ≤ 9223372036854775806) : Calls Tryz.prog 71 #[.string s] w fun e w' => e = .returned (.int .u64 (hash0 s : Nat)) ∧ w' = w := by
  go_enter Tryz.func71, Tryz.ntmps71
  go_wp2_with fail
  go_loopw [3, 4] (fun u v wr => ∃ (k h : Nat), v = .int .i64 k ∧ u = .int .u64 h ∧ k ≤ s.size ∧ wr = w ∧ h = hashL 14695981039346656037 (s.toList.take k)) (fun u v _ => s.size - (intOf v).toNat)
  case atStart => exact ⟨0, _, rfl, rfl, Nat.zero_le _, rfl, rfl⟩
  case round =>
    obtain ⟨k, h, rfl, rfl, hk, rfl, hh0⟩ := hrel
    have hl : h < 18446744073709551616 := by rw [hh0]; exact hashL_lt _ _ (by decide)
    have hh := hid hh0
    clear hh0
    by_cases hlt : k < s.size
    · have i1 : (k : Int) < (s.size : Int) := by omega
      have hs9 : (s.size : Int) ≤ 9223372036854775806 := by omega
      have hcl : (s[k]'hlt).toNat < 256 := (s[k]'hlt).toNat_lt
      have c1 : IntKind.u64.wrap (((s[k]'hlt).toNat : Nat) : Int) = (((s[k]'hlt).toNat : Nat) : Int) := wrap_u64_lt (by omega)
      have c2 : bits BinOp.xor IntKind.u64 (h : Int) (((s[k]'hlt).toNat : Nat) : Int) = ((h ^^^ (s[k]'hlt).toNat : Nat) : Int) := bits_xor_u64 _ _ hl (by omega)
      have c3 : IntKind.u64.wrap (((h ^^^ (s[k]'hlt).toNat : Nat) : Int) * 1099511628211) = (((h ^^^ (s[k]'hlt).toNat) * 1099511628211 % 18446744073709551616 : Nat) : Int) := wrap_u64_mod ((h ^^^ (s[k]'hlt).toNat) * 1099511628211)
      clear hl hcl
      go_wp2_with fail
      go_roundw
      case rel =>
        refine ⟨k + 1, _, by go_num, rfl, hlt, by first | rfl | trivial, ?_⟩
        have hlt2 : k < s.toList.length := by rw [ByteArray.toList_eq]; simpa using hlt
        rw [hash_at hlt2, ← hh.out]
        congr 3
        simp [ByteArray.toList_eq]
        rfl
      case measure => simp [intOf]; omega
    · obtain rfl : k = s.size := by omega
      have hfin : Hid (h = hash0 s) := hid (by
        rw [hh.out, List.take_of_length_le (by rw [ByteArray.toList_eq]; simp)]; rfl)
      go_wp2_with fail
      go_ret
      exact ⟨by rw [hfin.out]; rfl, by first | rfl | trivial⟩
theorem part_any (k : ByteArray) (n : Nat) (w : World) (hk : k.size ≤ 9223372036854775806) (h1 : 1 ≤ n) (h64 : n ≤ 64) : Calls Tryz.prog 37 #[.string k, .int .i64 n] w fun e w' => e = .returned (.int .i64 (partK n k : Nat)) ∧ w' = w := by
  have hh := hid (hash_any k w hk)
  have t1 : decide ((n : Int) < 1) = false := decide_eq_false (by omega)
  have c1 : IntKind.u64.wrap (n : Int) = (n : Int) := wrap_u64_lt (by omega)
  have t2 : ((n : Int) == 0) = false := beq_eq_false_iff_ne.2 (by omega)
  have c2 : ((hash0 k : Nat) : Int).tmod (n : Int) = ((hash0 k % n : Nat) : Int) := by rw [Int.tmod_eq_emod_of_nonneg (by omega)]; rfl
  have hlt : hash0 k % n < n := Nat.mod_lt _ h1
  have c3 : IntKind.u64.wrap ((hash0 k % n : Nat) : Int) = ((hash0 k % n : Nat) : Int) := wrap_u64_lt (by omega)
  have c4 : IntKind.i64.wrap ((hash0 k % n : Nat) : Int) = ((hash0 k % n : Nat) : Int) := wrap_i64_lt (by omega)
  have hp : Hid (partK n k = hash0 k % n) := hid rfl
  have hn0 : ¬ (n : Int) = 0 := by omega
  generalize hash0 k % n = q at *
  clear hlt h1 h64
  go_enter Tryz.func37, Tryz.ntmps37
  go_wp2_with fail
  refine hh.out.mono ?_
  rintro e w2 ⟨rfl, rfl⟩
  go_wp2_with fail
  go_ret
  exact ⟨by rw [hp.out]; rfl, rfl⟩
theorem rpart_any (k : ByteArray) (n : Nat) (w : World) (hk : k.size ≤ 9223372036854775806) (h1 : 1 ≤ n) (h64 : n ≤ 64) : Calls Tryz.prog 47 #[.string k, .int .i64 n] w fun e w' => e = .returned (.int .i64 (partK n k : Nat)) ∧ w' = w := by
  have hh := hid (rhash_any k w hk)
  have t1 : decide ((n : Int) < 1) = false := decide_eq_false (by omega)
  have c1 : IntKind.u64.wrap (n : Int) = (n : Int) := wrap_u64_lt (by omega)
  have t2 : ((n : Int) == 0) = false := beq_eq_false_iff_ne.2 (by omega)
  have c2 : ((hash0 k : Nat) : Int).tmod (n : Int) = ((hash0 k % n : Nat) : Int) := by rw [Int.tmod_eq_emod_of_nonneg (by omega)]; rfl
  have hlt : hash0 k % n < n := Nat.mod_lt _ h1
  have c3 : IntKind.u64.wrap ((hash0 k % n : Nat) : Int) = ((hash0 k % n : Nat) : Int) := wrap_u64_lt (by omega)
  have c4 : IntKind.i64.wrap ((hash0 k % n : Nat) : Int) = ((hash0 k % n : Nat) : Int) := wrap_i64_lt (by omega)
  have hp : Hid (partK n k = hash0 k % n) := hid rfl
  have hn0 : ¬ (n : Int) = 0 := by omega
  generalize hash0 k % n = q at *
  clear hlt h1 h64
  go_enter Tryz.func47, Tryz.ntmps47
  go_wp2_with fail
  refine hh.out.mono ?_
  rintro e w2 ⟨rfl, rfl⟩
  go_wp2_with fail
  go_ret
  exact ⟨by rw [hp.out]; rfl, rfl⟩
end Go.Proofs.YtphglnenafdkaaaGreatDoor

namespace Go.Proofs.YtphglnenafdkaaaGreatDoor
open Go.RowKit
set_option linter.unusedVariables false
set_option linter.unusedSimpArgs false

section
variable {S : Nat → Prop} {w w' : World} {g cb cc vb : Nat} {mb : Nat → Nat} {s : St}
theorem PIn.drewN (h : PIn S w g s cb cc mb vb) (q : Nat) : PIn S (w.drewN q) g s cb cc mb vb := h.keep (fun _ _ => rfl) (Nat.le_refl _)
theorem PAt.drewN (h : PAt S w g s) (q : Nat) : PAt S (w.drewN q) g s := by obtain ⟨_, _, _, _, h⟩ := h; exact ⟨_, _, _, _, h.drewN q⟩
set_option maxRecDepth 100000 in
set_option maxHeartbeats 1000000 in
theorem of_any (k : ByteArray) (h : PIn S w g s cb cc mb vb) (hk : k.size ≤ 9223372036854775806) : Calls Tryz.prog 38 #[.pointer (some ⟨g, 0, none⟩), .string k] w fun e w' => e = .returned (.map (some (mb (partK s.parts k)))) ∧ ∃ q, w' = w.drewN q := by
  have hp := h.ok.parts
  have hpl := partK_lt k (show 0 < s.parts by omega)
  have c1 := h.cells.2.1
  have r1 := h.rowc _ hpl
  have hpa := hid fun w => part_any k s.parts w hk hp.1 hp.2
  have hpi : ((partK s.parts k : Nat) : Int) < (s.parts : Int) := by omega
  generalize partK s.parts k = p at *
  clear h hp hpl
  go_enter Tryz.func38, Tryz.ntmps38
  go_wp2_with fail
  go_region_held3 (fun w' => w'.cell? ⟨g, 1, none⟩ = some (.slice (some ⟨cb, 0, none⟩) s.parts cc) ∧ w'.cell? ⟨cb, p, none⟩ = some (.map (some (mb p)))) (go_keep)
    ((go_at_call 37; refine (hpa.out _).mono ?_; rintro e wb ⟨rfl, hwb⟩; obtain rfl := hwb.symm))
  all_goals
    go_wp2_with fail
    go_ret
    first | exact ⟨rfl, 1, rfl⟩ | exact ⟨rfl, 0, rfl⟩ | exact ⟨rfl, _, rfl⟩
set_option maxRecDepth 100000 in
set_option maxHeartbeats 1000000 in
theorem claimed_any (k : ByteArray) (h : PAt S w g s) (hk : k.size ≤ 9223372036854775806) : Calls Tryz.prog 24 #[.pointer (some ⟨g, 0, none⟩), .string k] w fun e w' => e = .returned (.bool (hasK k s.L)) ∧ ∃ q, w' = w.drewN q := by
  obtain ⟨cb, cc, mb, vb, h⟩ := h
  have ho := hid (of_any k h hk)
  have hlk0 := fun q => (h.drewN q).claimed k rfl
  cases hh : hasK k s.L with
  | true =>
    have hlk : ∀ q, _ := fun q => by have := hlk0 q; rw [hh, if_pos rfl] at this; exact this
    clear hlk0 h hk hh
    generalize mb (partK s.parts k) = m at *
    go_enter Tryz.func24, Tryz.ntmps24
    go_wp2_with fail
    refine ho.out.mono ?_
    rintro e w2 ⟨rfl, q, rfl⟩
    have hl := hlk q
    go_wp2_with fail
    go_ret
    exact ⟨rfl, q, rfl⟩
  | false =>
    have hlk : ∀ q, _ := fun q => by have := hlk0 q; rw [hh, if_neg (by simp)] at this; exact this
    clear hlk0 h hk hh
    generalize mb (partK s.parts k) = m at *
    go_enter Tryz.func24, Tryz.ntmps24
    go_wp2_with fail
    refine ho.out.mono ?_
    rintro e w2 ⟨rfl, q, rfl⟩
    have hl := hlk q
    go_wp2_with fail
    go_ret
    exact ⟨rfl, q, rfl⟩
set_option maxRecDepth 100000 in
theorem get_any (k : ByteArray) (h : PAt S w g s) : Calls Tryz.prog 22 #[.pointer (some ⟨g, 0, none⟩), .string k] w fun e w' => e = .returned (.agg #[.int .i64 (valK k s.L).k, .int .i64 (valK k s.L).n, .string (valK k s.L).s]) ∧ Below w.heap.size w w' := by
  obtain ⟨cb, cc, mb, vb, h⟩ := h
  have hB : Below w.heap.size w (w.alloc (.cells #[.int .i64 0, .int .i64 0, .string ⟨#[]⟩] 38)) := (Below.refl _ _).alloc (Nat.le_refl _) _
  have h2 := h.below hB
  have hl := h2.get k
  have c2 := h2.cells.2.2
  generalize (valK k s.L).k = a at *
  generalize (valK k s.L).n = b at *
  generalize (valK k s.L).s = c at *
  clear h h2 hB
  go_enter Tryz.func22, Tryz.ntmps22
  go_wp2_with fail
  refine bodyPost_ret (v := .agg #[.int .i64 a, .int .i64 b, .string c]) ?_ rfl ?_
  · exact results_cell_row (P := Tryz.prog) rfl _ _ w.heap.size 38 _ (0, 0) _ rfl (Blk.new w _ _) Tryz.underlying38 rfl (by kernel_rfl)
  · exact ⟨rfl, (Below.refl _ _).alloc (Nat.le_refl _) _⟩
end
end Go.Proofs.YtphglnenafdkaaaGreatDoor

namespace Go.Proofs.YtphglnenafdkaaaGreatDoor
open Go.RowKit
set_option linter.unusedVariables false
set_option linter.unusedSimpArgs false

theorem info_map : (Tryz.prog.info? 78).map (fun i => (i.zero, i.size, i.bytes)) = some (some (.map none), 1, 8) := by kernel_rfl
theorem st_ok {p r : Nat} (hp : 1 ≤ p ∧ p ≤ 64) (hr : 1 ≤ r ∧ r ≤ 4096) : St.Ok ⟨p, r, []⟩ := ⟨hp, hr, by simp [Asc], by simp, by simp, fun q _ => by simp [cntP]⟩
def goodPR (p r : Int) : Bool := decide (1 ≤ p) && decide (p ≤ 64) && decide (1 ≤ r) && decide (r ≤ 4096)
theorem new_bad (p r : Int) (w : World) (h : goodPR p r = false) : Calls Tryz.prog 14 #[.int .i64 p, .int .i64 r] w fun e w' => e = .returned (.tuple #[.pointer none, .int .i64 2]) ∧ w' = w := by
  have hc : p < 1 ∨ (1 ≤ p ∧ 64 < p) ∨ (1 ≤ p ∧ p ≤ 64 ∧ r < 1) ∨ (1 ≤ p ∧ p ≤ 64 ∧ 1 ≤ r ∧ 4096 < r) := by
    unfold goodPR at h
    simp at h
    omega
  clear h
  rcases hc with h | ⟨h1, h⟩ | ⟨h1, h2, h⟩ | ⟨h1, h2, h3, h⟩
  · have t1 : decide (p < 1) = true := decide_eq_true h
    clear h
    go_enter Tryz.func14, Tryz.ntmps14
    go_wp2_with fail
    go_ret2
    exact ⟨rfl, rfl⟩
  · have t1 : decide (p < 1) = false := decide_eq_false (by omega)
    have t2 : decide (64 < p) = true := decide_eq_true h
    clear h h1
    go_enter Tryz.func14, Tryz.ntmps14
    go_wp2_with fail
    go_ret2
    exact ⟨rfl, rfl⟩
  · have t1 : decide (p < 1) = false := decide_eq_false (by omega)
    have t2 : decide (64 < p) = false := decide_eq_false (by omega)
    have t3 : decide (r < 1) = true := decide_eq_true h
    clear h h1 h2
    go_enter Tryz.func14, Tryz.ntmps14
    go_wp2_with fail
    go_ret2
    exact ⟨rfl, rfl⟩
  · have t1 : decide (p < 1) = false := decide_eq_false (by omega)
    have t2 : decide (64 < p) = false := decide_eq_false (by omega)
    have t3 : decide (r < 1) = false := decide_eq_false (by omega)
    have t4 : decide (4096 < r) = true := decide_eq_true h
    clear h h1 h2 h3
    go_enter Tryz.func14, Tryz.ntmps14
    go_wp2_with fail
    go_ret2
    exact ⟨rfl, rfl⟩
/-- under way: k maps are made -/
structure NewRel (w wr : World) (r k : Nat) (A : Option Addr) (c : Nat) (mb : Nat → Nat) : Prop where
  blk : Blk wr (w.heap.size + 1) 76 #[.int .i64 r, .slice A k c, .map (some w.heap.size)]
  own : wr.ownsRow (w.heap.size + 2) 78 1 (.slice A k c) k ((List.range k).map fun i => .map (some (mb i)))
  mp : ∀ i, i < k → MapF strE wr (mb i) (fun _ => none) ∧ w.heap.size + 2 ≤ mb i
  inj : ∀ i j, i < k → j < k → mb i = mb j → i = j
  vals : MapF strE wr w.heap.size fun _ => none
  bel : Below w.heap.size w wr
theorem NewRel.fin {w wr : World} {r k : Nat} {A : Option Addr} {c : Nat} {mb : Nat → Nat} (h : NewRel w wr r k A c mb) (hk : 1 ≤ k ∧ k ≤ 64) (hr : 1 ≤ r ∧ r ≤ 4096) : PAt (fun j => w.heap.size ≤ j ∧ j < wr.heap.size) wr (w.heap.size + 1) ⟨k, r, []⟩ := by
  rcases h.own.2 with ⟨_, h0⟩ | ⟨g, cap, cur, hv, hbase, hb, h1, h2, h3, h4⟩
  · omega
  · injection hv with hA _ _
    subst hA
    have hgl : g < wr.heap.size := (Array.getElem?_eq_some_iff.1 hb).1
    refine ⟨g, c, mb, w.heap.size, h.blk, ⟨cur, hb, fun p hp => ?_⟩, fun p hp => ?_, fun p q hp hq => h.inj p q hp hq, ?_, fun p hp => ?_, ⟨⟨by omega, h.blk.lt⟩, ⟨by omega, hgl⟩, ⟨Nat.le_refl _, h.vals.lt⟩, fun p hp => ⟨by have := (h.mp p hp).2; omega, (h.mp p hp).1.lt⟩⟩, fun j hj => hj.2, st_ok hk hr⟩
    · have hp' : p < k := hp
      have := congrArg (fun l => l[p]?) h4
      simp only [Nat.mul_one] at this
      rw [List.getElem?_take_of_lt hp', Array.getElem?_toList] at this
      rw [this, List.getElem?_map, List.getElem?_range hp']; rfl
    · refine (h.mp p hp).1.congr fun y => ?_
      simp [Dc, hasK]
    · refine h.vals.congr fun y => ?_
      simp [Dv, valK, vl0]
    · have := (h.mp p hp).2; omega
set_option maxRecDepth 100000 in
set_option maxHeartbeats 4000000 in
theorem new_ok (p r : Nat) (w : World) (hp : 1 ≤ p ∧ p ≤ 64) (hr : 1 ≤ r ∧ r ≤ 4096) : Calls Tryz.prog 14 #[.int .i64 p, .int .i64 r] w fun e w' => ∃ S g, e = .returned (.tuple #[.pointer (some ⟨g, 0, none⟩), .int .i64 0]) ∧ PAt S w' g ⟨p, r, []⟩ ∧ (∀ j, S j → w.heap.size ≤ j) ∧ Below w.heap.size w w' := by
  have t1 : decide ((p : Int) < 1) = false := decide_eq_false (by omega)
  have t2 : decide (64 < (p : Int)) = false := decide_eq_false (by omega)
  have t3 : decide ((r : Int) < 1) = false := decide_eq_false (by omega)
  have t4 : decide (4096 < (r : Int)) = false := decide_eq_false (by omega)
  have t2n : decide (64 < p) = false := decide_eq_false (by omega)
  have t4n : decide (4096 < r) = false := decide_eq_false (by omega)
  have hmm := @run_makeMap Tryz.prog
  obtain ⟨ip, hip, hp0, hp1, hp2⟩ := info_parts info_map
  have hpp := hid hp
  have hrr := hid hr
  have hP : (p : Int) ≤ 64 := by omega
  clear hp hr
  go_enter Tryz.func14, Tryz.ntmps14
  go_upto_region 4 with fail
  have hb0 : Below w.heap.size w ((w.alloc (.map #[] 0)).alloc (.cells #[.int .i64 r, .slice none 0 0, .map (some w.heap.size)] 76)) := below_two _ _
  have R0 : NewRel w ((w.alloc (.map #[] 0)).alloc (.cells #[.int .i64 r, .slice none 0 0, .map (some w.heap.size)] 76)) r 0 none 0 (fun _ => 0) :=
    ⟨Blk.new' _ _ _ (by simp), World.ownsRow_nil _ _ _ _, fun i hi => by omega, fun i j hi => by omega, (MapF.new w).keep (Below.heap_alloc _ _ _ (by simp)), hb0⟩
  have R0 := hid R0
  generalize (w.alloc (.map #[] 0)).alloc (.cells #[.int .i64 r, .slice none 0 0, .map (some w.heap.size)] 76) = W1 at *
  clear hb0
  go_wp2_with fail
  go_loopw [26] (fun v wr => ∃ (k : Nat) (A : Option Addr) (c : Nat) (mb : Nat → Nat), v = .int .i64 k ∧ k ≤ p ∧ NewRel w wr r k A c mb) (fun v _ => p - (intOf v).toNat)
  case atStart => exact ⟨0, none, 0, _, rfl, Nat.zero_le _, R0.out⟩
  case round =>
    clear R0
    obtain ⟨k, A, c, mb, rfl, hk, R⟩ := hrel
    have R := hid R
    have c1 : wr.cell? ⟨w.heap.size + 1, 1, none⟩ = some (.slice A k c) := R.out.blk.cell 1
    by_cases hlt : k < p
    · have i1 : (k : Int) < (p : Int) := by omega
      have hsz := R.out.bel.size
      have c1a : ((wr.alloc (.map #[] 0)).alloc (.cells #[.map (some wr.heap.size)] 78)).cell? ⟨w.heap.size + 1, 1, none⟩ = some (.slice A k c) := ((R.out.blk.alloc _).alloc _).cell 1
      have hgl := hid R.out.blk.lt
      have hownA := hid ((R.out.own.alloc (.map #[] 0)).alloc (.cells #[.map (some wr.heap.size)] 78))
      have hsz' := hid hsz
      have hPk := hid (show k ≤ 64 by omega)
      clear hsz c1a
      go_wp2_with (
        at_builtin
        refine wpList_append_rd _ rfl (.tmp 32) (.tmp 34) 73 rfl (w.heap.size + 2) 78 ip _ 1 8 Tryz.underlying73 hip hp0 hp1 hp2 rfl (by omega) (.slice A k c) k _ rfl hownA.out (fun b => b = wr.heap.size + 1) (some ⟨wr.heap.size + 1, 0, none⟩) 1 1 [.map (some wr.heap.size)] rfl (Rd.new _ 78 1 1 #[.map (some wr.heap.size)] _ (by simp) rfl) (by simp [Value.oneCell']) (by have := hPk.out; simp only [maxLen]; omega) (by have := hPk.out; omega) (by have := hgl.out; simp; omega) ?_
        intro v3 w3 hown3 hg3 hat3
        obtain ⟨A3, c3, rfl, hc3, _⟩ := own_form hown3
        have hgn : some (w.heap.size + 1) ≠ (Value.slice A k c).ownBlock := fun e => by have := (R.out.own.lt _ e.symm).1; omega
        have b3 : Blk w3 (w.heap.size + 1) 76 #[.int .i64 r, .slice A k c, .map (some w.heap.size)] := ((R.out.blk.alloc _).alloc _).grown hg3 hgn
        have x1 : w3.cell? ⟨w.heap.size + 1, 1, none⟩ = some (.slice A k c) := b3.cell 1
        have xf := b3.frozen
        have hb3 := hid b3
        have hgg := hid hg3
        have hoo := hid hown3
        clear b3 hg3 hown3 hgn)
      have hu3 : Upd (fun j => (Value.slice A k c).ownBlock = some j) wr w3 := (((Upd.refl _ wr).alloc _).alloc _).grown hgg.out fun q hq _ => hq
      have hu4 : Upd (fun j => (Value.slice A k c).ownBlock = some j ∨ j = w.heap.size + 1) wr (w3.setCell ⟨w.heap.size + 1, 1, none⟩ (.slice A3 (k + 1) c3)) := (hu3.mono fun j _ h => .inl h).setCell (p := ⟨w.heap.size + 1, 1, none⟩) (fun _ => .inr rfl) _
      have hnm : ∀ {b D}, MapF strE wr b D → ¬ ((Value.slice A k c).ownBlock = some b ∨ b = w.heap.size + 1) := fun {b D} hm h => by
        rcases h with h | h
        · rcases R.out.own.2 with ⟨hn, _⟩ | ⟨gr, cap, cur, hv, _, hbb, _⟩
          · rw [hn] at h; cases h
          · rw [hv] at h
            injection h with h
            exact hm.ne_blk hbb h.symm
        · exact hm.ne_blk R.out.blk h
      go_roundw
      case rel =>
        have hwl : w.heap.size + 1 < wr.heap.size := hgl.out
        refine ⟨k + 1, A3, c3, fun j => if j = k then wr.heap.size else mb j, by go_num, hlt, ⟨?_, ?_, fun i hi => ?_, fun i j hi hj e => ?_, (R.out.vals.upd hu4 (hnm R.out.vals)), ?_⟩⟩
        · exact hb3.out.set_ 1 _
        · have h1 : (w3.setCell ⟨w.heap.size + 1, 1, none⟩ (.slice A3 (k + 1) c3)).ownsRow (w.heap.size + 2) 78 1 (.slice A3 (k + 1) c3) (k + 1) ((List.range k).map (fun i => .map (some (mb i))) ++ [.map (some wr.heap.size)]) := own_updB hoo.out ((Upd.refl (fun j => j = w.heap.size + 1) w3).setCell (p := ⟨w.heap.size + 1, 1, none⟩) (fun _ => rfl) _) fun q hq _ e => by omega
          rw [List.range_succ, List.map_append]
          have e : (List.range k).map (fun i => Value.map (some (if i = k then wr.heap.size else mb i))) = (List.range k).map (fun i => Value.map (some (mb i))) := List.map_congr_left fun i hi => by rw [if_neg (by have := List.mem_range.1 hi; omega)]
          rw [e]
          simpa using h1
        · by_cases e : i = k
          · subst e
            rw [if_pos rfl]
            refine ⟨?_, by omega⟩
            have h0 : MapF strE (wr.alloc (.map #[] 0)) wr.heap.size fun _ => none := MapF.new wr
            have h1 : w3.heap[wr.heap.size]? = (wr.alloc (.map #[] 0)).heap[wr.heap.size]? := (hgg.out.block _ (by simp; omega) fun e => by
              have := (R.out.own.lt _ e.symm).2
              omega).trans (Below.heap_alloc _ _ _ (by simp))
            exact (h0.keep h1).keep (Below.heap_setCell _ _ _ _ (by simp only; omega))
          · rw [if_neg e]
            have := R.out.mp i (by omega)
            exact ⟨this.1.upd hu4 (hnm this.1), this.2⟩
        · have hml : ∀ i, i < k → mb i < wr.heap.size := fun i hi => (R.out.mp i hi).1.lt
          by_cases e1 : i = k
          · by_cases e2 : j = k
            · omega
            · rw [if_pos e1, if_neg e2] at e
              have := hml j (by omega); omega
          · by_cases e2 : j = k
            · rw [if_neg e1, if_pos e2] at e
              have := hml i (by omega); omega
            · rw [if_neg e1, if_neg e2] at e
              exact R.out.inj i j (by omega) (by omega) e
        · exact R.out.bel.trans ((hu4.below (B := w.heap.size) (by omega) fun j hj h => by
            rcases h with h | h
            · have := (R.out.own.lt _ h).1; omega
            · omega))
      case measure => simp [intOf]; omega
    · obtain rfl : k = p := by omega
      have hfin := hid (R.out.fin hpp.out hrr.out)
      have hB := hid R.out.bel
      clear R
      go_wp2_with fail
      go_ret2
      exact ⟨_, _, rfl, hfin.out, fun j hj => hj.1, hB.out⟩
end Go.Proofs.YtphglnenafdkaaaGreatDoor

namespace Go.Proofs.YtphglnenafdkaaaGreatDoor
open Go.Shelf
def laysSort_ren : Go.Shelf.Ren := ⟨fun | 6 => 75 | 15 => 92 | 14 => 94 | 28 => 124 | 29 => 125 | 20 => 126 | 21 => 127 | 22 => 128 | 23 => 129 | 24 => 130 | 25 => 131 | 26 => 132 | 27 => 133 | 46 => 156 | 47 => 151 | 48 => 152 | 49 => 157 | 50 => 158 | 57 => 169 | n => n, fun | 22 => 62 | 24 => 70 | 25 => 129 | 3 => 3 | 39 => 136 | 0 => 0 | 53 => 159 | 55 => 118 | 4 => 4 | 46 => 152 | 45 => 151 | 50 => 95 | 5 => 5 | 9 => 9 | 66 => 174 | 70 => 178 | 76 => 190 | 77 => 191 | n => n, fun | n => n⟩
theorem laysSort : Go.Proofs.SlLaysF0.n6 Tryz.prog laysSort_ren := {
  mixed := by kernel_rfl
  f6 := ⟨Tryz.f75.name, by decide, Tryz.func75.trans (congrArg some (by kernel_rfl))⟩
  f14 := ⟨Tryz.f94.name, by decide, Tryz.func94.trans (congrArg some (by kernel_rfl))⟩
  f15 := Tryz.func92.trans (congrArg some (by kernel_rfl))
  f20 := ⟨Tryz.f126.name, by decide, Tryz.func126.trans (congrArg some (by kernel_rfl))⟩
  f21 := ⟨Tryz.f127.name, by decide, Tryz.func127.trans (congrArg some (by kernel_rfl))⟩
  f22 := ⟨Tryz.f128.name, by decide, Tryz.func128.trans (congrArg some (by kernel_rfl))⟩
  f23 := ⟨Tryz.f129.name, by decide, Tryz.func129.trans (congrArg some (by kernel_rfl))⟩
  f24 := ⟨Tryz.f130.name, by decide, Tryz.func130.trans (congrArg some (by kernel_rfl))⟩
  f25 := ⟨Tryz.f131.name, by decide, Tryz.func131.trans (congrArg some (by kernel_rfl))⟩
  f26 := ⟨Tryz.f132.name, by decide, Tryz.func132.trans (congrArg some (by kernel_rfl))⟩
  f27 := ⟨Tryz.f133.name, by decide, Tryz.func133.trans (congrArg some (by kernel_rfl))⟩
  f28 := Tryz.func124.trans (congrArg some (by kernel_rfl))
  f29 := Tryz.func125.trans (congrArg some (by kernel_rfl))
  f46 := ⟨Tryz.f156.name, by decide, Tryz.func156.trans (congrArg some (by kernel_rfl))⟩
  f47 := Tryz.func151.trans (congrArg some (by kernel_rfl))
  f48 := Tryz.func152.trans (congrArg some (by kernel_rfl))
  f49 := ⟨Tryz.f157.name, by decide, Tryz.func157.trans (congrArg some (by kernel_rfl))⟩
  f50 := ⟨Tryz.f158.name, by decide, Tryz.func158.trans (congrArg some (by kernel_rfl))⟩
  f57 := ⟨Tryz.f169.name, by decide, Tryz.func169.trans (congrArg some (by kernel_rfl))⟩
  t0 := Tryz.underlying0
  a0 := Tryz.isAgg0
  z0 := Tryz.sizeOf0
  v0 := Tryz.zeroValue0
  t3 := Tryz.underlying3
  a3 := Tryz.isAgg3
  z3 := Tryz.sizeOf3
  v3 := Tryz.zeroValue3
  t4 := Tryz.underlying4
  a4 := Tryz.isAgg4
  z4 := Tryz.sizeOf4
  v4 := Tryz.zeroValue4
  t5 := Tryz.underlying5
  a5 := Tryz.isAgg5
  z5 := Tryz.sizeOf5
  v5 := Tryz.zeroValue5
  t9 := Tryz.underlying9
  a9 := Tryz.isAgg9
  z9 := Tryz.sizeOf9
  v9 := Tryz.zeroValue9
  t22 := Tryz.underlying62
  a22 := Tryz.isAgg62
  z22 := Tryz.sizeOf62
  v22 := Tryz.zeroValue62
  t25 := Tryz.underlying129
  a25 := Tryz.isAgg129
  z25 := Tryz.sizeOf129
  v25 := Tryz.zeroValue129
  t39 := Tryz.underlying136
  a39 := Tryz.isAgg136
  z39 := Tryz.sizeOf136
  v39 := Tryz.zeroValue136
  t45 := Tryz.underlying151
  a45 := Tryz.isAgg151
  z45 := Tryz.sizeOf151
  v45 := Tryz.zeroValue151
  t46 := Tryz.underlying152
  a46 := Tryz.isAgg152
  z46 := Tryz.sizeOf152
  v46 := Tryz.zeroValue152
  t50 := Tryz.underlying95
  a50 := Tryz.isAgg95
  z50 := Tryz.sizeOf95
  v50 := Tryz.zeroValue95
  t53 := Tryz.underlying159
  a53 := Tryz.isAgg159
  z53 := Tryz.sizeOf159
  v53 := Tryz.zeroValue159
  t55 := Tryz.underlying118
  a55 := Tryz.isAgg118
  z55 := Tryz.sizeOf118
  v55 := Tryz.zeroValue118
  t66 := Tryz.underlying174
  a66 := Tryz.isAgg174
  z66 := Tryz.sizeOf174
  v66 := Tryz.zeroValue174
  t70 := Tryz.underlying178
  a70 := Tryz.isAgg178
  z70 := Tryz.sizeOf178
  v70 := Tryz.zeroValue178
  t76 := Tryz.underlying190
  a76 := Tryz.isAgg190
  z76 := Tryz.sizeOf190
  v76 := Tryz.zeroValue190
  t77 := Tryz.underlying191
  a77 := Tryz.isAgg191
  z77 := Tryz.sizeOf191
  v77 := Tryz.zeroValue191 }
end Go.Proofs.YtphglnenafdkaaaGreatDoor


/- Texts of the proof, joined: KBytes, KBack, VOrd, VPl, VPl2, SPl, IPl, GMap. -/
import Derived.Test.YtdmogoaaecdbaaaGreatDoorJ02
import Derived.Test.YtdmogoaaecdbaaaGreatDoorJ03
import Derived.Lib.Bytealg
import Derived.Lib.ParseIntBTie
import Derived.Lib.ItoaNum
import Derived.Test.YtdmogoaaecdbaaaGreatDoorJ01
import Derived.Test.YtdmogoaaecdbaaaGreatDoorRows
import Derived.Laws.StructEq
import Derived.Maps.Own
import Derived.Maps.RangeRun
namespace Go.Proofs.YtdmogoaaecdbaaaGreatDoor
set_option linter.unusedVariables false
set_option linter.unusedSimpArgs false

/-- a number's bytes -/
def putF : Nat → Nat → List Nat
  | 0, n => [n]
  | k + 1, n => if 128 ≤ n then (n % 128 + 128) :: putF k (n / 128) else [n]
def putU (n : Nat) : List Nat := putF 9 n
def zig (n : Int) : Nat := if 0 ≤ n then (2 * n).toNat else (2 * (-(n + 1)) + 1).toNat
def zag (u : Nat) : Int := if u % 2 = 0 then ((u / 2 : Nat) : Int) else -((u / 2 : Nat) : Int) - 1
/-- the bytes of a text -/
def tb (s : ByteArray) : List Nat := s.data.toList.map UInt8.toNat
def vput (v : Vl) : List Nat := if v.ok = true then (if v.k = 1 then 1 :: putU (zig v.n) else if v.k = 2 then 2 :: (putU v.s.size ++ tb v.s) else [0]) else []
def iput (i : Is) : List Nat := i.op.toNat :: putU i.n.toNat
def Pr.put (p : Pr) : List Nat := putU p.args.toNat ++ (putU p.cs.length ++ (p.cs.flatMap vput ++ (putU p.code.length ++ p.code.flatMap iput)))
/-! a reader -/
/-- a number at a place, from its byte i on: the number and how many bytes it has, or the error -/
def numF (b : List Nat) (at_ : Nat) : Nat → Nat → Nat → (Nat × Nat) ⊕ Int
  | 0, i, acc => .inr 11
  | k + 1, i, acc => match b[at_ + i]? with
    | none => .inr 3
    | some c => if i = 9 ∧ 1 < c then .inr 11
      else if c < 128 then (if 0 < i ∧ c = 0 then .inr 10 else .inl (acc + c * 128 ^ i, i + 1))
      else numF b at_ k (i + 1) (acc + c % 128 * 128 ^ i)
def num (b : List Nat) (at_ : Nat) : (Nat × Nat) ⊕ Int := numF b at_ 10 0 0
structure Rr where
  b : List Nat
  at_ : Nat
  last : Nat
  e : Int
  spot : Nat
deriving DecidableEq
def Rr.fails (r : Rr) (e : Int) : Rr := { r with e := e, spot := r.at_ }
def Rr.took (r : Rr) (n : Nat) : Rr := { r with last := r.at_, at_ := r.at_ + n }
def Rr.byte (r : Rr) : Nat × Rr := if r.e ≠ 0 then (0, r) else match r.b[r.at_]? with | none => (0, r.fails 3) | some c => (c, r.took 1)
def Rr.int (r : Rr) : Int × Rr := if r.e ≠ 0 then (0, r) else match num r.b r.at_ with | .inr e => (0, r.fails e) | .inl (n, k) => (zag n, r.took k)
def Rr.count (r : Rr) (most : Int) : Nat × Rr := if r.e ≠ 0 then (0, r) else match num r.b r.at_ with | .inr e => (0, r.fails e) | .inl (n, k) => if most < 0 ∨ most < n then (0, r.fails 6) else (n, r.took k)
def bt (l : List Nat) : ByteArray := ⟨(l.map UInt8.ofNat).toArray⟩
def Rr.text (r : Rr) (most : Int) : ByteArray × Rr := if r.e ≠ 0 then (⟨#[]⟩, r) else match num r.b r.at_ with | .inr e => (⟨#[]⟩, r.fails e) | .inl (n, k) => if most < 0 ∨ most < n then (⟨#[]⟩, r.fails 1) else if r.b.length < r.at_ + k + n then (⟨#[]⟩, r.fails 3) else (bt ((r.b.drop (r.at_ + k)).take n), r.took (k + n))
def Rr.fail (r : Rr) (e : Int) : Rr := if r.e = 0 ∧ e ≠ 0 then { r with e := e, spot := r.last } else r
def Rr.rest (r : Rr) : Nat := if r.e ≠ 0 then 0 else r.b.length - r.at_
/-- the value that comes next -/
def Rr.take (r : Rr) : Vl × Rr :=
  let (k, r1) := r.byte
  if k = 0 then (vl0, r1)
  else if k = 1 then (let (n, r2) := r1.int; (if r2.e = 0 then ⟨1, n, ⟨#[]⟩⟩ else vl0, r2))
  else if k = 2 then (let (s, r2) := r1.text 64; if okT s = true then (if r2.e = 0 then ⟨2, 0, s⟩ else vl0, r2) else (vl0, r2.fail 20))
  else (vl0, r1.fail 20)
end Go.Proofs.YtdmogoaaecdbaaaGreatDoor

namespace Go.Proofs.YtdmogoaaecdbaaaGreatDoor
set_option linter.unusedVariables false
set_option linter.unusedSimpArgs false

/-- these bytes stand at a place -/
def Has (b : List Nat) (a : Nat) (l : List Nat) : Prop := ∀ j c, l[j]? = some c → b[a + j]? = some c
theorem Has.took {b : List Nat} {a : Nat} {l : List Nat} (h : Has b a l) (ha : a + l.length ≤ b.length) : (b.drop a).take l.length = l := by
  apply List.ext_getElem?
  intro j
  by_cases hj : j < l.length
  · rw [List.getElem?_take_of_lt hj, List.getElem?_drop, h j _ (List.getElem?_eq_getElem hj), List.getElem?_eq_getElem hj]
  · rw [List.getElem?_take_eq_none (by omega), List.getElem?_eq_none (by omega)]
section
variable {r : Rr} {n : Nat}
def Vl.rng (v : Vl) : Prop := -9223372036854775808 ≤ v.n ∧ v.n ≤ 9223372036854775807
theorem ok_forms {v : Vl} (h : v.ok = true) : v = vl0 ∨ (v.k = 1 ∧ v.s = ⟨#[]⟩) ∨ (v.k = 2 ∧ v.n = 0 ∧ v.s.size ≤ 64 ∧ okT v.s = true) := by
  unfold Vl.ok at h
  split at h
  · rename_i h1
    simp only [Bool.and_eq_true, decide_eq_true_eq] at h
    obtain ⟨k, n, s⟩ := v
    simp only at h1 h
    exact .inl (by rw [h1, h.1, h.2]; rfl)
  · split at h
    · rename_i h2
      exact .inr (.inl ⟨h2, of_decide_eq_true h⟩)
    · split at h
      · rename_i h3
        simp only [Bool.and_eq_true, decide_eq_true_eq] at h
        exact .inr (.inr ⟨h3, h.1, h.2.1, h.2.2⟩)
      · cases h
end
/-- what a form that is right says -/
theorem form_ok {p : Pr} (h : p.form.1 = 0) : 0 ≤ p.args ∧ p.args ≤ 8 ∧ p.cs.length ≤ 32 ∧ (∀ v ∈ p.cs, v.ok = true ∧ v.k ≠ 0) ∧ 0 < p.code.length ∧ p.code.length ≤ 256 ∧ ∀ i ∈ p.code, isOp i.op = true ∧ 0 ≤ i.n ∧ i.n < p.most i.op := by
  unfold Pr.form at h
  split at h
  · cases h
  rename_i h1
  split at h
  · cases h
  rename_i h2
  split at h
  · rename_i h3; exact absurd h h3
  rename_i h3
  split at h
  · cases h
  rename_i h4
  refine ⟨by omega, by omega, by omega, fun v hv => ?_, by omega, by omega, fun i hi => ?_⟩
  · obtain ⟨j, hj, rfl⟩ := List.mem_iff_getElem.1 hv
    rcases scan_form (fun i => conE (p.cs.getD i vl0)) p.cs.length 0 with ⟨_, h5⟩ | ⟨q, _, _, h6, h7, _⟩
    · have := h5 j (Nat.zero_le _) (by omega)
      simp only [List.getD_eq_getElem?_getD, List.getElem?_eq_getElem hj, Option.getD_some, conE] at this
      split at this
      · assumption
      · cases this
    · rw [h7] at h3; exact absurd h3 (by simpa using h6)
  · obtain ⟨j, hj, rfl⟩ := List.mem_iff_getElem.1 hi
    rcases scan_form (fun i => p.insE (p.code.getD i is0)) p.code.length 0 with ⟨_, h5⟩ | ⟨q, _, _, h6, h7, _⟩
    · have := h5 j (Nat.zero_le _) (by omega)
      simp only [List.getD_eq_getElem?_getD, List.getElem?_eq_getElem hj, Option.getD_some, Pr.insE] at this
      split at this
      · cases this
      · rename_i h8
        split at this
        · rename_i h9; exact ⟨by simpa using h8, h9.1, h9.2⟩
        · cases this
    · rw [h7] at h; exact absurd h h6
end Go.Proofs.YtdmogoaaecdbaaaGreatDoor

namespace Go.Proofs.YtdmogoaaecdbaaaGreatDoor
open Go
set_option linter.unusedVariables false
set_option linter.unusedSimpArgs false

/-- a three-way order -/
structure Ord3 {α : Type} (f : α → α → Int) : Prop where
  rng : ∀ a b, f a b = -1 ∨ f a b = 0 ∨ f a b = 1
  zero : ∀ a b, f a b = 0 ↔ a = b
  anti : ∀ a b, f b a = - f a b
  trans : ∀ a b c, f a b = -1 → f b c = -1 → f a c = -1
def cmpI (a b : Int) : Int := if a < b then -1 else if b < a then 1 else 0
theorem ord_bytes : Ord3 Lib.compareBytes where
  rng a := by
    induction a with
    | nil => intro b; cases b <;> simp [Lib.compareBytes]
    | cons x l ih =>
      intro b
      cases b with
      | nil => simp [Lib.compareBytes]
      | cons y m => unfold Lib.compareBytes; by_cases h1 : x < y <;> by_cases h2 : y < x <;> simp only [h1, h2, if_true, if_false] <;> (first | exact ih m | simp)
  zero a := by
    induction a with
    | nil => intro b; cases b <;> simp [Lib.compareBytes]
    | cons x l ih =>
      intro b
      cases b with
      | nil => simp [Lib.compareBytes]
      | cons y m =>
        unfold Lib.compareBytes
        by_cases h1 : x < y
        · rw [if_pos h1]; simp; rintro rfl; exact absurd h1 (UInt8.lt_irrefl _)
        · by_cases h2 : y < x
          · rw [if_neg h1, if_pos h2]; simp; rintro rfl; exact absurd h2 (UInt8.lt_irrefl _)
          · have : x = y := UInt8.le_antisymm (UInt8.not_lt.1 h2) (UInt8.not_lt.1 h1)
            rw [if_neg h1, if_neg h2, ih m, this]; simp
  anti a := by
    induction a with
    | nil => intro b; cases b <;> simp [Lib.compareBytes]
    | cons x l ih =>
      intro b
      cases b with
      | nil => simp [Lib.compareBytes]
      | cons y m =>
        unfold Lib.compareBytes
        by_cases h1 : x < y
        · simp [h1, UInt8.lt_asymm h1]
        · by_cases h2 : y < x
          · simp [h1, h2]
          · rw [if_neg h1, if_neg h2, if_neg h2, if_neg h1]; exact ih m
  trans a := by
    induction a with
    | nil => intro b c; cases b <;> cases c <;> simp [Lib.compareBytes]
    | cons x l ih =>
      intro b c
      cases b with
      | nil => simp [Lib.compareBytes]
      | cons y m =>
        cases c with
        | nil => simp [Lib.compareBytes]
        | cons z n =>
          unfold Lib.compareBytes
          intro h1 h2
          by_cases a1 : x < y
          · by_cases a2 : y < z
            · rw [if_pos (UInt8.lt_trans a1 a2)]
            · rw [if_neg a2] at h2
              by_cases a3 : z < y
              · rw [if_pos a3] at h2; cases h2
              · have : y = z := UInt8.le_antisymm (UInt8.not_lt.1 a3) (UInt8.not_lt.1 a2)
                rw [← this, if_pos a1]
          · rw [if_neg a1] at h1
            by_cases a4 : y < x
            · rw [if_pos a4] at h1; cases h1
            · have e : x = y := UInt8.le_antisymm (UInt8.not_lt.1 a4) (UInt8.not_lt.1 a1)
              rw [if_neg a4] at h1
              subst e
              by_cases a2 : x < z
              · rw [if_pos a2]
              · rw [if_neg a2] at h2 ⊢
                by_cases a3 : z < x
                · rw [if_pos a3] at h2; cases h2
                · rw [if_neg a3] at h2 ⊢
                  exact ih m n h1 h2
/-- the order of values -/
def Vl.cmp (a b : Vl) : Int := if cmpI a.k b.k ≠ 0 then cmpI a.k b.k else if cmpI a.n b.n ≠ 0 then cmpI a.n b.n else Lib.compareBytes a.s.data.toList b.s.data.toList
end Go.Proofs.YtdmogoaaecdbaaaGreatDoor

namespace Go.Proofs.YtdmogoaaecdbaaaGreatDoor
open Go
set_option linter.unusedVariables false
set_option linter.unusedSimpArgs false

/-! digits -/
def isD (c : UInt8) : Bool := decide (48 ≤ c.toNat) && decide (c.toNat ≤ 57)
theorem isD_iff {c : UInt8} : isD c = true ↔ 48 ≤ c.toNat ∧ c.toNat ≤ 57 := by simp [isD]
/-- what digits say -/
def dval (a : Nat) (l : List UInt8) : Nat := l.foldl (fun a c => 10 * a + (c.toNat - 48)) a
theorem dval_nil (a : Nat) : dval a [] = a := rfl
theorem dval_cons (a : Nat) (c : UInt8) (r : List UInt8) : dval a (c :: r) = dval (10 * a + (c.toNat - 48)) r := by unfold dval; rw [List.foldl_cons]
theorem dval_app (l m : List UInt8) (a : Nat) : dval a (l ++ m) = dval (dval a l) m := by unfold dval; rw [List.foldl_append]
theorem dval_snoc (l : List UInt8) (c : UInt8) (a : Nat) : dval a (l ++ [c]) = 10 * dval a l + (c.toNat - 48) := by rw [dval_app, dval_cons, dval_nil]
theorem dval_ge (l : List UInt8) : ∀ a, a ≤ dval a l := by
  induction l with
  | nil => intro a; exact Nat.le_refl _
  | cons c r ih => intro a; have := ih (10 * a + (c.toNat - 48)); simp only [dval_nil, dval_cons]; omega
theorem dval_take (l : List UInt8) (k a : Nat) : dval a (l.take k) ≤ dval a l := by
  have := dval_app (l.take k) (l.drop k) a
  rw [List.take_append_drop] at this
  rw [this]
  exact dval_ge _ _
theorem dg_toNat {u : Nat} (h : u < 10) : (UInt8.ofNat (48 + u)).toNat = 48 + u := by
  rw [UInt8.toNat_ofNat']; omega
theorem dval_dec : ∀ u : Nat, dval 0 (Lib.decDigits u) = u := by
  intro u
  induction u using Nat.strongRecOn with
  | _ u ih =>
    rw [Lib.decDigits]
    split
    · rename_i h
      simp only [dval_nil, dval_cons, dg_toNat h]; omega
    · rename_i h
      rw [dval_snoc, ih (u / 10) (by omega), dg_toNat (by omega)]; omega
theorem head_app {m l : List UInt8} (h : m ≠ []) : (m ++ l).head? = m.head? := by
  cases m with
  | nil => exact absurd rfl h
  | cons c r => rfl
theorem dec_isD : ∀ u : Nat, ∀ c ∈ Lib.decDigits u, isD c = true := by
  intro u
  induction u using Nat.strongRecOn with
  | _ u ih =>
    rw [Lib.decDigits]
    split
    · rename_i h
      intro c hc
      obtain rfl := List.mem_singleton.1 hc
      rw [isD_iff, dg_toNat h]; omega
    · rename_i h
      intro c hc
      rcases List.mem_append.1 hc with hc | hc
      · exact ih (u / 10) (by omega) c hc
      · obtain rfl := List.mem_singleton.1 hc
        rw [isD_iff, dg_toNat (by omega)]; omega
theorem dval_pos {l : List UInt8} (hd : ∀ c ∈ l, isD c = true) (h0 : l ≠ []) (hh : l.head? ≠ some 48) : 0 < dval 0 l := by
  cases l with
  | nil => exact absurd rfl h0
  | cons c r =>
    have h1 := isD_iff.1 (hd c (List.mem_cons_self ..))
    have h2 : c.toNat ≠ 48 := fun e => hh (by rw [List.head?_cons]; congr 1; exact UInt8.toNat_inj.1 e)
    have := dval_ge r (10 * 0 + (c.toNat - 48))
    simp only [dval_nil, dval_cons]
    omega
theorem dec_dval : ∀ (k : Nat) (l : List UInt8), l.length = k → (∀ c ∈ l, isD c = true) → l ≠ [] → (l.head? = some 48 → l.length = 1) → Lib.decDigits (dval 0 l) = l := by
  intro k
  induction k with
  | zero => intro l hl _ h0; exact absurd (List.eq_nil_of_length_eq_zero hl) h0
  | succ k ih =>
    intro l hl hd h0 hh
    obtain ⟨m, c, rfl⟩ : ∃ m c, l = m ++ [c] := ⟨l.dropLast, l.getLast h0, (List.dropLast_concat_getLast h0).symm⟩
    have hc := isD_iff.1 (hd c (by simp))
    have hcc : UInt8.ofNat (48 + (c.toNat - 48)) = c := by rw [show 48 + (c.toNat - 48) = c.toNat by omega]; simp
    rw [dval_snoc]
    by_cases hm : m = []
    · subst hm
      simp only [dval_nil, dval_cons, List.nil_append]
      rw [Lib.decDigits, dif_pos (by omega), show 10 * 0 + (c.toNat - 48) = c.toNat - 48 by omega, hcc]
    · have hm1 : m.head? ≠ some 48 := fun e => by
        have := hh (by rw [head_app hm]; exact e)
        have h3 : 0 < m.length := List.length_pos_iff.2 hm
        simp at this
        exact hm this
      have hp := dval_pos (fun c hc => hd c (by simp [hc])) hm hm1
      rw [Lib.decDigits, dif_neg (by omega), show (10 * dval 0 m + (c.toNat - 48)) / 10 = dval 0 m by omega, show (10 * dval 0 m + (c.toNat - 48)) % 10 = c.toNat - 48 by omega, hcc,
        ih m (by simpa using hl) (fun c hc => hd c (by simp [hc])) hm (fun e => absurd e hm1)]
/-! the library's ParseInt, over digits -/
theorem parseM_dval (M : Nat) (hM : M = 18446744073709551615) : ∀ (l : List UInt8) (a : Nat), (∀ c ∈ l, isD c = true) → a ≤ M → Lib.parseUintM M a l = if dval a l ≤ M then .ok (dval a l) else .range := by
  intro l
  induction l with
  | nil => intro a _ ha; rw [dval_nil, if_pos ha]; rfl
  | cons c r ih =>
    intro a hd ha
    have hc := isD_iff.1 (hd c (List.mem_cons_self ..))
    have hg := dval_ge r (10 * a + (c.toNat - 48))
    have e := dval_cons a c r
    rw [e, Lib.parseUintM, if_pos hc]
    by_cases h1 : 1844674407370955162 ≤ a
    · rw [if_pos h1, if_neg (by omega)]
    · rw [if_neg h1]
      by_cases h2 : M < a * 10 + (c.toNat - 48)
      · rw [if_pos h2, if_neg (by omega)]
      · rw [if_neg h2, ih _ (fun c hc => hd c (List.mem_cons_of_mem _ hc)) (by omega), show a * 10 + (c.toNat - 48) = 10 * a + (c.toNat - 48) by omega]
theorem parseU_dval {l : List UInt8} (hd : ∀ c ∈ l, isD c = true) (h0 : l ≠ []) : Lib.parseUintB 64 l = if dval 0 l ≤ 18446744073709551615 then .ok (dval 0 l) else .range := by
  unfold Lib.parseUintB
  rw [if_neg h0, parseM_dval (2 ^ 64 - 1) (by decide) l 0 hd (by decide)]
theorem parseI_pos {l : List UInt8} (hd : ∀ c ∈ l, isD c = true) (h0 : l ≠ []) : Lib.parseIntB 64 l = if dval 0 l < 9223372036854775808 then .ok (dval 0 l : Int) else .range := by
  cases l with
  | nil => exact absurd rfl h0
  | cons c r =>
    have hc := isD_iff.1 (hd c (List.mem_cons_self ..))
    unfold Lib.parseIntB
    simp only
    rw [if_neg (by omega : ¬ (c.toNat = 43 ∨ c.toNat = 45)), parseU_dval hd h0]
    have e : (2 : Nat) ^ (64 - 1) = 9223372036854775808 := by decide
    rw [e]
    have hn : ¬ (c.toNat = 45) := by omega
    by_cases h1 : dval 0 (c :: r) ≤ 18446744073709551615
    · rw [if_pos h1]
      simp only [hn, not_false_eq_true, true_and, false_and, if_false]
      by_cases h2 : dval 0 (c :: r) < 9223372036854775808
      · rw [if_neg (by omega), if_pos h2]
      · rw [if_pos (by omega), if_neg h2]
    · rw [if_neg h1, if_neg (by omega)]
theorem parseI_neg {l : List UInt8} (hd : ∀ c ∈ l, isD c = true) (h0 : l ≠ []) : Lib.parseIntB 64 (45 :: l) = if dval 0 l ≤ 9223372036854775808 then .ok (-(dval 0 l : Int)) else .range := by
  unfold Lib.parseIntB
  simp only
  rw [if_pos (.inr rfl), parseU_dval hd h0]
  have e : (2 : Nat) ^ (64 - 1) = 9223372036854775808 := by decide
  rw [e]
  have hn : (45 : UInt8).toNat = 45 := rfl
  by_cases h1 : dval 0 l ≤ 18446744073709551615
  · rw [if_pos h1]
    simp only [hn, not_true_eq_false, true_and, false_and, if_false, if_true]
    by_cases h2 : dval 0 l ≤ 9223372036854775808
    · rw [if_neg (by omega), if_pos h2]
    · rw [if_pos (by omega), if_neg h2]
  · rw [if_neg h1, if_neg (by omega)]
/-! Parse -/
structure Pz where
  v : Vl
  e : Int
  at_ : Nat
deriving DecidableEq
def Pz.bad (e : Int) (k : Nat) : Pz := ⟨vl0, e, k⟩
def Pz.good (v : Vl) : Pz := ⟨v, 0, 0⟩
def wordV (l : List UInt8) : Vl := ⟨2, 0, ⟨l.toArray⟩⟩
def intV (n : Int) : Vl := ⟨1, n, ⟨#[]⟩⟩
def scanL : List UInt8 → Nat → List UInt8 → Pz
  | [], i, _ => .bad 3 i
  | c :: r, i, out =>
    if c = 34 then (if r = [] then .good (wordV out) else .bad 4 (i + 1))
    else if okB c = false then .bad 21 i
    else if out.length = 64 then .bad 1 i
    else if c = 92 then
      match r with
      | [] => .bad 3 (i + 1)
      | d :: r' => if d = 34 ∨ d = 92 then scanL r' (i + 2) (out ++ [d]) else .bad 21 (i + 1)
    else scanL r (i + 1) (out ++ [c])
def wantL : List UInt8 → List UInt8 → Nat → Pz
  | [], [], _ => .good vl0
  | _ :: _, [], i => .bad 4 i
  | [], _ :: _, i => .bad 3 i
  | c :: r, d :: q, i => if c = d then wantL r q (i + 1) else .bad 21 i
def noneT : List UInt8 := [110, 111, 110, 101]
def fromL (s : List UInt8) : Nat := if s.head? = some 45 then 1 else 0
def digs (s : List UInt8) : List UInt8 := (s.drop (fromL s)).takeWhile isD
def numE (neg : Bool) (ds : List UInt8) (len : Nat) : Pz :=
  let f := if neg = true then 1 else 0
  if ds = [] then (if len = f then .bad 3 f else .bad 21 f)
  else if ds.head? = some 48 ∧ neg = true then .bad 21 1
  else if ds.head? = some 48 ∧ 1 < ds.length then .bad 21 1
  else if (if neg = true then 9223372036854775808 < dval 0 ds else 9223372036854775808 ≤ dval 0 ds) then .bad 22 0
  else if f + ds.length < len then .bad 4 (f + ds.length)
  else .good (intV (if neg = true then -(dval 0 ds : Int) else dval 0 ds))
def numL (s : List UInt8) : Pz := numE (decide (s.head? = some 45)) (digs s) s.length
def parseL (s : List UInt8) : Pz :=
  match s with
  | [] => .bad 3 0
  | c :: r => if c = 34 then scanL r 1 [] else if c = 45 ∨ isD c = true then numL s else wantL s noneT 0
/-! Print -/
def escL (l : List UInt8) : List UInt8 := l.flatMap fun c => if c = 34 ∨ c = 92 then [92, c] else [c]
def litL (v : Vl) : List UInt8 := if v.k = 1 then Lib.itoa v.n else if v.k = 0 then noneT else 34 :: (escL v.s.data.toList ++ [34])
theorem scan_c {c : UInt8} {r : List UInt8} {i : Nat} {out : List UInt8} (h : c ≠ 92) : scanL (c :: r) i out = if c = 34 then (if r = [] then .good (wordV out) else .bad 4 (i + 1)) else if okB c = false then .bad 21 i else if out.length = 64 then .bad 1 i else scanL r (i + 1) (out ++ [c]) := by
  rw [scanL.eq_def]
  simp only
  rw [if_neg h]
theorem scan_b1 {i : Nat} {out : List UInt8} : scanL [92] i out = if out.length = 64 then .bad 1 i else .bad 3 (i + 1) := by
  rw [scanL.eq_def]
  simp only
  rw [if_neg (by decide), if_neg (by decide), if_pos trivial]
theorem scan_b2 {d : UInt8} {r : List UInt8} {i : Nat} {out : List UInt8} : scanL (92 :: d :: r) i out = if out.length = 64 then .bad 1 i else if d = 34 ∨ d = 92 then scanL r (i + 2) (out ++ [d]) else .bad 21 (i + 1) := by
  rw [scanL.eq_def]
  simp only
  rw [if_neg (by decide), if_neg (by decide), if_pos trivial]
theorem escL_cons (c : UInt8) (l : List UInt8) : escL (c :: l) = (if c = 34 ∨ c = 92 then [92, c] else [c]) ++ escL l := rfl
theorem scan_good : ∀ (n : Nat) (r : List UInt8) (i : Nat) (out : List UInt8), r.length ≤ n → (scanL r i out).e = 0 → out.length ≤ 64 →
    ∃ t, scanL r i out = .good (wordV (out ++ t)) ∧ r = escL t ++ [34] ∧ (∀ c ∈ t, okB c = true) ∧ (out ++ t).length ≤ 64 ∧ ∀ cut, cut < r.length → scanL (r.take cut) i out = .bad 3 (i + cut) := by
  intro n
  induction n with
  | zero => intro r i out hr he; obtain rfl := List.eq_nil_of_length_eq_zero (by omega : r.length = 0); simp [scanL, Pz.bad] at he
  | succ n ih =>
    intro r i out hr he ho
    cases r with
    | nil => simp [scanL, Pz.bad] at he
    | cons c r =>
      by_cases h4 : c = 92
      · subst h4
        cases r with
        | nil => rw [scan_b1] at he; split at he <;> simp [Pz.bad] at he
        | cons d r' =>
          rw [scan_b2] at he ⊢
          by_cases h3 : out.length = 64
          · rw [if_pos h3] at he; simp [Pz.bad] at he
          · rw [if_neg h3] at he ⊢
            by_cases h5 : d = 34 ∨ d = 92
            · rw [if_pos h5] at he ⊢
              obtain ⟨t, e1, e2, e3, e4, e5⟩ := ih r' (i + 2) (out ++ [d]) (by simp at hr; omega) he (by simp; omega)
              refine ⟨d :: t, by rw [e1]; simp, ?_, ?_, ?_, fun cut hc => ?_⟩
              · rw [escL_cons, if_pos h5, e2]; simp
              · intro x hx
                rcases List.mem_cons.1 hx with rfl | hx
                · rcases h5 with rfl | rfl <;> decide
                · exact e3 x hx
              · simp at e4 ⊢; omega
              · rcases cut with _ | _ | cut
                · simp [scanL]
                · simp only [List.take_succ_cons, List.take_zero]
                  rw [scan_b1, if_neg h3]
                · have := e5 cut (by simp at hc; omega)
                  simp only [List.take_succ_cons]
                  rw [scan_b2, if_neg h3, if_pos h5, this]
                  congr 1; omega
            · rw [if_neg h5] at he; simp [Pz.bad] at he
      · rw [scan_c h4] at he ⊢
        by_cases h1 : c = 34
        · rw [if_pos h1] at he ⊢
          by_cases h2 : r = []
          · rw [if_pos h2]
            refine ⟨[], by simp, by simp [escL, h1, h2], by simp, by simpa using ho, fun cut hc => ?_⟩
            subst h2
            obtain rfl : cut = 0 := by simp at hc; omega
            simp [scanL]
          · rw [if_neg h2] at he; simp [Pz.bad] at he
        · rw [if_neg h1] at he ⊢
          by_cases h2 : okB c = false
          · rw [if_pos h2] at he; simp [Pz.bad] at he
          · rw [if_neg h2] at he ⊢
            by_cases h3 : out.length = 64
            · rw [if_pos h3] at he; simp [Pz.bad] at he
            · rw [if_neg h3] at he ⊢
              obtain ⟨t, e1, e2, e3, e4, e5⟩ := ih r (i + 1) (out ++ [c]) (by simp at hr; omega) he (by simp; omega)
              refine ⟨c :: t, by rw [e1]; simp, ?_, ?_, ?_, fun cut hc => ?_⟩
              · rw [escL_cons, if_neg (fun e => e.elim h1 h4), e2]; rfl
              · intro x hx
                rcases List.mem_cons.1 hx with rfl | hx
                · simpa using h2
                · exact e3 x hx
              · simp at e4 ⊢; omega
              · rcases cut with _ | cut
                · simp [scanL]
                · have := e5 cut (by simp at hc; omega)
                  simp only [List.take_succ_cons]
                  rw [scan_c h4, if_neg h1, if_neg h2, if_neg h3, this]
                  congr 1; omega
end Go.Proofs.YtdmogoaaecdbaaaGreatDoor

namespace Go.Proofs.YtdmogoaaecdbaaaGreatDoor
open Go
set_option linter.unusedVariables false
set_option linter.unusedSimpArgs false

theorem takeWhile_all {α : Type} {p : α → Bool} : ∀ {l : List α}, (∀ c ∈ l, p c = true) → l.takeWhile p = l := by
  intro l
  induction l with
  | nil => intro _; rfl
  | cons c r ih => intro h; rw [List.takeWhile_cons, if_pos (h c (List.mem_cons_self ..)), ih fun c hc => h c (List.mem_cons_of_mem _ hc)]
def numT (neg : Bool) (ds : List UInt8) : List UInt8 := if neg = true then 45 :: ds else ds
theorem num_of (neg : Bool) {ds : List UInt8} (hd : ∀ c ∈ ds, isD c = true) : numL (numT neg ds) = numE neg ds (numT neg ds).length := by
  unfold numL digs fromL numT
  cases neg with
  | true => simp [takeWhile_all hd]
  | false =>
    have h : ds.head? ≠ some 45 := fun e => by
      have := hd 45 (List.mem_of_mem_head? e)
      exact absurd this (by decide)
    simp [h, takeWhile_all hd]
theorem parse_num (neg : Bool) {ds : List UInt8} (hd : ∀ c ∈ ds, isD c = true) (h0 : neg = true ∨ ds ≠ []) : parseL (numT neg ds) = numE neg ds (numT neg ds).length := by
  rw [← num_of neg hd]
  unfold numT
  cases neg with
  | true => simp [parseL]
  | false =>
    cases ds with
    | nil => simp at h0
    | cons c r =>
      have hc := hd c (List.mem_cons_self ..)
      have h34 : c ≠ 34 := fun e => by subst e; exact absurd hc (by decide)
      simp [parseL, hc, h34]
theorem takeWhile_len {α : Type} {p : α → Bool} {l : List α} (h : l.length ≤ (l.takeWhile p).length) : l.takeWhile p = l := by
  have h1 := List.takeWhile_append_dropWhile (p := p) (l := l)
  have h2 := congrArg List.length h1
  rw [List.length_append] at h2
  have : l.dropWhile p = [] := List.eq_nil_of_length_eq_zero (by omega)
  rw [this, List.append_nil] at h1
  exact h1
theorem takeWhile_mem {α : Type} {p : α → Bool} : ∀ {l : List α}, ∀ c ∈ l.takeWhile p, p c = true := by
  intro l
  induction l with
  | nil => intro c hc; cases hc
  | cons a r ih =>
    intro c hc
    rw [List.takeWhile_cons] at hc
    split at hc
    · rename_i ha
      rcases List.mem_cons.1 hc with rfl | hc
      · exact ha
      · exact ih c hc
    · cases hc
theorem numE_good {neg : Bool} {ds : List UInt8} {len : Nat} (h : (numE neg ds len).e = 0) : ds ≠ [] ∧ (ds.head? = some 48 → neg = false ∧ ds.length = 1) ∧ (if neg = true then dval 0 ds ≤ 9223372036854775808 else dval 0 ds < 9223372036854775808) ∧ len ≤ (if neg = true then 1 else 0) + ds.length ∧ numE neg ds len = .good (intV (if neg = true then -(dval 0 ds : Int) else dval 0 ds)) := by
  unfold numE at h ⊢
  simp only at h ⊢
  by_cases h1 : ds = []
  · rw [if_pos h1] at h; exfalso; (repeat' split at h) <;> simp [Pz.bad] at h
  · rw [if_neg h1] at h ⊢
    by_cases h2 : ds.head? = some 48 ∧ neg = true
    · rw [if_pos h2] at h; simp [Pz.bad] at h
    · rw [if_neg h2] at h ⊢
      by_cases h3 : ds.head? = some 48 ∧ 1 < ds.length
      · rw [if_pos h3] at h; simp [Pz.bad] at h
      · rw [if_neg h3] at h ⊢
        by_cases h4 : (if neg = true then 9223372036854775808 < dval 0 ds else 9223372036854775808 ≤ dval 0 ds)
        · rw [if_pos h4] at h; simp [Pz.bad] at h
        · rw [if_neg h4] at h ⊢
          by_cases h5 : (if neg = true then 1 else 0) + ds.length < len
          · rw [if_pos h5] at h; simp [Pz.bad] at h
          · rw [if_neg h5] at h ⊢
            refine ⟨h1, fun e => ?_, ?_, by omega, rfl⟩
            · have : 0 < ds.length := List.length_pos_iff.2 h1
              refine ⟨?_, ?_⟩
              · cases neg with
                | true => exact absurd ⟨e, rfl⟩ h2
                | false => rfl
              · have : ¬ 1 < ds.length := fun h => h3 ⟨e, h⟩
                omega
            · cases neg <;> simp at h4 ⊢ <;> omega
theorem numE_of {neg : Bool} {ds : List UInt8} {len : Nat} (h1 : ds ≠ []) (h2 : ds.head? = some 48 → neg = false ∧ ds.length = 1) (h3 : if neg = true then dval 0 ds ≤ 9223372036854775808 else dval 0 ds < 9223372036854775808) (h4 : len ≤ (if neg = true then 1 else 0) + ds.length) : numE neg ds len = .good (intV (if neg = true then -(dval 0 ds : Int) else dval 0 ds)) := by
  unfold numE
  simp only
  rw [if_neg h1, if_neg (fun e => by have := (h2 e.1).1; rw [e.2] at this; cases this), if_neg (fun e => by have := (h2 e.1).2; omega), if_neg (by cases neg <;> simp at h3 ⊢ <;> omega), if_neg (by omega)]
theorem itoa_dval (neg : Bool) {ds : List UInt8} (hd : ∀ c ∈ ds, isD c = true) (h1 : ds ≠ []) (h2 : ds.head? = some 48 → neg = false ∧ ds.length = 1) : Lib.itoa (if neg = true then -(dval 0 ds : Int) else dval 0 ds) = numT neg ds := by
  have e := dec_dval ds.length ds rfl hd h1 (fun h => (h2 h).2)
  unfold Lib.itoa numT
  cases neg with
  | true =>
    have : 0 < dval 0 ds := dval_pos hd h1 (fun h => by have := (h2 h).1; cases this)
    simp only [if_true]
    rw [if_pos (by omega), show (-(dval 0 ds : Int)).natAbs = dval 0 ds by omega, e]
  | false =>
    simp only [Bool.false_eq_true, if_false]
    rw [if_neg (by omega), show ((dval 0 ds : Int)).toNat = dval 0 ds by omega, e]
theorem numL_shape {s : List UInt8} (h : s.length ≤ (if (decide (s.head? = some 45)) = true then 1 else 0) + (digs s).length) (hne : s ≠ []) : s = numT (decide (s.head? = some 45)) (digs s) := by
  unfold numT
  unfold digs fromL at *
  cases s with
  | nil => exact absurd rfl hne
  | cons c r =>
    by_cases hc : c = 45
    · subst hc
      simp at h ⊢
      exact (takeWhile_len (by omega)).symm
    · simp [hc] at h ⊢
      exact (takeWhile_len (by simpa using h)).symm
theorem head_take {l : List UInt8} {k : Nat} (hk : 0 < k) : (l.take k).head? = l.head? := by
  cases k with
  | zero => omega
  | succ k => cases l <;> rfl
theorem want_good : ∀ (q r : List UInt8) (i : Nat), (wantL r q i).e = 0 → r = q
  | [], [], _, _ => rfl
  | [], _ :: _, i, h => absurd h (by simp [wantL, Pz.bad])
  | _ :: _, [], i, h => absurd h (by simp [wantL, Pz.bad])
  | d :: q, c :: r, i, h => by
    unfold wantL at h
    split at h
    · rename_i e; rw [e, want_good q r _ h]
    · simp [Pz.bad] at h
/-- what is read is what would be printed; its beginnings -/
theorem parse_good {s : List UInt8} (h : (parseL s).e = 0) : ∃ v, parseL s = .good v ∧ v.ok = true ∧ v.rng ∧ litL v = s ∧ ∀ cut, cut < s.length → (parseL (s.take cut)).e = 0 ∨ parseL (s.take cut) = .bad 3 cut := by
  cases s with
  | nil => simp [parseL, Pz.bad] at h
  | cons c r =>
    by_cases h1 : c = 34
    · subst h1
      simp only [parseL, if_true] at h ⊢
      obtain ⟨t, e1, e2, e3, e4, e5⟩ := scan_good r.length r 1 [] (Nat.le_refl _) h (by simp)
      rw [List.nil_append] at e1 e4
      refine ⟨wordV t, e1, ?_, ⟨by simp [wordV], by simp [wordV]⟩, ?_, fun cut hc => ?_⟩
      · unfold Vl.ok wordV
        simp only
        rw [if_neg (by decide), if_neg (by decide)]
        simp only [if_true, decide_true, Bool.true_and, Bool.and_eq_true, decide_eq_true_eq]
        refine ⟨by simpa [ByteArray.size] using e4, ?_⟩
        unfold okT
        rw [List.all_eq_true]
        simpa using e3
      · unfold litL wordV
        simp only
        rw [if_neg (by decide), if_neg (by decide)]
        simp [e2]
      · rcases cut with _ | cut
        · right; rfl
        · right
          simp only [List.take_succ_cons, if_true]
          rw [e5 cut (by simp at hc; omega)]
          congr 1; omega
    · by_cases h2 : c = 45 ∨ isD c = true
      · have hp : parseL (c :: r) = numL (c :: r) := by simp only [parseL]; rw [if_neg h1, if_pos h2]
        rw [hp] at h ⊢
        unfold numL at h ⊢
        generalize hneg : decide ((c :: r).head? = some 45) = neg at h ⊢
        obtain ⟨g1, g2, g3, g4, g5⟩ := numE_good h
        have hs := numL_shape (s := c :: r) (by rw [hneg]; exact g4) (by simp)
        rw [hneg] at hs
        generalize hds : digs (c :: r) = ds at *
        have hd : ∀ c ∈ ds, isD c = true := by rw [← hds]; unfold digs; exact takeWhile_mem
        refine ⟨_, g5, ?_, ?_, ?_, fun cut hc => ?_⟩
        · simp [Vl.ok, intV]
        · unfold Vl.rng intV; cases neg <;> simp at g3 ⊢ <;> omega
        · rw [hs, ← itoa_dval neg hd g1 g2]; simp [litL, intV]
        · rw [hs] at hc ⊢
          cases neg with
          | true =>
            rcases cut with _ | cut
            · right; rfl
            · have e : (numT true ds).take (cut + 1) = numT true (ds.take cut) := by simp [numT]
              rw [e, parse_num true (fun c hc => hd c (List.mem_of_mem_take hc)) (.inl rfl)]
              rcases cut with _ | cut
              · right; simp [numE, numT]
              · left
                rw [numE_of]
                · rfl
                · intro e; have := congrArg List.length e; rw [List.length_take, List.length_nil] at this; simp [numT] at hc; omega
                · intro e; rw [head_take (by omega)] at e; exact absurd (g2 e).1 (by decide)
                · have := dval_take ds (cut + 1) 0; simp at g3 ⊢; omega
                · unfold numT; simp only [if_true, List.length_cons]; omega
          | false =>
            rcases cut with _ | cut
            · right; rfl
            · have e : (numT false ds).take (cut + 1) = numT false (ds.take (cut + 1)) := by simp [numT]
              have hne : ds.take (cut + 1) ≠ [] := by intro e; have := congrArg List.length e; rw [List.length_take, List.length_nil] at this; simp [numT] at hc; omega
              rw [e, parse_num false (fun c hc => hd c (List.mem_of_mem_take hc)) (.inr hne)]
              left
              rw [numE_of hne]
              · rfl
              · intro e; rw [head_take (by omega)] at e; have := (g2 e).2; simp [numT] at hc; omega
              · have := dval_take ds (cut + 1) 0; simp at g3 ⊢; omega
              · unfold numT; simp only [Bool.false_eq_true, if_false]; omega
      · have hp : parseL (c :: r) = wantL (c :: r) noneT 0 := by simp only [parseL]; rw [if_neg h1, if_neg h2]
        rw [hp] at h ⊢
        have hs : c :: r = noneT := want_good _ _ _ h
        rw [hs]
        refine ⟨vl0, rfl, rfl, ⟨by decide, by decide⟩, rfl, fun cut hc => .inr ?_⟩
        rcases cut with _ | _ | _ | _ | cut
        · rfl
        · rfl
        · rfl
        · rfl
        · exfalso; have h4 : noneT.length = 4 := rfl; omega
/-- what Number says -/
def numR (p : Pz) : Int × Bool := (p.v.n, decide (p.e = 0 ∧ p.v.k = 1))
end Go.Proofs.YtdmogoaaecdbaaaGreatDoor

namespace Go.Proofs.YtdmogoaaecdbaaaGreatDoor
open Go
set_option linter.unusedVariables false
set_option linter.unusedSimpArgs false

/-! the order of keys -/
theorem less_cmp : ∀ a b : List UInt8, Op.bytesLess a b = decide (Lib.compareBytes a b = -1) := by
  intro a
  induction a with
  | nil => intro b; cases b <;> simp [Op.bytesLess, Lib.compareBytes]
  | cons x l ih =>
    intro b
    cases b with
    | nil => simp [Op.bytesLess, Lib.compareBytes]
    | cons y m =>
      unfold Op.bytesLess Lib.compareBytes
      by_cases h1 : x < y
      · simp [h1]
      · by_cases h2 : y < x
        · have : x ≠ y := by rintro rfl; exact UInt8.lt_irrefl _ h2
          simp [h1, h2, this]
        · have : x = y := UInt8.le_antisymm (UInt8.not_lt.1 h2) (UInt8.not_lt.1 h1)
          subst this
          simp only [h1, decide_false, Bool.false_or, if_false, BEq.rfl, Bool.true_and, ih]
def ltB (a b : ByteArray) : Bool := Op.bytesLess a.toList b.toList
theorem ltB_iff (a b : ByteArray) : ltB a b = true ↔ Lib.compareBytes a.toList b.toList = -1 := by unfold ltB; rw [less_cmp]; simp
theorem ltB_irrefl (a : ByteArray) : ltB a a = false := by
  cases h : ltB a a with
  | false => rfl
  | true => rw [ltB_iff, (ord_bytes.zero _ _).2 rfl] at h; cases h
theorem ltB_trans {a b c : ByteArray} (h1 : ltB a b = true) (h2 : ltB b c = true) : ltB a c = true := by
  rw [ltB_iff] at *; exact ord_bytes.trans _ _ _ h1 h2
theorem ltB_tri {a b : ByteArray} (h1 : ltB a b = false) (h2 : ltB b a = false) : a = b := by
  have h1' : ¬ ltB a b = true := by rw [h1]; simp
  have h2' : ¬ ltB b a = true := by rw [h2]; simp
  rw [ltB_iff] at h1' h2'
  rw [ord_bytes.anti] at h2'
  apply ba_inj
  rw [← ord_bytes.zero]
  rcases ord_bytes.rng a.toList b.toList with h | h | h
  · exact absurd h h1'
  · exact h
  · exact absurd (by rw [h]) h2'
theorem ltB_asymm {a b : ByteArray} (h1 : ltB a b = true) : ltB b a = false := by
  cases h : ltB b a with
  | false => rfl
  | true => have := ltB_trans h1 h; rw [ltB_irrefl] at this; cases this
theorem ltB_ne {a b : ByteArray} (h1 : ltB a b = true) : a ≠ b := by rintro rfl; rw [ltB_irrefl] at h1; cases h1
/-! keys -/
def keyB (c : UInt8) : Bool := (decide (97 ≤ c.toNat) && decide (c.toNat ≤ 122)) || (decide (48 ≤ c.toNat) && decide (c.toNat ≤ 57)) || decide (c.toNat = 47) || decide (c.toNat = 58) || decide (c.toNat = 46) || decide (c.toNat = 95) || decide (c.toNat = 45)
def validK (k : ByteArray) : Bool := k.toList.all keyB && decide (1 ≤ k.size) && decide (k.size ≤ 32)
def hashL : Nat → List UInt8 → Nat
  | h, [] => h
  | h, c :: r => hashL ((h ^^^ c.toNat) * 1099511628211 % 18446744073709551616) r
def hash0 (k : ByteArray) : Nat := hashL 14695981039346656037 k.toList
def partK (n : Nat) (k : ByteArray) : Nat := hash0 k % n
/-! lists of keys with values -/
abbrev Kv := ByteArray × Vl
def Asc (L : List Kv) : Prop := L.Pairwise fun x y => ltB x.1 y.1 = true
def hasK (k : ByteArray) (L : List Kv) : Bool := L.any fun x => decide (x.1 = k)
def valK (k : ByteArray) : List Kv → Vl
  | [] => vl0
  | x :: l => if x.1 = k then x.2 else valK k l
def insK (k : ByteArray) : List Kv → List Kv
  | [] => [(k, vl0)]
  | x :: l => if ltB x.1 k then x :: insK k l else if x.1 = k then x :: l else (k, vl0) :: x :: l
def cntP (n p : Nat) (L : List Kv) : Nat := L.countP fun x => decide (partK n x.1 = p)
section
variable {L : List Kv} {k j : ByteArray} {v : Vl} {n p : Nat}
theorem hasK_cons (x : Kv) (L : List Kv) (k : ByteArray) : hasK k (x :: L) = (decide (x.1 = k) || hasK k L) := rfl
theorem hasK_mem : hasK k L = true ↔ ∃ x ∈ L, x.1 = k := by simp [hasK]
theorem hasK_asc {x : Kv} (h : Asc (x :: L)) (hk : ltB x.1 k = false) : x.1 = k ∨ hasK k (x :: L) = false := by
  by_cases e : x.1 = k
  · exact .inl e
  · right
    cases hh : hasK k (x :: L) with
    | false => rfl
    | true =>
      obtain ⟨y, hy, rfl⟩ := hasK_mem.1 hh
      rcases List.mem_cons.1 hy with rfl | hy
      · exact absurd rfl e
      · have := (List.pairwise_cons.1 h).1 y hy
        rw [this] at hk; cases hk
theorem hasK_ins : ∀ {L : List Kv}, hasK j (insK k L) = (decide (k = j) || hasK j L) := by
  intro L
  induction L with
  | nil => simp [insK, hasK]
  | cons x l ih =>
    unfold insK
    split
    · rw [hasK_cons, ih, hasK_cons]; simp [Bool.or_left_comm]
    · split
      · rename_i h; rw [hasK_cons, h]; simp
      · rw [hasK_cons]
theorem ins_mem : ∀ {L : List Kv} {x : Kv}, x ∈ insK k L → x = (k, vl0) ∨ x ∈ L := by
  intro L
  induction L with
  | nil => intro x h; simp [insK] at h; exact .inl h
  | cons y l ih =>
    intro x h
    unfold insK at h
    split at h
    · rcases List.mem_cons.1 h with rfl | h
      · exact .inr (List.mem_cons_self ..)
      · exact (ih h).imp id (List.mem_cons_of_mem _)
    · split at h
      · exact .inr h
      · rcases List.mem_cons.1 h with rfl | h
        · exact .inl rfl
        · exact .inr h
theorem ins_asc : ∀ {L : List Kv}, Asc L → Asc (insK k L) := by
  intro L
  induction L with
  | nil => intro _; simp [insK, Asc]
  | cons x l ih =>
    intro h
    have h' := List.pairwise_cons.1 h
    unfold insK
    split
    · rename_i hk
      refine List.pairwise_cons.2 ⟨fun y hy => ?_, ih h'.2⟩
      rcases ins_mem hy with rfl | hy
      · exact hk
      · exact h'.1 y hy
    · split
      · exact h
      · rename_i h1 h2
        have h3 : ltB k x.1 = true := by
          cases e : ltB k x.1 with
          | true => rfl
          | false => exact absurd (ltB_tri (by simpa using h1) e) h2
        refine List.pairwise_cons.2 ⟨fun y hy => ?_, h⟩
        rcases List.mem_cons.1 hy with rfl | hy
        · exact h3
        · exact ltB_trans h3 (h'.1 y hy)
theorem valK_none : ∀ {L : List Kv}, hasK k L = false → valK k L = vl0 := by
  intro L
  induction L with
  | nil => intro _; rfl
  | cons x l ih =>
    intro h
    rw [hasK_cons] at h
    simp at h
    unfold valK
    rw [if_neg h.1]
    exact ih h.2
theorem valK_ins : ∀ {L : List Kv}, Asc L → valK j (insK k L) = valK j L := by
  intro L
  induction L with
  | nil => intro _; unfold insK valK; split <;> simp [valK]
  | cons x l ih =>
    intro h
    have h' := List.pairwise_cons.1 h
    unfold insK
    split
    · rw [valK, valK, ih h'.2]
    · split
      · rfl
      · rename_i h1 h2
        rw [valK]
        split
        · rename_i e
          simp only at e
          subst e
          rcases hasK_asc h (by simpa using h1) with e | e
          · exact absurd e h2
          · exact (valK_none e).symm
        · rfl
/-- where a key stands, or would stand -/
def posK (k : ByteArray) (L : List Kv) : Nat := L.countP fun x => ltB x.1 k
theorem pos_t {x : Kv} {L : List Kv} {k : ByteArray} (h : ltB x.1 k = true) : posK k (x :: L) = posK k L + 1 := List.countP_cons_of_pos (p := fun x : Kv => ltB x.1 k) h
theorem pos_f {x : Kv} {L : List Kv} {k : ByteArray} (h : ¬ ltB x.1 k = true) : posK k (x :: L) = posK k L := List.countP_cons_of_neg (p := fun x : Kv => ltB x.1 k) h
theorem pos_z {l : List Kv} {x : Kv} {k : ByteArray} (h : ∀ y ∈ l, ltB x.1 y.1 = true) (h1 : ¬ ltB x.1 k = true) : posK k l = 0 := List.countP_eq_zero.2 fun y hy e => h1 (ltB_trans (h y hy) e)
theorem posK_le : posK k L ≤ L.length := List.countP_le_length
theorem ins_split : ∀ {L : List Kv}, Asc L → hasK k L = false → insK k L = L.take (posK k L) ++ [(k, vl0)] ++ L.drop (posK k L) := by
  intro L
  induction L with
  | nil => intro _ _; rfl
  | cons x l ih =>
    intro h hk
    have h' := List.pairwise_cons.1 h
    rw [hasK_cons] at hk
    simp only [Bool.or_eq_false_iff, decide_eq_false_iff_not] at hk
    unfold insK
    by_cases h1 : ltB x.1 k = true
    · rw [if_pos h1, ih h'.2 hk.2, pos_t h1]
      simp
    · have hz := pos_z h'.1 h1
      rw [if_neg h1, if_neg hk.1, pos_f h1, hz]
      simp
theorem pos_get : ∀ {L : List Kv}, Asc L → hasK k L = true → ∃ x, L[posK k L]? = some x ∧ x.1 = k ∧ x.2 = valK k L := by
  intro L
  induction L with
  | nil => intro _ h; cases h
  | cons x l ih =>
    intro h hk
    have h' := List.pairwise_cons.1 h
    rw [hasK_cons] at hk
    by_cases h1 : ltB x.1 k = true
    · have hne := ltB_ne h1
      simp [hne] at hk
      obtain ⟨y, e1, e2, e3⟩ := ih h'.2 hk
      rw [pos_t h1]
      exact ⟨y, by simpa using e1, e2, by rw [valK, if_neg hne]; exact e3⟩
    · have hx : x.1 = k := by
        rcases hasK_asc h (by simpa using h1) with e | e
        · exact e
        · rw [hasK_cons] at e; rw [e] at hk; cases hk
      have hz := pos_z h'.1 h1
      rw [pos_f h1, hz]
      exact ⟨x, rfl, hx, by rw [valK, if_pos hx]⟩
theorem pos_lt : ∀ {L : List Kv}, Asc L → ∀ i x, L[i]? = some x → (ltB x.1 k = true ↔ i < posK k L) := by
  intro L
  induction L with
  | nil => intro _ i x h; simp at h
  | cons y l ih =>
    intro h i x hx
    have h' := List.pairwise_cons.1 h
    by_cases h1 : ltB y.1 k = true
    · rw [pos_t h1]
      cases i with
      | zero => simp at hx; subst hx; simp [h1]
      | succ i =>
        simp at hx
        have := ih h'.2 i x hx
        rw [this]; omega
    · have hz := pos_z h'.1 h1
      rw [pos_f h1, hz]
      cases i with
      | zero => simp at hx; subst hx; simp [h1]
      | succ i =>
        simp at hx
        have hm := List.mem_of_getElem? hx
        have : ¬ ltB x.1 k = true := fun e => h1 (ltB_trans (h'.1 x hm) e)
        simp [this]
theorem valK_mem {x : Kv} : ∀ {L : List Kv}, Asc L → x ∈ L → valK x.1 L = x.2 := by
  intro L
  induction L with
  | nil => intro _ h; cases h
  | cons y l ih =>
    intro h hx
    have h' := List.pairwise_cons.1 h
    unfold valK
    rcases List.mem_cons.1 hx with rfl | hx
    · rw [if_pos rfl]
    · rw [if_neg (ltB_ne (h'.1 x hx)), ih h'.2 hx]
theorem asc_nodup (h : Asc L) : (L.map (·.1)).Nodup := by
  unfold Asc at h
  rw [List.nodup_iff_pairwise_ne, List.pairwise_map]
  exact h.imp fun h => ltB_ne h
/-- two rising lists that have the same are one -/
theorem asc_eq {L M : List Kv} (hL : Asc L) (hM : Asc M) (h : L.Perm M) : L = M :=
  h.eq_of_pairwise (fun a b _ _ h1 h2 => by rw [ltB_asymm h1] at h2; cases h2) hL hM
end
/-! stores -/
structure St where
  parts : Nat
  room : Nat
  L : List Kv
/-- a write -/
structure Wr where
  key : ByteArray
  gone : Bool
  v : Vl
def insAll (L : List Kv) (ks : List ByteArray) : List Kv := ks.foldl (fun L k => insK k L) L
/-- what always holds -/
structure St.Ok (s : St) : Prop where
  parts : 1 ≤ s.parts ∧ s.parts ≤ 64
  room : 1 ≤ s.room ∧ s.room ≤ 4096
  asc : Asc s.L
  key : ∀ x ∈ s.L, validK x.1 = true
  val : ∀ x ∈ s.L, x.2.ok = true
  cnt : ∀ p, p < s.parts → cntP s.parts p s.L ≤ s.room
section
variable {s : St} {ks : List ByteArray} {ws : List Wr}
theorem insAll_asc : ∀ {ks : List ByteArray} {L : List Kv}, Asc L → Asc (insAll L ks) := by
  intro ks
  induction ks with
  | nil => intro L h; exact h
  | cons k ks ih => intro L h; exact ih (ins_asc h)
theorem insAll_has {j : ByteArray} : ∀ {ks : List ByteArray} {L : List Kv}, hasK j (insAll L ks) = (ks.any (fun k => decide (k = j)) || hasK j L) := by
  intro ks
  induction ks with
  | nil => intro L; simp [insAll]
  | cons k ks ih =>
    intro L
    show hasK j (insAll (insK k L) ks) = _
    rw [ih, hasK_ins, List.any_cons]
    cases decide (k = j) <;> cases ks.any (fun k => decide (k = j)) <;> simp
theorem insAll_val {j : ByteArray} : ∀ {ks : List ByteArray} {L : List Kv}, Asc L → valK j (insAll L ks) = valK j L := by
  intro ks
  induction ks with
  | nil => intro L _; rfl
  | cons k ks ih => intro L h; exact (ih (ins_asc h)).trans (valK_ins h)
theorem scan_zero (f : Nat → Int) : ∀ (n i : Nat), (scan f n i).1 = 0 ↔ ∀ j, i ≤ j → j < i + n → f j = 0 := by
  intro n
  induction n with
  | zero => intro i; simp [scan]; intro j h1 h2; omega
  | succ n ih =>
    intro i
    unfold scan
    by_cases h : f i = 0
    · rw [if_pos h, ih]
      exact ⟨fun h1 j h2 h3 => by by_cases e : j = i; · rw [e]; exact h
                                  · exact h1 j (by omega) (by omega), fun h1 j h2 h3 => h1 j (by omega) (by omega)⟩
    · rw [if_neg h]
      exact ⟨fun h1 => absurd h1 h, fun h1 => h1 i (by omega) (by omega)⟩
end
end Go.Proofs.YtdmogoaaecdbaaaGreatDoor

namespace Go.Proofs.YtdmogoaaecdbaaaGreatDoor
open Go
set_option linter.unusedVariables false
set_option linter.unusedSimpArgs false

/-- a run under way: the stack has its top ahead -/
structure Mc where
  st : List Vl
  at_ : Nat
  fuel : Nat
  steps : List Nat
  out : List Vl
  reads : List ByteArray
  writes : List Wr
abbrev Er := Int × Int
abbrev Rs := Except Er
def truV (b : Bool) : Vl := if b then ⟨1, 1, ⟨#[]⟩⟩ else ⟨1, 0, ⟨#[]⟩⟩
def numVl (n : Int) : Vl := ⟨1, n, ⟨#[]⟩⟩
def wrdV (s : ByteArray) : Vl := ⟨2, 0, s⟩
def digS (n : Int) : ByteArray := ⟨(Lib.itoa n).toArray⟩
def minI : Int := -9223372036854775808
def inR (n : Int) : Bool := decide (-9223372036854775808 ≤ n) && decide (n ≤ 9223372036854775807)
def memB (k : ByteArray) (l : List ByteArray) : Bool := l.any fun j => decide (j = k)
theorem memB_iff {k : ByteArray} {l : List ByteArray} : memB k l = true ↔ k ∈ l := by
  unfold memB
  rw [List.any_eq_true]
  constructor
  · rintro ⟨j, hj, e⟩; rw [← of_decide_eq_true e]; exact hj
  · intro h; exact ⟨k, h, by simp⟩
def uniqA (a : List ByteArray) : List ByteArray → List ByteArray
  | [] => a
  | k :: l => uniqA (if memB k a then a else a ++ [k]) l
def uniq (l : List ByteArray) : List ByteArray := uniqA [] l
def hasW (k : ByteArray) (ws : List Wr) : Bool := ws.any fun x => decide (x.key = k)
def getW (k : ByteArray) (ws : List Wr) : Option Wr := ws.find? fun x => decide (x.key = k)
def putW (x : Wr) : List Wr → List Wr
  | [] => [x]
  | y :: l => if y.key = x.key then x :: l else y :: putW x l
def cntRW (rs : List ByteArray) (ws : List Wr) : Nat := (uniq rs).length + ((ws.map (·.key)).filter fun k => !memB k rs).length
def roomB (m : Mc) (k : ByteArray) : Bool := memB k m.reads || hasW k m.writes || decide (cntRW m.reads m.writes < 64)
def srcV (src : List Kv) (k : ByteArray) : Vl := match src.find? fun x => decide (x.1 = k) with | some x => if x.2.ok then x.2 else vl0 | none => vl0
def Mc.load (src : List Kv) (m : Mc) (k : ByteArray) : Rs (Vl × Mc) :=
  match getW k m.writes with
  | some x => .ok (x.v, m)
  | none => if roomB m k = true then .ok (srcV src k, { m with reads := m.reads ++ [k] }) else .error (78, 0)
def Mc.write (m : Mc) (x : Wr) : Rs Mc :=
  if roomB m x.key = false then .error (78, 0)
  else if hasW x.key m.writes = false ∧ 32 ≤ m.writes.length then .error (77, 0)
  else .ok { m with writes := putW x m.writes }
def keyE (v : Vl) : Int := if v.k ≠ 2 then 72 else if validK v.s = false then 30 else 0
def arithP (op b a : Int) : Except Int Int :=
  if op = 7 then (if inR (b + a) then .ok (b + a) else .error 70)
  else if op = 8 then (if inR (b - a) then .ok (b - a) else .error 70)
  else if op = 9 then (if inR (b * a) then .ok (b * a) else .error 70)
  else if a = 0 then .error 71
  else if op = 11 then .ok (b.tmod a)
  else if b = minI ∧ a = -1 then .error 70
  else .ok (b.tdiv a)
def twoP (op : Int) (m : Mc) (a b : Vl) (r : List Vl) : Rs Mc :=
  if op = 13 then .ok { m with st := truV (decide (a = b)) :: r }
  else if op = 14 then .ok { m with st := truV (decide (Vl.cmp b a < 0)) :: r }
  else if op = 24 then (if a.k = 2 ∧ b.k = 2 then (if b.s.size + a.s.size ≤ 64 then .ok { m with st := wrdV (b.s ++ a.s) :: r } else .error (1, 0)) else .error (72, 0))
  else if op = 22 then (if b.k = 2 ∧ a.k ≠ 0 then (if validK b.s = false then .error (30, 0) else ({ m with st := r } : Mc).write ⟨b.s, false, a⟩) else .error (72, 0))
  else if a.k = 1 ∧ b.k = 1 then (
    if op = 16 then .ok { m with st := truV (decide (a.n ≠ 0 ∧ b.n ≠ 0)) :: r }
    else if op = 17 then .ok { m with st := truV (decide (a.n ≠ 0 ∨ b.n ≠ 0)) :: r }
    else match arithP op b.n a.n with
      | .ok n => .ok { m with st := numVl n :: r }
      | .error e => .error (e, 0))
  else .error (72, 0)
def oneP (op : Int) (src : List Kv) (m : Mc) (a : Vl) (r : List Vl) : Rs Mc :=
  if op = 12 then (if a.k = 1 then (if a.n = minI then .error (70, 0) else .ok { m with st := numVl (-a.n) :: r }) else .error (72, 0))
  else if op = 15 then (if a.k = 1 then .ok { m with st := truV (decide (a.n = 0)) :: r } else .error (72, 0))
  else if op = 20 then (if keyE a ≠ 0 then .error (keyE a, 0) else match m.load src a.s with
    | .ok (v, m') => .ok { m' with st := v :: r }
    | .error e => .error e)
  else if op = 21 then (if keyE a ≠ 0 then .error (keyE a, 0) else match m.load src a.s with
    | .ok (v, m') => .ok { m' with st := truV (decide (v.k ≠ 0)) :: r }
    | .error e => .error e)
  else if op = 23 then (if keyE a ≠ 0 then .error (keyE a, 0) else ({ m with st := r } : Mc).write ⟨a.s, true, vl0⟩)
  else if op = 25 then (if a.k = 1 then .ok { m with st := wrdV (digS a.n) :: r } else .error (72, 0))
  else if op = 26 then (if a.k = 2 then (if (numR (parseL a.s.data.toList)).2 then .ok { m with st := numVl (numR (parseL a.s.data.toList)).1 :: r } else .error (74, 0)) else .error (72, 0))
  else if op = 27 then (if a.k = 2 then .ok { m with st := numVl a.s.size :: r } else .error (72, 0))
  else if op = 28 then .ok { m with st := truV (decide (a.k = 0)) :: r }
  else if op = 29 then (if a.k = 0 then .error (72, 0) else if 16 ≤ m.out.length then .error (75, 0) else .ok { m with st := r, out := m.out ++ [a] })
  else if a.k = 1 then (if 1 ≤ a.n ∧ a.n ≤ 999 then .error (76, a.n) else .error (2, 0)) else .error (72, 0)
/-- an instruction that is no end, its place aside -/
def movP (p : Pr) (args : List Vl) (m : Mc) (i : Is) : Mc :=
  if i.op = 1 then { m with st := p.cs.getD i.n.toNat vl0 :: m.st }
  else if i.op = 2 then { m with st := args.getD i.n.toNat vl0 :: m.st }
  else if i.op = 3 then { m with st := m.st.headD vl0 :: m.st }
  else if i.op = 4 then { m with st := m.st.tail }
  else if i.op = 5 then (match m.st with | a :: b :: r => { m with st := b :: a :: r } | _ => m)
  else { m with st := m.st.getD 1 vl0 :: m.st }
def onP (p : Pr) (args : List Vl) (src : List Kv) (m : Mc) (i : Is) : Rs Mc :=
  if i.op ≤ 6 then .ok { movP p args m i with at_ := m.at_ + 1 }
  else if i.op = 18 then .ok { m with at_ := i.n.toNat }
  else if i.op = 19 then (match m.st with
    | a :: r => if a.k = 1 then .ok { m with st := r, at_ := if a.n = 0 then i.n.toNat else m.at_ + 1 } else .error (72, 0)
    | [] => .error (72, 0))
  else if takes i.op = 2 then (match m.st with
    | a :: b :: r => (twoP i.op m a b r).map fun m' => { m' with at_ := m.at_ + 1 }
    | _ => .error (72, 0))
  else (match m.st with
    | a :: r => (oneP i.op src m a r).map fun m' => { m' with at_ := m.at_ + 1 }
    | _ => .error (72, 0))
/-- behind the count of an instruction -/
def Mc.tick (m : Mc) : Mc := { m with fuel := m.fuel - 1, steps := m.steps ++ [m.at_] }
/-- one instruction: the run ends with a code, or goes on -/
def stepP (p : Pr) (args : List Vl) (src : List Kv) (m : Mc) : (Er × Mc) ⊕ Mc :=
  if m.fuel = 0 then .inl ((73, 0), m)
  else if (p.code.getD m.at_ is0).op = 31 then .inl ((0, 0), m.tick)
  else match onP p args src m.tick (p.code.getD m.at_ is0) with
    | .ok m' => .inr m'
    | .error e => .inl (e, m.tick)
def runP (p : Pr) (args : List Vl) (src : List Kv) : Nat → Mc → Er × Mc
  | 0, m => ((73, 0), m)
  | n + 1, m => match stepP p args src m with
    | .inl r => r
    | .inr m' => runP p args src n m'
def mc0 (fuel : Nat) : Mc := ⟨[], 0, fuel, [], [], [], []⟩
theorem uniqA_mem : ∀ {l a : List ByteArray} {k : ByteArray}, k ∈ uniqA a l ↔ k ∈ a ∨ k ∈ l
  | [], a, k => by simp [uniqA]
  | x :: l, a, k => by
    unfold uniqA
    rw [uniqA_mem]
    split
    · rename_i h
      have h := memB_iff.1 h
      simp only [List.mem_cons]
      constructor
      · rintro (h1 | h1)
        · exact .inl h1
        · exact .inr (.inr h1)
      · rintro (h1 | rfl | h1)
        · exact .inl h1
        · exact .inl h
        · exact .inr h1
    · simp only [List.mem_append, List.mem_singleton, List.mem_cons, List.not_mem_nil, false_or, or_assoc]
theorem uniq_mem {l : List ByteArray} {k : ByteArray} : k ∈ uniq l ↔ k ∈ l := by unfold uniq; rw [uniqA_mem]; simp
theorem uniqA_nodup : ∀ {l a : List ByteArray}, a.Nodup → (uniqA a l).Nodup
  | [], a, h => h
  | x :: l, a, h => by
    unfold uniqA
    refine uniqA_nodup ?_
    split
    · exact h
    · rename_i hx
      rw [List.nodup_append]
      exact ⟨h, by simp, fun y hy z hz => by rw [List.mem_singleton.1 hz]; rintro rfl; exact hx (memB_iff.2 hy)⟩
theorem uniq_nodup (l : List ByteArray) : (uniq l).Nodup := uniqA_nodup List.nodup_nil
theorem getW_some {k : ByteArray} {ws : List Wr} {x : Wr} (h : getW k ws = some x) : x ∈ ws ∧ x.key = k := by
  unfold getW at h
  exact ⟨List.mem_of_find?_eq_some h, by have := List.find?_some h; simpa using this⟩
theorem getW_none {k : ByteArray} {ws : List Wr} : getW k ws = none ↔ hasW k ws = false := by
  unfold getW hasW
  rw [List.find?_eq_none, List.any_eq_false]
theorem hasW_mem {k : ByteArray} {ws : List Wr} : hasW k ws = true ↔ k ∈ ws.map (·.key) := by
  unfold hasW
  rw [List.any_eq_true, List.mem_map]
  constructor
  · rintro ⟨x, h, e⟩; exact ⟨x, h, of_decide_eq_true e⟩
  · rintro ⟨x, h, e⟩; exact ⟨x, h, by simpa using e⟩
theorem putW_mem {x y : Wr} : ∀ {ws : List Wr}, y ∈ putW x ws → y = x ∨ y ∈ ws
  | [], h => by simp [putW] at h; exact .inl h
  | z :: l, h => by
    unfold putW at h
    split at h
    · rcases List.mem_cons.1 h with h | h
      · exact .inl h
      · exact .inr (List.mem_cons_of_mem _ h)
    · rcases List.mem_cons.1 h with h | h
      · exact .inr (h ▸ List.mem_cons_self ..)
      · exact (putW_mem h).imp id (List.mem_cons_of_mem _)
theorem putW_keys {x : Wr} : ∀ {ws : List Wr}, (putW x ws).map (·.key) = if hasW x.key ws = true then ws.map (·.key) else ws.map (·.key) ++ [x.key]
  | [] => by simp [putW, hasW]
  | z :: l => by
    unfold putW
    by_cases e : z.key = x.key
    · rw [if_pos e]
      have : hasW x.key (z :: l) = true := by unfold hasW; simp [e]
      rw [if_pos this]; simp [e]
    · rw [if_neg e, List.map_cons, putW_keys]
      have : hasW x.key (z :: l) = hasW x.key l := by unfold hasW; simp [e]
      rw [this]
      split <;> simp
theorem putW_nodup {x : Wr} {ws : List Wr} (h : (ws.map (·.key)).Nodup) : ((putW x ws).map (·.key)).Nodup := by
  rw [putW_keys]
  split
  · exact h
  · rename_i hx
    rw [List.nodup_append]
    refine ⟨h, by simp, fun y hy z hz => ?_⟩
    rw [List.mem_singleton.1 hz]
    rintro rfl
    exact hx (hasW_mem.2 hy)
theorem putW_len {x : Wr} {ws : List Wr} : (putW x ws).length = if hasW x.key ws = true then ws.length else ws.length + 1 := by
  have h := congrArg List.length (putW_keys (x := x) (ws := ws))
  rw [List.length_map] at h
  rw [h]
  split <;> simp
theorem getW_put {x : Wr} {k : ByteArray} : ∀ {ws : List Wr}, getW k (putW x ws) = if k = x.key then some x else getW k ws
  | [] => by
    unfold putW getW
    by_cases e : k = x.key
    · simp [e]
    · have e3 : ¬ x.key = k := fun h => e h.symm
      simp [e3, e]
  | z :: l => by
    unfold putW
    by_cases e : z.key = x.key
    · rw [if_pos e]
      unfold getW
      by_cases e2 : k = x.key
      · simp [e2]
      · have : ¬ x.key = k := fun h => e2 h.symm
        have h3 : ¬ z.key = k := fun h => e2 (h.symm.trans e)
        simp [this, h3, e2]
    · rw [if_neg e]
      have ih := getW_put (x := x) (k := k) (ws := l)
      unfold getW at ih ⊢
      by_cases e2 : z.key = k
      · have : ¬ k = x.key := fun h => e (e2.trans h)
        simp [e2, this]
      · simp only [List.find?_cons, e2, decide_false]
        exact ih
end Go.Proofs.YtdmogoaaecdbaaaGreatDoor

namespace Go.Proofs.YtdmogoaaecdbaaaGreatDoor
open Go.RowKit

/-- how the keys of a map's key type lie in memory -/
structure KeyEnc (P : Program) (k : TypeId) (κ : Type) [DecidableEq κ] where
  enc : κ → Value
  desc : TypeDesc
  under : P.underlying k = some desc
  eq : ∀ (a b : κ) (w : World), (Op.equal k (enc a) (enc b)).run P w = .ok (decide (a = b)) w
  check : ∀ (em : Bool) (a : κ) (w : World), (Instr.checkKey em 10000 k (enc a)).run P w = .ok () w
  now : ∀ a b : κ, Instr.sameNow desc (enc a) (enc b) = none ∨ Instr.sameNow desc (enc a) (enc b) = some (decide (a = b))
  bits : ∀ a : κ, Instr.sameBits 10000 (enc a) (enc a) = true

section
variable {P : Program} {k : TypeId} {κ : Type} [DecidableEq κ] (E : KeyEnc P k κ)

/-- the first entry of a key: its place and value -/
def look (x : κ) : List (κ × Value) → Nat → Option (Nat × Value)
  | [], _ => none
  | p :: l, i => if x = p.1 then some (i, p.2) else look x l (i + 1)
def getK (x : κ) (l : List (κ × Value)) : Option Value := (look x l 0).map (·.2)
def setK (x : κ) (v : Value) : List (κ × Value) → List (κ × Value)
  | [] => [(x, v)]
  | p :: l => if x = p.1 then (x, v) :: l else p :: setK x v l
def delK (x : κ) : List (κ × Value) → List (κ × Value)
  | [] => []
  | p :: l => if x = p.1 then l else p :: delK x l

def pairs (es : List MapEntry) : List (Value × Value) := es.map fun e => (e.key, e.val)
def encs (l : List (κ × Value)) : List (Value × Value) := l.map fun p => (E.enc p.1, p.2)

theorem findNow_ok (x : κ) : ∀ (es : List MapEntry) (l : List (κ × Value)) (i : Nat), pairs es = encs E l → ∀ r, Instr.findNow E.desc (E.enc x) es i = some r → r = look x l i := by
  intro es
  induction es with
  | nil =>
    intro l i h r hr
    cases l with
    | nil => simp [Instr.findNow] at hr; simp [look, hr]
    | cons p l => simp [pairs, encs] at h
  | cons e es ih =>
    intro l i h r hr
    cases l with
    | nil => simp [pairs, encs] at h
    | cons p l =>
      simp only [pairs, encs, List.map_cons, List.cons.injEq, Prod.mk.injEq] at h
      obtain ⟨⟨hk, hv⟩, ht⟩ := h
      simp only [Instr.findNow, hk] at hr
      rcases E.now x p.1 with hn | hn
      · rw [hn] at hr; simp at hr
      · rw [hn] at hr
        by_cases hx : x = p.1
        · subst hx
          simp at hr
          simp [look, ← hr, hv]
        · simp only [hx, decide_false] at hr
          simp only [look, if_neg hx]
          exact ih l (i + 1) ht r hr
theorem findAsking_ok (x : κ) (w : World) : ∀ (es : List MapEntry) (l : List (κ × Value)) (i : Nat), pairs es = encs E l → (Instr.findAsking k (E.enc x) es i).run P w = .ok (look x l i) w := by
  intro es
  induction es with
  | nil =>
    intro l i h
    cases l with
    | nil => simp [Instr.findAsking, look]
    | cons p l => simp [pairs, encs] at h
  | cons e es ih =>
    intro l i h
    cases l with
    | nil => simp [pairs, encs] at h
    | cons p l =>
      simp only [pairs, encs, List.map_cons, List.cons.injEq, Prod.mk.injEq] at h
      obtain ⟨⟨hk, hv⟩, ht⟩ := h
      simp only [Instr.findAsking, Sem.run_bind, hk, E.eq, Result.andThen_ok]
      by_cases hx : x = p.1
      · subst hx; simp [look, hv]
      · simp only [hx, decide_false, look]
        simpa using ih l (i + 1) ht
theorem findKey_ok (x : κ) (w : World) (es : List MapEntry) (l : List (κ × Value)) (h : pairs es = encs E l) : (Instr.findKey k (E.enc x) es).run P w = .ok (look x l 0) w := by
  simp only [Instr.findKey, Sem.run_bind, run_underlying E.under, Result.andThen_ok]
  cases hf : Instr.findNow E.desc (E.enc x) es 0 with
  | none => exact findAsking_ok E x w es l 0 h
  | some r => rw [findNow_ok E x es l 0 h r hf]; simp

/-- block b is a map that holds just l -/
def MapIs (w : World) (b : Nat) (l : List (κ × Value)) : Prop := ∃ es clock, w.heap[b]? = some (.map es clock) ∧ pairs es.toList = encs E l ∧ MapKept.Stamped es clock

variable {E}
theorem MapIs.lt {w : World} {b : Nat} {l : List (κ × Value)} (h : MapIs E w b l) : b < w.heap.size := by
  obtain ⟨es, c, h, _⟩ := h
  exact (Array.getElem?_eq_some_iff.1 h).1
theorem MapIs.keep {w w' : World} {b : Nat} {l : List (κ × Value)} (h : MapIs E w b l) (hb : w'.heap[b]? = w.heap[b]?) : MapIs E w' b l := by
  obtain ⟨es, c, h, h2⟩ := h
  exact ⟨es, c, hb.trans h, h2⟩
theorem MapIs.new (w : World) : MapIs E (w.alloc (.map #[] 0)) w.heap.size [] := ⟨#[], 0, heap_alloc_new w _, rfl, MapKept.stamped_empty _⟩
/-- a map and a row of cells are two -/
theorem MapIs.ne_blk {w : World} {b g : Nat} {l : List (κ × Value)} {t : TypeId} {cs : Array Value} (h : MapIs E w b l) (hb : Blk w g t cs) : b ≠ g := by
  rintro rfl
  obtain ⟨es, c, h, _⟩ := h
  unfold Blk at hb
  rw [h] at hb
  cases hb

theorem MapIs.size {w : World} {b : Nat} {l : List (κ × Value)} (h : MapIs E w b l) : ∃ es clock, w.heap[b]? = some (.map es clock) ∧ es.size = l.length := by
  obtain ⟨es, c, h, h2, _⟩ := h
  refine ⟨es, c, h, ?_⟩
  have := congrArg List.length h2
  simpa [pairs, encs] using this

/-- 'v, ok := m[k]' -/
theorem MapIs.lookup_ok {w : World} {b : Nat} {l : List (κ × Value)} {t e : TypeId} (h : MapIs E w b l) (ht : P.underlying t = some (.map k e)) {z : Value} (hz : ∀ w, (zeroValue e).run P w = .ok z w) (x : κ) :
    (Instr.lookup t (.map (some b)) (E.enc x) true).run P w = .ok (.tuple #[(getK x l).getD z, .bool (getK x l).isSome]) w := by
  obtain ⟨es, c, h, h2, _⟩ := h
  simp only [Instr.lookup, Sem.run_bind, run_underlying ht, Result.andThen_ok, MapKept.run_getObj_map h, Sem.run_pure, E.check, findKey_ok E x w es.toList l h2]
  cases hl : look x l 0 with
  | none => simp [getK, hl, hz]
  | some r => simp [getK, hl]
/-- 'm[k]' -/
theorem MapIs.lookup {w : World} {b : Nat} {l : List (κ × Value)} {t e : TypeId} (h : MapIs E w b l) (ht : P.underlying t = some (.map k e)) {z : Value} (hz : ∀ w, (zeroValue e).run P w = .ok z w) (x : κ) :
    (Instr.lookup t (.map (some b)) (E.enc x) false).run P w = .ok ((getK x l).getD z) w := by
  obtain ⟨es, c, h, h2, _⟩ := h
  simp only [Instr.lookup, Sem.run_bind, run_underlying ht, Result.andThen_ok, MapKept.run_getObj_map h, Sem.run_pure, E.check, findKey_ok E x w es.toList l h2]
  cases hl : look x l 0 with
  | none => simp [getK, hl, hz]
  | some r => simp [getK, hl]
theorem look_none {x : κ} {v : Value} : ∀ {l : List (κ × Value)} {i : Nat}, look x l i = none → setK x v l = l ++ [(x, v)] ∧ delK x l = l := by
  intro l
  induction l with
  | nil => intro i _; exact ⟨rfl, rfl⟩
  | cons p l ih =>
    intro i h
    by_cases hx : x = p.1
    · simp [look, hx] at h
    · simp only [look, if_neg hx] at h
      obtain ⟨h1, h2⟩ := ih h
      simp [setK, delK, hx, h1, h2]
theorem look_some {x : κ} {v : Value} : ∀ {l : List (κ × Value)} {i j : Nat} {v0 : Value}, look x l i = some (j, v0) → i ≤ j ∧ l[j - i]? = some (x, v0) ∧ setK x v l = l.modify (j - i) (fun _ => (x, v)) ∧ delK x l = l.eraseIdx (j - i) := by
  intro l
  induction l with
  | nil => intro i j v0 h; simp [look] at h
  | cons p l ih =>
    intro i j v0 h
    by_cases hx : x = p.1
    · simp only [look, if_pos hx, Option.some.injEq, Prod.mk.injEq] at h
      obtain ⟨rfl, rfl⟩ := h
      subst hx
      simp [setK, delK]
    · simp only [look, if_neg hx] at h
      obtain ⟨h0, h1, h2, h3⟩ := ih h
      have e : j - i = (j - (i + 1)) + 1 := by omega
      refine ⟨by omega, ?_, ?_, ?_⟩
      · rw [e]; simpa using h1
      · rw [e]; simp [setK, hx, h2]
      · rw [e]; simp [delK, hx, h3]

theorem heap_set_ne (w : World) (b : Nat) (o : Obj) (i : Nat) (hi : i ≠ b) : ({ w with heap := w.heap.setIfInBounds b o } : World).heap[i]? = w.heap[i]? := by
  show (w.heap.setIfInBounds b o)[i]? = _
  rw [Array.getElem?_setIfInBounds_ne (Ne.symm hi)]
theorem heap_set_eq (w : World) (b : Nat) (o : Obj) (hb : b < w.heap.size) : ({ w with heap := w.heap.setIfInBounds b o } : World).heap[b]? = some o := by
  show (w.heap.setIfInBounds b o)[b]? = _
  rw [Array.getElem?_setIfInBounds_self_of_lt hb]
theorem grown_set (w : World) (b : Nat) (o : Obj) : w.grownBy { w with heap := w.heap.setIfInBounds b o } (some b) :=
  ⟨rfl, rfl, rfl, by simp, fun k _ hn => heap_set_ne w b o k (fun e => hn (by rw [e]))⟩

/-- 'm[k] = v' -/
theorem look_none_key {x : κ} : ∀ {l : List (κ × Value)} {i : Nat}, look x l i = none → ∀ p ∈ l, p.1 ≠ x := by
  intro l
  induction l with
  | nil => intro i _ p hp; cases hp
  | cons q l ih =>
    intro i h p hp
    unfold look at h
    by_cases e : x = q.1
    · rw [if_pos e] at h; cases h
    · rw [if_neg e] at h
      rcases List.mem_cons.1 hp with rfl | hp
      · exact fun h => e h.symm
      · exact ih h p hp
theorem KeyEnc.inj (E : KeyEnc P k κ) (w : World) {a b : κ} (h : E.enc a = E.enc b) : a = b := by
  have h1 := E.eq a b w
  have h2 := E.eq b b w
  rw [h, h2] at h1
  injection h1 with h1 _
  simpa using h1
theorem MapIs.update {w : World} {b : Nat} {l : List (κ × Value)} {t e : TypeId} (h : MapIs E w b l) (ht : P.underlying t = some (.map k e)) (x : κ) (v : Value) :
    ∃ w', (Instr.mapUpdate t (.map (some b)) (E.enc x) v).run P w = .ok () w' ∧ MapIs E w' b (setK x v l) ∧ w.grownBy w' (some b) ∧ w'.heap.size = w.heap.size := by
  have hlt := h.lt
  obtain ⟨es, c, h, h2, hst⟩ := h
  simp only [Instr.mapUpdate, Sem.run_bind, run_underlying ht, Result.andThen_ok, MapKept.run_getObj_map h, E.check, findKey_ok E x w es.toList l h2]
  cases hl : look x l 0 with
  | none =>
    refine ⟨_, MapKept.run_setObj_map _ h, ⟨_, _, heap_set_eq w b _ hlt, ?_, MapKept.stamped_push hst fun y hy e => ?_⟩, grown_set w b _, by simp⟩
    · rw [(look_none (v := v) hl).1]
      simp [pairs, encs] at h2 ⊢
      exact h2
    · have hy2 : (y.key, y.val) ∈ encs E l := by rw [← h2]; exact List.mem_map.2 ⟨y, hy, rfl⟩
      obtain ⟨p, hp, e2⟩ := List.mem_map.1 hy2
      have e3 : E.enc p.1 = y.key := by injection e2
      exact look_none_key hl p hp (E.inj w (e3.trans e))
  | some r =>
    obtain ⟨j, v0⟩ := r
    obtain ⟨_, h1, h3, _⟩ := look_some (v := v) hl
    simp only [Nat.sub_zero] at h1 h3
    have hk : (((es[j]?).map (·.key)).getD (E.enc x)) = E.enc x := by
      have := congrArg (fun q => (q[j]?).map (·.1)) h2
      simp [pairs, encs, h1] at this
      cases hj : es[j]? with
      | none => simp
      | some y => simp [hj] at this; simp [this]
    simp only [hk, Instr.keyThatStays, E.bits, if_true, Sem.run_pure, Sem.run_bind, Result.andThen_ok]
    refine ⟨_, MapKept.run_setObj_map _ h, ⟨_, _, heap_set_eq w b _ hlt, ?_, MapKept.stamped_modify hst _ _ (fun _ _ => rfl) fun y hy hj => ?_⟩, grown_set w b _, by simp⟩
    rotate_left
    · have := congrArg (fun q => (q[j]?).map (·.1)) h2
      simp [pairs, encs, h1, hj] at this
      exact this.symm
    rw [h3]
    simp only [pairs, encs, Array.toList_modify] at h2 ⊢
    apply List.ext_getElem?
    intro i
    have h2i := congrArg (fun q => q[i]?) h2
    simp only [List.getElem?_map, List.getElem?_modify] at h2i ⊢
    by_cases hi : j = i
    · subst hi
      simp only [if_true] at *
      cases hj : es.toList[j]? <;> cases hj2 : l[j]? <;> simp_all
    · simp only [if_neg hi] at *
      simpa using h2i
/-- 'len(m)' -/
theorem MapIs.len {w : World} {b : Nat} {l : List (κ × Value)} {t e : TypeId} (h : MapIs E w b l) (ht : P.underlying t = some (.map k e)) (ty : TypeId) :
    (Builtin.len_ #[t] ty #[.map (some b)]).run P w = .ok (.int .i64 l.length) w := by
  obtain ⟨es, c, h, hs⟩ := h.size
  simp [Builtin.len_, run_underlying ht, MapKept.run_getObj_map h, goInt, hs]
end

end Go.Proofs.YtdmogoaaecdbaaaGreatDoor


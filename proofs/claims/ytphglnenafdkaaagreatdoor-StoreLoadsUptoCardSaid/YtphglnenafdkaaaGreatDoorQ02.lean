/- Texts of the proof, joined: KPlain. -/
import Derived.Test.YtphglnenafdkaaaGreatDoorQ01
namespace Go.Proofs.YtphglnenafdkaaaGreatDoor
set_option linter.unusedVariables false
set_option linter.unusedSimpArgs false

/-- a value -/
structure Vl where
  k : Int
  n : Int
  s : ByteArray
deriving DecidableEq
/-- an instruction -/
structure Is where
  op : Int
  n : Int
deriving DecidableEq
/-- a program -/
structure Pr where
  args : Int
  cs : List Vl
  code : List Is
deriving DecidableEq
def vl0 : Vl := ⟨0, 0, ⟨#[]⟩⟩
def is0 : Is := ⟨0, 0⟩
/-- may this byte stand in a text -/
def okB (c : UInt8) : Bool := decide (32 ≤ c.toNat) && decide (c.toNat ≤ 126)
def okT (s : ByteArray) : Bool := s.data.toList.all okB
def Vl.ok (v : Vl) : Bool :=
  if v.k = 0 then decide (v.n = 0) && decide (v.s = ⟨#[]⟩)
  else if v.k = 1 then decide (v.s = ⟨#[]⟩)
  else if v.k = 2 then decide (v.n = 0) && (decide (v.s.size ≤ 64) && okT v.s)
  else false
/-! the operations -/
def opd (op : Int) : Int := if op = 1 then 1 else if op = 2 then 2 else if op = 18 then 3 else if op = 19 then 3 else 0
def takes (op : Int) : Int :=
  if op = 3 ∨ op = 4 ∨ op = 12 ∨ op = 15 ∨ op = 19 ∨ op = 20 ∨ op = 21 ∨ op = 23 ∨ op = 25 ∨ op = 26 ∨ op = 27 ∨ op = 28 ∨ op = 29 ∨ op = 30 then 1
  else if op = 5 ∨ op = 6 ∨ op = 7 ∨ op = 8 ∨ op = 9 ∨ op = 10 ∨ op = 11 ∨ op = 13 ∨ op = 14 ∨ op = 16 ∨ op = 17 ∨ op = 22 ∨ op = 24 then 2
  else 0
def lays (op : Int) : Int :=
  if op = 3 ∨ op = 5 then 2 else if op = 6 then 3
  else if op = 1 ∨ op = 2 ∨ op = 7 ∨ op = 8 ∨ op = 9 ∨ op = 10 ∨ op = 11 ∨ op = 12 ∨ op = 13 ∨ op = 14 ∨ op = 15 ∨ op = 16 ∨ op = 17 ∨ op = 20 ∨ op = 21 ∨ op = 24 ∨ op = 25 ∨ op = 26 ∨ op = 27 ∨ op = 28 then 1
  else 0
def isOp (op : Int) : Bool := decide (1 ≤ op) && decide (op ≤ 31)
theorem takes_range (op : Int) : 0 ≤ takes op ∧ takes op ≤ 2 := by unfold takes; split; · omega
                                                                   split <;> omega
theorem lays_range (op : Int) : 0 ≤ lays op ∧ lays op ≤ 3 := by
  unfold lays
  split; · omega
  split; · omega
  split <;> omega
/-! the form -/
def Pr.most (p : Pr) (op : Int) : Int := if opd op = 1 then p.cs.length else if opd op = 2 then p.args else if opd op = 3 then p.code.length else 1
def Pr.insE (p : Pr) (i : Is) : Int := if isOp i.op = false then 53 else if 0 ≤ i.n ∧ i.n < p.most i.op then 0 else 54
def conE (v : Vl) : Int := if v.ok = true ∧ v.k ≠ 0 then 0 else 51
/-- the first that is not 0, from i on -/
def scan (f : Nat → Int) : Nat → Nat → Int × Int
  | 0, _ => (0, 0)
  | k + 1, i => if f i = 0 then scan f k (i + 1) else (f i, i)
def Pr.form (p : Pr) : Int × Int :=
  if p.args < 0 ∨ 8 < p.args then (50, 0)
  else if 32 < p.cs.length then (6, 0)
  else if (scan (fun i => conE (p.cs.getD i vl0)) p.cs.length 0).1 ≠ 0 then scan (fun i => conE (p.cs.getD i vl0)) p.cs.length 0
  else if p.code.length = 0 ∨ 256 < p.code.length then (52, 0)
  else scan (fun i => p.insE (p.code.getD i is0)) p.code.length 0
theorem scan_step (f : Nat → Int) (n i : Nat) (h : i < n) (h0 : f i = 0) : scan f (n - i) i = scan f (n - (i + 1)) (i + 1) := by
  rw [show n - i = (n - (i + 1)) + 1 by omega, scan, if_pos h0]
theorem scan_hit (f : Nat → Int) (n i : Nat) (h : i < n) (h0 : f i ≠ 0) : scan f (n - i) i = (f i, (i : Int)) := by
  rw [show n - i = (n - (i + 1)) + 1 by omega, scan, if_neg h0]
theorem scan_end (f : Nat → Int) (n : Nat) : scan f (n - n) n = (0, 0) := by rw [Nat.sub_self]; rfl
theorem scan_form (f : Nat → Int) (k : Nat) : ∀ i, (scan f k i = (0, 0) ∧ ∀ j, i ≤ j → j < i + k → f j = 0) ∨ ∃ j, i ≤ j ∧ j < i + k ∧ f j ≠ 0 ∧ scan f k i = (f j, (j : Int)) ∧ ∀ q, i ≤ q → q < j → f q = 0 := by
  induction k with
  | zero => intro i; exact .inl ⟨rfl, fun j h1 h2 => by omega⟩
  | succ k ih =>
    intro i
    by_cases h : f i = 0
    · rw [scan, if_pos h]
      rcases ih (i + 1) with ⟨h1, h2⟩ | ⟨j, h1, h2, h3, h4, h5⟩
      · refine .inl ⟨h1, fun j hj1 hj2 => ?_⟩
        by_cases e : j = i
        · rw [e]; exact h
        · exact h2 j (by omega) (by omega)
      · refine .inr ⟨j, by omega, by omega, h3, h4, fun q hq1 hq2 => ?_⟩
        by_cases e : q = i
        · rw [e]; exact h
        · exact h5 q (by omega) hq2
    · rw [scan, if_neg h]
      exact .inr ⟨i, Nat.le_refl _, by omega, h, rfl, fun q h1 h2 => by omega⟩
/-! the depths -/
structure Ck where
  dep : Nat → Int
  lk : Nat → Bool
def ck0 : Ck := ⟨fun i => if i = 0 then 0 else -1, fun _ => false⟩
def Ck.due (c : Ck) (i : Nat) : Bool := decide (c.dep i ≠ -1) && !c.lk i
def leastD (c : Ck) : Nat → Nat → Option Nat
  | 0, _ => none
  | k + 1, i => if c.due i = true then some i else leastD c k (i + 1)
def setN {α : Type} (f : Nat → α) (i : Nat) (v : α) : Nat → α := fun j => if j = i then v else f j
/-- what comes of a place: the error, or the new depths -/
abbrev Res := (Nat → Int) ⊕ (Int × Int)
def leadTo (n : Nat) (at_ : Nat) (d : Int) (dep : Nat → Int) (to : Nat) : Res :=
  if n ≤ to then .inr (57, at_) else if dep to = -1 then .inl (setN dep to d) else if dep to = d then .inl dep else .inr (56, at_)
def nexts (at_ : Nat) (i : Is) : List Nat :=
  if i.op = 18 then [i.n.toNat] else if i.op = 19 then [at_ + 1, i.n.toNat] else if i.op = 30 ∨ i.op = 31 then [] else [at_ + 1]
def leads (n at_ : Nat) (d : Int) : List Nat → (Nat → Int) → Res
  | [], dep => .inl dep
  | to :: l, dep => match leadTo n at_ d dep to with
    | .inl dep' => leads n at_ d l dep'
    | .inr e => .inr e
def lookAt (code : List Is) (dep : Nat → Int) (at_ : Nat) : Res :=
  let i := code.getD at_ is0
  let d := dep at_ - takes i.op + lays i.op
  if dep at_ < takes i.op ∨ 32 < d then .inr (55, at_) else leads code.length at_ d (nexts at_ i) dep
def runD (code : List Is) : Nat → Ck → Res
  | 0, c => .inl c.dep
  | k + 1, c => match leastD c code.length 0 with
    | none => .inl c.dep
    | some i => match lookAt code c.dep i with
      | .inr e => .inr e
      | .inl dep' => runD code k ⟨dep', setN c.lk i true⟩
def Ck.left (c : Ck) (n : Nat) : Nat := (List.range n).countP fun i => !c.lk i
def runC (code : List Is) (c : Ck) : Res := runD code (c.left code.length + 1) c
def Pr.find (p : Pr) : Res := runC p.code ck0
def Pr.check (p : Pr) : Int × Int := if p.form.1 ≠ 0 then p.form else match p.find with | .inl _ => (0, 0) | .inr e => e
def Pr.deps (p : Pr) : List Int := if p.check.1 ≠ 0 then [] else match p.find with | .inl d => (List.range p.code.length).map d | .inr _ => []
theorem leastD_form (c : Ck) (k : Nat) : ∀ i, (leastD c k i = none ∧ ∀ j, i ≤ j → j < i + k → c.due j = false) ∨ ∃ j, i ≤ j ∧ j < i + k ∧ c.due j = true ∧ leastD c k i = some j ∧ ∀ q, i ≤ q → q < j → c.due q = false := by
  induction k with
  | zero => intro i; exact .inl ⟨rfl, fun j h1 h2 => by omega⟩
  | succ k ih =>
    intro i
    by_cases h : c.due i = true
    · rw [leastD, if_pos h]
      exact .inr ⟨i, Nat.le_refl _, by omega, h, rfl, fun q h1 h2 => by omega⟩
    · rw [leastD, if_neg h]
      have h' : c.due i = false := by simpa using h
      rcases ih (i + 1) with ⟨h1, h2⟩ | ⟨j, h1, h2, h3, h4, h5⟩
      · refine .inl ⟨h1, fun j hj1 hj2 => ?_⟩
        by_cases e : j = i
        · rw [e]; exact h'
        · exact h2 j (by omega) (by omega)
      · refine .inr ⟨j, by omega, by omega, h3, h4, fun q hq1 hq2 => ?_⟩
        by_cases e : q = i
        · rw [e]; exact h'
        · exact h5 q (by omega) hq2
theorem leastD_step (c : Ck) (n i : Nat) (h : i < n) (h0 : c.due i = false) : leastD c (n - i) i = leastD c (n - (i + 1)) (i + 1) := by
  rw [show n - i = (n - (i + 1)) + 1 by omega, leastD, if_neg (by rw [h0]; decide)]
theorem leastD_hit (c : Ck) (n i : Nat) (h : i < n) (h0 : c.due i = true) : leastD c (n - i) i = some i := by
  rw [show n - i = (n - (i + 1)) + 1 by omega, leastD, if_pos h0]
theorem leastD_end (c : Ck) (n : Nat) : leastD c (n - n) n = none := by rw [Nat.sub_self]; rfl
theorem countP_set (lk : Nat → Bool) (i : Nat) (h0 : lk i = false) : ∀ n, (List.range n).countP (fun j => !setN lk i true j) + (if i < n then 1 else 0) = (List.range n).countP (fun j => !lk j) := by
  intro n
  induction n with
  | zero => simp
  | succ n ih =>
    rw [List.range_succ, List.countP_append, List.countP_append, List.countP_singleton, List.countP_singleton]
    by_cases e : n = i
    · subst e
      rw [if_neg (by omega)] at ih
      simp [setN, h0] at ih ⊢
      omega
    · have hs : setN lk i true n = lk n := by unfold setN; rw [if_neg e]
      rw [hs]
      by_cases hi : i < n
      · rw [if_pos (show i < n + 1 by omega)]; rw [if_pos hi] at ih; omega
      · rw [if_neg (show ¬ i < n + 1 by omega)]; rw [if_neg hi] at ih; omega
theorem left_set (c : Ck) (n i : Nat) (d : Nat → Int) (h : i < n) (h0 : c.lk i = false) : (Ck.mk d (setN c.lk i true)).left n + 1 = c.left n := by
  have := countP_set c.lk i h0 n
  rw [if_pos h] at this
  exact this
theorem due_lk {c : Ck} {i : Nat} (h : c.due i = true) : c.dep i ≠ -1 ∧ c.lk i = false := by
  unfold Ck.due at h
  rw [Bool.and_eq_true] at h
  exact ⟨of_decide_eq_true h.1, by simpa using h.2⟩
theorem runC_none {code : List Is} {c : Ck} (h : leastD c code.length 0 = none) : runC code c = .inl c.dep := by
  unfold runC; rw [runD, h]
theorem runC_bad {code : List Is} {c : Ck} {i : Nat} {e : Int × Int} (h : leastD c code.length 0 = some i) (he : lookAt code c.dep i = .inr e) : runC code c = .inr e := by
  unfold runC; rw [runD, h]; simp only; rw [he]
theorem leastD_lt {c : Ck} {n i : Nat} (h : leastD c n 0 = some i) : i < n ∧ c.due i = true := by
  rcases leastD_form c n 0 with ⟨h1, _⟩ | ⟨j, h1, h2, h3, h4, _⟩
  · rw [h1] at h; cases h
  · rw [h4] at h; cases h; exact ⟨by omega, h3⟩
theorem runC_ok {code : List Is} {c : Ck} {i : Nat} {d : Nat → Int} (h : leastD c code.length 0 = some i) (he : lookAt code c.dep i = .inl d) : runC code c = runC code ⟨d, setN c.lk i true⟩ := by
  obtain ⟨hi, hd⟩ := leastD_lt h
  have := left_set c code.length i d hi (due_lk hd).2
  unfold runC
  rw [runD, h]
  simp only
  rw [he]
  simp only
  rw [this]

end Go.Proofs.YtphglnenafdkaaaGreatDoor


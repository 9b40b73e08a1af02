/- Texts of the proof, joined: VPl. -/
import Derived.Test.YtphglnenafdkaaaGreatDoorQ02
import Derived.Lib.ParseIntBTie
import Derived.Lib.ItoaNum
namespace Go.Proofs.YtphglnenafdkaaaGreatDoor
open Go
set_option linter.unusedVariables false
set_option linter.unusedSimpArgs false

/-! digits -/
def isD (c : UInt8) : Bool := decide (48 ≤ c.toNat) && decide (c.toNat ≤ 57)
theorem isD_iff {c : UInt8} : isD c = true ↔ 48 ≤ c.toNat ∧ c.toNat ≤ 57 := by simp [isD]
/-- what digits say -/
def dval (a : Nat) (l : List UInt8) : Nat := l.foldl (fun a c => 10 * a + (c.toNat - 48)) a
theorem dval_nil (a : Nat) : dval a [] = a := rfl
theorem dval_cons (a : Nat) (c : UInt8) (r : List UInt8) : dval a (c :: r) = dval (10 * a + (c.toNat - 48)) r := by unfold dval; rw [List.foldl_cons]
theorem dval_app (l m : List UInt8) (a : Nat) : dval a (l ++ m) = dval (dval a l) m := by unfold dval; rw [List.foldl_append]
theorem dval_snoc (l : List UInt8) (c : UInt8) (a : Nat) : dval a (l ++ [c]) = 10 * dval a l + (c.toNat - 48) := by rw [dval_app, dval_cons, dval_nil]
theorem dval_ge (l : List UInt8) : ∀ a, a ≤ dval a l := by
  induction l with
  | nil => intro a; exact Nat.le_refl _
  | cons c r ih => intro a; have := ih (10 * a + (c.toNat - 48)); simp only [dval_nil, dval_cons]; omega
theorem dval_take (l : List UInt8) (k a : Nat) : dval a (l.take k) ≤ dval a l := by
  have := dval_app (l.take k) (l.drop k) a
  rw [List.take_append_drop] at this
  rw [this]
  exact dval_ge _ _
theorem dg_toNat {u : Nat} (h : u < 10) : (UInt8.ofNat (48 + u)).toNat = 48 + u := by
  rw [UInt8.toNat_ofNat']; omega
theorem dval_dec : ∀ u : Nat, dval 0 (Lib.decDigits u) = u := by
  intro u
  induction u using Nat.strongRecOn with
  | _ u ih =>
    rw [Lib.decDigits]
    split
    · rename_i h
      simp only [dval_nil, dval_cons, dg_toNat h]; omega
    · rename_i h
      rw [dval_snoc, ih (u / 10) (by omega), dg_toNat (by omega)]; omega
theorem head_app {m l : List UInt8} (h : m ≠ []) : (m ++ l).head? = m.head? := by
  cases m with
  | nil => exact absurd rfl h
  | cons c r => rfl
theorem dec_ne (u : Nat) : Lib.decDigits u ≠ [] := by
  rw [Lib.decDigits]; split <;> simp
theorem dec_isD : ∀ u : Nat, ∀ c ∈ Lib.decDigits u, isD c = true := by
  intro u
  induction u using Nat.strongRecOn with
  | _ u ih =>
    rw [Lib.decDigits]
    split
    · rename_i h
      intro c hc
      obtain rfl := List.mem_singleton.1 hc
      rw [isD_iff, dg_toNat h]; omega
    · rename_i h
      intro c hc
      rcases List.mem_append.1 hc with hc | hc
      · exact ih (u / 10) (by omega) c hc
      · obtain rfl := List.mem_singleton.1 hc
        rw [isD_iff, dg_toNat (by omega)]; omega
theorem dec_head : ∀ u : Nat, u ≠ 0 → (Lib.decDigits u).head? ≠ some 48 := by
  intro u
  induction u using Nat.strongRecOn with
  | _ u ih =>
    intro h0
    rw [Lib.decDigits]
    split
    · rename_i h
      intro e
      simp only [List.head?_cons, Option.some.injEq] at e
      have := congrArg UInt8.toNat e
      rw [dg_toNat h] at this
      simp at this
      omega
    · rename_i h
      rw [head_app (dec_ne _)]
      exact ih (u / 10) (by omega) (by omega)
theorem dec_zero : Lib.decDigits 0 = [48] := by rw [Lib.decDigits]; rfl
theorem dval_pos {l : List UInt8} (hd : ∀ c ∈ l, isD c = true) (h0 : l ≠ []) (hh : l.head? ≠ some 48) : 0 < dval 0 l := by
  cases l with
  | nil => exact absurd rfl h0
  | cons c r =>
    have h1 := isD_iff.1 (hd c (List.mem_cons_self ..))
    have h2 : c.toNat ≠ 48 := fun e => hh (by rw [List.head?_cons]; congr 1; exact UInt8.toNat_inj.1 e)
    have := dval_ge r (10 * 0 + (c.toNat - 48))
    simp only [dval_nil, dval_cons]
    omega
theorem dec_dval : ∀ (k : Nat) (l : List UInt8), l.length = k → (∀ c ∈ l, isD c = true) → l ≠ [] → (l.head? = some 48 → l.length = 1) → Lib.decDigits (dval 0 l) = l := by
  intro k
  induction k with
  | zero => intro l hl _ h0; exact absurd (List.eq_nil_of_length_eq_zero hl) h0
  | succ k ih =>
    intro l hl hd h0 hh
    obtain ⟨m, c, rfl⟩ : ∃ m c, l = m ++ [c] := ⟨l.dropLast, l.getLast h0, (List.dropLast_concat_getLast h0).symm⟩
    have hc := isD_iff.1 (hd c (by simp))
    have hcc : UInt8.ofNat (48 + (c.toNat - 48)) = c := by rw [show 48 + (c.toNat - 48) = c.toNat by omega]; simp
    rw [dval_snoc]
    by_cases hm : m = []
    · subst hm
      simp only [dval_nil, dval_cons, List.nil_append]
      rw [Lib.decDigits, dif_pos (by omega), show 10 * 0 + (c.toNat - 48) = c.toNat - 48 by omega, hcc]
    · have hm1 : m.head? ≠ some 48 := fun e => by
        have := hh (by rw [head_app hm]; exact e)
        have h3 : 0 < m.length := List.length_pos_iff.2 hm
        simp at this
        exact hm this
      have hp := dval_pos (fun c hc => hd c (by simp [hc])) hm hm1
      rw [Lib.decDigits, dif_neg (by omega), show (10 * dval 0 m + (c.toNat - 48)) / 10 = dval 0 m by omega, show (10 * dval 0 m + (c.toNat - 48)) % 10 = c.toNat - 48 by omega, hcc,
        ih m (by simpa using hl) (fun c hc => hd c (by simp [hc])) hm (fun e => absurd e hm1)]
/-! the library's ParseInt, over digits -/
theorem parseM_dval (M : Nat) (hM : M = 18446744073709551615) : ∀ (l : List UInt8) (a : Nat), (∀ c ∈ l, isD c = true) → a ≤ M → Lib.parseUintM M a l = if dval a l ≤ M then .ok (dval a l) else .range := by
  intro l
  induction l with
  | nil => intro a _ ha; rw [dval_nil, if_pos ha]; rfl
  | cons c r ih =>
    intro a hd ha
    have hc := isD_iff.1 (hd c (List.mem_cons_self ..))
    have hg := dval_ge r (10 * a + (c.toNat - 48))
    have e := dval_cons a c r
    rw [e, Lib.parseUintM, if_pos hc]
    by_cases h1 : 1844674407370955162 ≤ a
    · rw [if_pos h1, if_neg (by omega)]
    · rw [if_neg h1]
      by_cases h2 : M < a * 10 + (c.toNat - 48)
      · rw [if_pos h2, if_neg (by omega)]
      · rw [if_neg h2, ih _ (fun c hc => hd c (List.mem_cons_of_mem _ hc)) (by omega), show a * 10 + (c.toNat - 48) = 10 * a + (c.toNat - 48) by omega]
theorem parseU_dval {l : List UInt8} (hd : ∀ c ∈ l, isD c = true) (h0 : l ≠ []) : Lib.parseUintB 64 l = if dval 0 l ≤ 18446744073709551615 then .ok (dval 0 l) else .range := by
  unfold Lib.parseUintB
  rw [if_neg h0, parseM_dval (2 ^ 64 - 1) (by decide) l 0 hd (by decide)]
theorem parseI_pos {l : List UInt8} (hd : ∀ c ∈ l, isD c = true) (h0 : l ≠ []) : Lib.parseIntB 64 l = if dval 0 l < 9223372036854775808 then .ok (dval 0 l : Int) else .range := by
  cases l with
  | nil => exact absurd rfl h0
  | cons c r =>
    have hc := isD_iff.1 (hd c (List.mem_cons_self ..))
    unfold Lib.parseIntB
    simp only
    rw [if_neg (by omega : ¬ (c.toNat = 43 ∨ c.toNat = 45)), parseU_dval hd h0]
    have e : (2 : Nat) ^ (64 - 1) = 9223372036854775808 := by decide
    rw [e]
    have hn : ¬ (c.toNat = 45) := by omega
    by_cases h1 : dval 0 (c :: r) ≤ 18446744073709551615
    · rw [if_pos h1]
      simp only [hn, not_false_eq_true, true_and, false_and, if_false]
      by_cases h2 : dval 0 (c :: r) < 9223372036854775808
      · rw [if_neg (by omega), if_pos h2]
      · rw [if_pos (by omega), if_neg h2]
    · rw [if_neg h1, if_neg (by omega)]
theorem parseI_neg {l : List UInt8} (hd : ∀ c ∈ l, isD c = true) (h0 : l ≠ []) : Lib.parseIntB 64 (45 :: l) = if dval 0 l ≤ 9223372036854775808 then .ok (-(dval 0 l : Int)) else .range := by
  unfold Lib.parseIntB
  simp only
  rw [if_pos (.inr rfl), parseU_dval hd h0]
  have e : (2 : Nat) ^ (64 - 1) = 9223372036854775808 := by decide
  rw [e]
  have hn : (45 : UInt8).toNat = 45 := rfl
  by_cases h1 : dval 0 l ≤ 18446744073709551615
  · rw [if_pos h1]
    simp only [hn, not_true_eq_false, true_and, false_and, if_false, if_true]
    by_cases h2 : dval 0 l ≤ 9223372036854775808
    · rw [if_neg (by omega), if_pos h2]
    · rw [if_pos (by omega), if_neg h2]
  · rw [if_neg h1, if_neg (by omega)]
/-! Parse -/
structure Pz where
  v : Vl
  e : Int
  at_ : Nat
deriving DecidableEq
def Pz.bad (e : Int) (k : Nat) : Pz := ⟨vl0, e, k⟩
def Pz.good (v : Vl) : Pz := ⟨v, 0, 0⟩
def wordV (l : List UInt8) : Vl := ⟨2, 0, ⟨l.toArray⟩⟩
def intV (n : Int) : Vl := ⟨1, n, ⟨#[]⟩⟩
def scanL : List UInt8 → Nat → List UInt8 → Pz
  | [], i, _ => .bad 3 i
  | c :: r, i, out =>
    if c = 34 then (if r = [] then .good (wordV out) else .bad 4 (i + 1))
    else if okB c = false then .bad 21 i
    else if out.length = 64 then .bad 1 i
    else if c = 92 then
      match r with
      | [] => .bad 3 (i + 1)
      | d :: r' => if d = 34 ∨ d = 92 then scanL r' (i + 2) (out ++ [d]) else .bad 21 (i + 1)
    else scanL r (i + 1) (out ++ [c])
def wantL : List UInt8 → List UInt8 → Nat → Pz
  | [], [], _ => .good vl0
  | _ :: _, [], i => .bad 4 i
  | [], _ :: _, i => .bad 3 i
  | c :: r, d :: q, i => if c = d then wantL r q (i + 1) else .bad 21 i
def noneT : List UInt8 := [110, 111, 110, 101]
def fromL (s : List UInt8) : Nat := if s.head? = some 45 then 1 else 0
def digs (s : List UInt8) : List UInt8 := (s.drop (fromL s)).takeWhile isD
def numE (neg : Bool) (ds : List UInt8) (len : Nat) : Pz :=
  let f := if neg = true then 1 else 0
  if ds = [] then (if len = f then .bad 3 f else .bad 21 f)
  else if ds.head? = some 48 ∧ neg = true then .bad 21 1
  else if ds.head? = some 48 ∧ 1 < ds.length then .bad 21 1
  else if (if neg = true then 9223372036854775808 < dval 0 ds else 9223372036854775808 ≤ dval 0 ds) then .bad 22 0
  else if f + ds.length < len then .bad 4 (f + ds.length)
  else .good (intV (if neg = true then -(dval 0 ds : Int) else dval 0 ds))
def numL (s : List UInt8) : Pz := numE (decide (s.head? = some 45)) (digs s) s.length
def parseL (s : List UInt8) : Pz :=
  match s with
  | [] => .bad 3 0
  | c :: r => if c = 34 then scanL r 1 [] else if c = 45 ∨ isD c = true then numL s else wantL s noneT 0
/-! Print -/
def escL (l : List UInt8) : List UInt8 := l.flatMap fun c => if c = 34 ∨ c = 92 then [92, c] else [c]
def litL (v : Vl) : List UInt8 := if v.k = 1 then Lib.itoa v.n else if v.k = 0 then noneT else 34 :: (escL v.s.data.toList ++ [34])
def printE (v : Vl) : Int := if v.ok = true then 0 else 20
def printL (v : Vl) : List UInt8 := if v.ok = true then litL v else []
theorem scan_c {c : UInt8} {r : List UInt8} {i : Nat} {out : List UInt8} (h : c ≠ 92) : scanL (c :: r) i out = if c = 34 then (if r = [] then .good (wordV out) else .bad 4 (i + 1)) else if okB c = false then .bad 21 i else if out.length = 64 then .bad 1 i else scanL r (i + 1) (out ++ [c]) := by
  rw [scanL.eq_def]
  simp only
  rw [if_neg h]
theorem scan_b1 {i : Nat} {out : List UInt8} : scanL [92] i out = if out.length = 64 then .bad 1 i else .bad 3 (i + 1) := by
  rw [scanL.eq_def]
  simp only
  rw [if_neg (by decide), if_neg (by decide), if_pos trivial]
theorem scan_b2 {d : UInt8} {r : List UInt8} {i : Nat} {out : List UInt8} : scanL (92 :: d :: r) i out = if out.length = 64 then .bad 1 i else if d = 34 ∨ d = 92 then scanL r (i + 2) (out ++ [d]) else .bad 21 (i + 1) := by
  rw [scanL.eq_def]
  simp only
  rw [if_neg (by decide), if_neg (by decide), if_pos trivial]
theorem escL_cons (c : UInt8) (l : List UInt8) : escL (c :: l) = (if c = 34 ∨ c = 92 then [92, c] else [c]) ++ escL l := rfl
theorem scan_esc : ∀ (l : List UInt8) (i : Nat) (out : List UInt8), (∀ c ∈ l, okB c = true) → out.length + l.length ≤ 64 → scanL (escL l ++ [34]) i out = .good (wordV (out ++ l)) := by
  intro l
  induction l with
  | nil => intro i out _ _; simp [escL, scanL]
  | cons c l ih =>
    intro i out hk hl
    simp only [List.length_cons] at hl
    have h1 := ih (i + 2) (out ++ [c]) (fun c hc => hk c (List.mem_cons_of_mem _ hc)) (by simp; omega)
    have h2 := ih (i + 1) (out ++ [c]) (fun c hc => hk c (List.mem_cons_of_mem _ hc)) (by simp; omega)
    rw [List.append_assoc, List.singleton_append] at h1 h2
    rw [escL_cons]
    by_cases hc : c = 34 ∨ c = 92
    · rw [if_pos hc]
      simp only [List.cons_append, List.nil_append]
      rw [scan_b2, if_neg (by omega), if_pos hc, h1]
    · rw [if_neg hc]
      simp only [List.cons_append, List.nil_append]
      rw [scan_c (fun e => hc (.inr e)), if_neg (fun e => hc (.inl e)), if_neg (by rw [hk c (List.mem_cons_self ..)]; simp), if_neg (by omega), h2]
theorem scan_good : ∀ (n : Nat) (r : List UInt8) (i : Nat) (out : List UInt8), r.length ≤ n → (scanL r i out).e = 0 → out.length ≤ 64 →
    ∃ t, scanL r i out = .good (wordV (out ++ t)) ∧ r = escL t ++ [34] ∧ (∀ c ∈ t, okB c = true) ∧ (out ++ t).length ≤ 64 ∧ ∀ cut, cut < r.length → scanL (r.take cut) i out = .bad 3 (i + cut) := by
  intro n
  induction n with
  | zero => intro r i out hr he; obtain rfl := List.eq_nil_of_length_eq_zero (by omega : r.length = 0); simp [scanL, Pz.bad] at he
  | succ n ih =>
    intro r i out hr he ho
    cases r with
    | nil => simp [scanL, Pz.bad] at he
    | cons c r =>
      by_cases h4 : c = 92
      · subst h4
        cases r with
        | nil => rw [scan_b1] at he; split at he <;> simp [Pz.bad] at he
        | cons d r' =>
          rw [scan_b2] at he ⊢
          by_cases h3 : out.length = 64
          · rw [if_pos h3] at he; simp [Pz.bad] at he
          · rw [if_neg h3] at he ⊢
            by_cases h5 : d = 34 ∨ d = 92
            · rw [if_pos h5] at he ⊢
              obtain ⟨t, e1, e2, e3, e4, e5⟩ := ih r' (i + 2) (out ++ [d]) (by simp at hr; omega) he (by simp; omega)
              refine ⟨d :: t, by rw [e1]; simp, ?_, ?_, ?_, fun cut hc => ?_⟩
              · rw [escL_cons, if_pos h5, e2]; simp
              · intro x hx
                rcases List.mem_cons.1 hx with rfl | hx
                · rcases h5 with rfl | rfl <;> decide
                · exact e3 x hx
              · simp at e4 ⊢; omega
              · rcases cut with _ | _ | cut
                · simp [scanL]
                · simp only [List.take_succ_cons, List.take_zero]
                  rw [scan_b1, if_neg h3]
                · have := e5 cut (by simp at hc; omega)
                  simp only [List.take_succ_cons]
                  rw [scan_b2, if_neg h3, if_pos h5, this]
                  congr 1; omega
            · rw [if_neg h5] at he; simp [Pz.bad] at he
      · rw [scan_c h4] at he ⊢
        by_cases h1 : c = 34
        · rw [if_pos h1] at he ⊢
          by_cases h2 : r = []
          · rw [if_pos h2]
            refine ⟨[], by simp, by simp [escL, h1, h2], by simp, by simpa using ho, fun cut hc => ?_⟩
            subst h2
            obtain rfl : cut = 0 := by simp at hc; omega
            simp [scanL]
          · rw [if_neg h2] at he; simp [Pz.bad] at he
        · rw [if_neg h1] at he ⊢
          by_cases h2 : okB c = false
          · rw [if_pos h2] at he; simp [Pz.bad] at he
          · rw [if_neg h2] at he ⊢
            by_cases h3 : out.length = 64
            · rw [if_pos h3] at he; simp [Pz.bad] at he
            · rw [if_neg h3] at he ⊢
              obtain ⟨t, e1, e2, e3, e4, e5⟩ := ih r (i + 1) (out ++ [c]) (by simp at hr; omega) he (by simp; omega)
              refine ⟨c :: t, by rw [e1]; simp, ?_, ?_, ?_, fun cut hc => ?_⟩
              · rw [escL_cons, if_neg (fun e => e.elim h1 h4), e2]; rfl
              · intro x hx
                rcases List.mem_cons.1 hx with rfl | hx
                · simpa using h2
                · exact e3 x hx
              · simp at e4 ⊢; omega
              · rcases cut with _ | cut
                · simp [scanL]
                · have := e5 cut (by simp at hc; omega)
                  simp only [List.take_succ_cons]
                  rw [scan_c h4, if_neg h1, if_neg h2, if_neg h3, this]
                  congr 1; omega
end Go.Proofs.YtphglnenafdkaaaGreatDoor


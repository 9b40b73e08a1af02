/- Texts of the proof, joined: IFuelP, ISumP, IOwnP, VLaid, LawOf, KOpenA. -/
import Derived.Test.YtdmogoaaecdbaaaGreatDoorJ18
import Derived.Test.YtdmogoaaecdbaaaGreatDoorJ08
import Derived.Test.YtdmogoaaecdbaaaGreatDoorRows
import Derived.Stop.LaidErr
import Derived.Lib.LaidTab
import Derived.LaidLaws
import Derived.ProofKit
import Derived.Deep.DeepHandedRow
import Derived.Test.YtdmogoaaecdbaaaGreatDoorJ01
import Derived.OpenShut
import Derived.JoinedCond
import Derived.Lib.SmallJoins
import Derived.Test.YtdmogoaaecdbaaaGreatDoorJ05
import Derived.Test.YtdmogoaaecdbaaaGreatDoorJ04
import Derived.Deep.Slices
import Derived.SizedLaws
namespace Go.Proofs.YtdmogoaaecdbaaaGreatDoor
open Go.RowKit
set_option linter.unusedVariables false
set_option linter.unusedSimpArgs false

def Mc.fl (m : Mc) (f : Nat) : Mc := { m with fuel := f }
theorem write_fl (m : Mc) (x : Wr) (f : Nat) : (m.fl f).write x = (m.write x).map (·.fl f) := by
  unfold Mc.write
  show (if roomB m x.key = false then _ else if hasW x.key m.writes = false ∧ 32 ≤ m.writes.length then _ else _) = _
  split
  · rfl
  · split <;> rfl
theorem load_fl (src : List Kv) (m : Mc) (k : ByteArray) (f : Nat) : (m.fl f).load src k = (m.load src k).map fun x => (x.1, x.2.fl f) := by
  unfold Mc.load
  show (match getW k m.writes with | some x => _ | none => if roomB m k = true then _ else _) = _
  cases getW k m.writes with
  | some x => rfl
  | none =>
    show (if roomB m k = true then _ else _) = Except.map _ (if roomB m k = true then _ else _)
    split <;> rfl
theorem two_fl (op : Int) (m : Mc) (a b : Vl) (r : List Vl) (f : Nat) : twoP op (m.fl f) a b r = (twoP op m a b r).map (·.fl f) := by
  unfold twoP
  by_cases o1 : op = 13
  · rw [if_pos o1, if_pos o1]
    rfl
  rw [if_neg o1, if_neg o1]
  by_cases o2 : op = 14
  · rw [if_pos o2, if_pos o2]
    rfl
  rw [if_neg o2, if_neg o2]
  by_cases o3 : op = 24
  · rw [if_pos o3, if_pos o3]
    by_cases hc : a.k = 2 ∧ b.k = 2
    · (first | rw [if_pos hc, if_pos hc] | rw [if_pos hc])
      by_cases hd : b.s.size + a.s.size ≤ 64
      · (first | rw [if_pos hd, if_pos hd] | rw [if_pos hd])
        rfl
      · (first | rw [if_neg hd, if_neg hd] | rw [if_neg hd])
        rfl
    · (first | rw [if_neg hc, if_neg hc] | rw [if_neg hc])
      rfl
  rw [if_neg o3, if_neg o3]
  by_cases o4 : op = 22
  · rw [if_pos o4, if_pos o4]
    by_cases hc : b.k = 2 ∧ a.k ≠ 0
    · (first | rw [if_pos hc, if_pos hc] | rw [if_pos hc])
      by_cases hd : validK b.s = false
      · (first | rw [if_pos hd, if_pos hd] | rw [if_pos hd])
        rfl
      · (first | rw [if_neg hd, if_neg hd] | rw [if_neg hd])
        exact write_fl { m with st := r } _ f
    · (first | rw [if_neg hc, if_neg hc] | rw [if_neg hc])
      rfl
  rw [if_neg o4, if_neg o4]
  by_cases hc : a.k = 1 ∧ b.k = 1
  · (first | rw [if_pos hc, if_pos hc] | rw [if_pos hc])
    by_cases hd : op = 16
    · (first | rw [if_pos hd, if_pos hd] | rw [if_pos hd])
      rfl
    · (first | rw [if_neg hd, if_neg hd] | rw [if_neg hd])
      by_cases he : op = 17
      · (first | rw [if_pos he, if_pos he] | rw [if_pos he])
        rfl
      · (first | rw [if_neg he, if_neg he] | rw [if_neg he])
        cases arithP op b.n a.n <;> rfl
  · (first | rw [if_neg hc, if_neg hc] | rw [if_neg hc])
    rfl
theorem one_fl (op : Int) (src : List Kv) (m : Mc) (a : Vl) (r : List Vl) (f : Nat) : oneP op src (m.fl f) a r = (oneP op src m a r).map (·.fl f) := by
  unfold oneP
  by_cases o12 : op = 12
  · rw [if_pos o12, if_pos o12]
    by_cases hc : a.k = 1
    · (first | rw [if_pos hc, if_pos hc] | rw [if_pos hc])
      by_cases hd : a.n = minI
      · (first | rw [if_pos hd, if_pos hd] | rw [if_pos hd])
        rfl
      · (first | rw [if_neg hd, if_neg hd] | rw [if_neg hd])
        rfl
    · (first | rw [if_neg hc, if_neg hc] | rw [if_neg hc])
      rfl
  rw [if_neg o12, if_neg o12]
  by_cases o15 : op = 15
  · rw [if_pos o15, if_pos o15]
    by_cases hc : a.k = 1
    · (first | rw [if_pos hc, if_pos hc] | rw [if_pos hc])
      rfl
    · (first | rw [if_neg hc, if_neg hc] | rw [if_neg hc])
      rfl
  rw [if_neg o15, if_neg o15]
  by_cases o20 : op = 20
  · rw [if_pos o20, if_pos o20]
    by_cases hc : keyE a ≠ 0
    · (first | rw [if_pos hc, if_pos hc] | rw [if_pos hc])
      rfl
    · (first | rw [if_neg hc, if_neg hc] | rw [if_neg hc])
      rw [load_fl]
      cases m.load src a.s with
      | ok x => obtain ⟨v, m'⟩ := x; rfl
      | error e => rfl
  rw [if_neg o20, if_neg o20]
  by_cases o21 : op = 21
  · rw [if_pos o21, if_pos o21]
    by_cases hc : keyE a ≠ 0
    · (first | rw [if_pos hc, if_pos hc] | rw [if_pos hc])
      rfl
    · (first | rw [if_neg hc, if_neg hc] | rw [if_neg hc])
      rw [load_fl]
      cases m.load src a.s with
      | ok x => obtain ⟨v, m'⟩ := x; rfl
      | error e => rfl
  rw [if_neg o21, if_neg o21]
  by_cases o23 : op = 23
  · rw [if_pos o23, if_pos o23]
    by_cases hc : keyE a ≠ 0
    · (first | rw [if_pos hc, if_pos hc] | rw [if_pos hc])
      rfl
    · (first | rw [if_neg hc, if_neg hc] | rw [if_neg hc])
      exact write_fl { m with st := r } _ f
  rw [if_neg o23, if_neg o23]
  by_cases o25 : op = 25
  · rw [if_pos o25, if_pos o25]
    by_cases hc : a.k = 1
    · (first | rw [if_pos hc, if_pos hc] | rw [if_pos hc])
      rfl
    · (first | rw [if_neg hc, if_neg hc] | rw [if_neg hc])
      rfl
  rw [if_neg o25, if_neg o25]
  by_cases o26 : op = 26
  · rw [if_pos o26, if_pos o26]
    by_cases hc : a.k = 2
    · (first | rw [if_pos hc, if_pos hc] | rw [if_pos hc])
      by_cases hd : (numR (parseL a.s.data.toList)).2 = true
      · (first | rw [if_pos hd, if_pos hd] | rw [if_pos hd])
        rfl
      · (first | rw [if_neg hd, if_neg hd] | rw [if_neg hd])
        rfl
    · (first | rw [if_neg hc, if_neg hc] | rw [if_neg hc])
      rfl
  rw [if_neg o26, if_neg o26]
  by_cases o27 : op = 27
  · rw [if_pos o27, if_pos o27]
    by_cases hc : a.k = 2
    · (first | rw [if_pos hc, if_pos hc] | rw [if_pos hc])
      rfl
    · (first | rw [if_neg hc, if_neg hc] | rw [if_neg hc])
      rfl
  rw [if_neg o27, if_neg o27]
  by_cases o28 : op = 28
  · rw [if_pos o28, if_pos o28]
    rfl
  rw [if_neg o28, if_neg o28]
  by_cases o29 : op = 29
  · rw [if_pos o29, if_pos o29]
    by_cases hc : a.k = 0
    · (first | rw [if_pos hc, if_pos hc] | rw [if_pos hc])
      rfl
    · (first | rw [if_neg hc, if_neg hc] | rw [if_neg hc])
      show (if 16 ≤ m.out.length then _ else _) = _
      by_cases hd : 16 ≤ m.out.length
      · rw [if_pos hd, if_pos hd]
        rfl
      · rw [if_neg hd, if_neg hd]
        rfl
  rw [if_neg o29, if_neg o29]
  by_cases hc : a.k = 1
  · (first | rw [if_pos hc, if_pos hc] | rw [if_pos hc])
    by_cases hd : 1 ≤ a.n ∧ a.n ≤ 999
    · (first | rw [if_pos hd, if_pos hd] | rw [if_pos hd])
      rfl
    · (first | rw [if_neg hd, if_neg hd] | rw [if_neg hd])
      rfl
  · (first | rw [if_neg hc, if_neg hc] | rw [if_neg hc])
    rfl
theorem mov_fl (p : Pr) (args : List Vl) (m : Mc) (i : Is) (f : Nat) : movP p args (m.fl f) i = (movP p args m i).fl f := by
  unfold movP
  by_cases o1 : i.op = 1
  · rw [if_pos o1, if_pos o1]
    rfl
  rw [if_neg o1, if_neg o1]
  by_cases o2 : i.op = 2
  · rw [if_pos o2, if_pos o2]
    rfl
  rw [if_neg o2, if_neg o2]
  by_cases o3 : i.op = 3
  · rw [if_pos o3, if_pos o3]
    rfl
  rw [if_neg o3, if_neg o3]
  by_cases o4 : i.op = 4
  · rw [if_pos o4, if_pos o4]
    rfl
  rw [if_neg o4, if_neg o4]
  by_cases o5 : i.op = 5
  · rw [if_pos o5, if_pos o5]
    obtain ⟨st, b, c, d, e, g, h⟩ := m
    match st with
    | [] => rfl
    | [_] => rfl
    | _ :: _ :: _ => rfl
  rw [if_neg o5, if_neg o5]
  rfl
theorem on_fl (p : Pr) (args : List Vl) (src : List Kv) (m : Mc) (i : Is) (f : Nat) : onP p args src (m.fl f) i = (onP p args src m i).map (·.fl f) := by
  unfold onP
  by_cases o1 : i.op ≤ 6
  · rw [if_pos o1, if_pos o1, mov_fl]
    rfl
  rw [if_neg o1, if_neg o1]
  by_cases o2 : i.op = 18
  · rw [if_pos o2, if_pos o2]
    rfl
  rw [if_neg o2, if_neg o2]
  by_cases o3 : i.op = 19
  · rw [if_pos o3, if_pos o3]
    obtain ⟨st, b, c, d, e, g, h⟩ := m
    match st with
    | [] => rfl
    | a :: r =>
      show (if a.k = 1 then _ else _) = Except.map _ (if a.k = 1 then _ else _)
      split <;> rfl
  rw [if_neg o3, if_neg o3]
  by_cases o4 : takes i.op = 2
  · rw [if_pos o4, if_pos o4]
    show (match m.st with | a :: b :: r => _ | _ => _) = _
    cases hs : m.st with
    | nil => rfl
    | cons a l =>
      cases l with
      | nil => rfl
      | cons b r =>
        show Except.map _ (twoP i.op (m.fl f) a b r) = Except.map _ (Except.map _ (twoP i.op m a b r))
        rw [two_fl]
        cases twoP i.op m a b r <;> rfl
  rw [if_neg o4, if_neg o4]
  show (match m.st with | a :: r => _ | _ => _) = _
  cases hs : m.st with
  | nil => rfl
  | cons a r =>
    show Except.map _ (oneP i.op src (m.fl f) a r) = Except.map _ (Except.map _ (oneP i.op src m a r))
    rw [one_fl]
    cases oneP i.op src m a r <;> rfl
/-- a run that does not end for want of fuel ends the same with more, but for what is left -/
theorem run_fl {p : Pr} {args : List Vl} {src : List Kv} (k : Nat) : ∀ (n : Nat) (m : Mc), m.fuel < n → (runP p args src n m).1.1 ≠ 73 → runP p args src (n + k) (m.fl (m.fuel + k)) = ((runP p args src n m).1, (runP p args src n m).2.fl ((runP p args src n m).2.fuel + k))
  | 0, m, h, _ => by omega
  | n + 1, m, h, hc => by
    have hs : ∀ x, stepP p args src m = x → stepP p args src (m.fl (m.fuel + k)) = (match x with | .inl (e, m') => .inl (e, m'.fl (m'.fuel + k)) | .inr m' => .inr (m'.fl (m'.fuel + k))) ∨ (∃ m', x = .inl ((73, 0), m')) := fun x hx => by
      unfold stepP at hx
      by_cases hf : m.fuel = 0
      · rw [if_pos hf] at hx
        exact .inr ⟨_, hx.symm⟩
      · left
        rw [if_neg hf] at hx
        unfold stepP
        have e1 : (m.fl (m.fuel + k)).tick = m.tick.fl (m.tick.fuel + k) := by
          show Mc.mk _ _ _ _ _ _ _ = Mc.mk _ _ _ _ _ _ _
          congr 1
          show m.fuel + k - 1 = m.fuel - 1 + k
          omega
        rw [if_neg (show ¬ (m.fl (m.fuel + k)).fuel = 0 from by show ¬ m.fuel + k = 0; omega), e1]
        show (if (p.code.getD m.at_ is0).op = 31 then _ else match onP p args src (m.tick.fl (m.tick.fuel + k)) (p.code.getD m.at_ is0) with | .ok m' => _ | .error e => _) = _
        by_cases hr : (p.code.getD m.at_ is0).op = 31
        · rw [if_pos hr] at hx ⊢
          rw [← hx]
        · rw [if_neg hr] at hx ⊢
          rw [on_fl]
          cases ho : onP p args src m.tick (p.code.getD m.at_ is0) with
          | error e => rw [ho] at hx; rw [← hx]; rfl
          | ok m' =>
            rw [ho] at hx
            rw [← hx]
            have := on_fuel ho
            show Sum.inr (m'.fl _) = Sum.inr (m'.fl _)
            rw [this]
    have hg := hs _ rfl
    rw [show n + 1 + k = (n + k) + 1 by omega]
    unfold runP at hc ⊢
    cases hx : stepP p args src m with
    | inl x =>
      obtain ⟨e, m'⟩ := x
      rw [hx] at hc hg
      rcases hg with hg | ⟨m2, h2⟩
      · rw [hg]
      · injection h2 with h2
        injection h2 with h2 h3
        subst h2
        exact absurd rfl hc
    | inr m' =>
      rw [hx] at hc hg
      rcases hg with hg | ⟨m2, h2⟩
      · rw [hg]
        have := step_fuel hx
        exact run_fl k n m' (by omega) hc
      · cases h2
theorem end_fl {p : Pr} {args : List Vl} {src : List Kv} (f k : Nat) (hc : (endP p args src (mc0 f)).1.1 ≠ 73) : endP p args src (mc0 (f + k)) = ((endP p args src (mc0 f)).1, (endP p args src (mc0 f)).2.fl ((endP p args src (mc0 f)).2.fuel + k)) := by
  have h := run_fl (p := p) (args := args) (src := src) k (f + 1) (mc0 f) (by show f < f + 1; omega) hc
  rw [show f + 1 + k = f + k + 1 by omega] at h
  exact h
theorem load_src {src src' : List Kv} {m : Mc} {k : ByteArray} (h : (∀ v m', m.load src k = .ok (v, m') → k ∈ m'.reads → srcV src' k = srcV src k)) : m.load src' k = m.load src k := by
  unfold Mc.load at h ⊢
  cases hg : getW k m.writes with
  | some x => rfl
  | none =>
    rw [hg] at h
    show (if roomB m k = true then _ else _) = (if roomB m k = true then _ else _)
    by_cases hr : roomB m k = true
    · rw [if_pos hr, if_pos hr]
      rw [h _ _ (by show (if roomB m k = true then _ else _) = _; rw [if_pos hr]) (by show k ∈ m.reads ++ [k]; simp)]
    · rw [if_neg hr, if_neg hr]
theorem one_src {op : Int} {src src' : List Kv} {m : Mc} {a : Vl} {r : List Vl} (h : ∀ m', oneP op src m a r = .ok m' → ∀ k, k ∈ m'.reads → srcV src' k = srcV src k) : oneP op src' m a r = oneP op src m a r := by
  unfold oneP at h ⊢
  by_cases o12 : op = 12
  · rw [if_pos o12, if_pos o12]
  simp only [if_neg o12] at h
  rw [if_neg o12, if_neg o12]
  by_cases o15 : op = 15
  · rw [if_pos o15, if_pos o15]
  simp only [if_neg o15] at h
  rw [if_neg o15, if_neg o15]
  by_cases o20 : op = 20
  · simp only [if_pos o20] at h
    rw [if_pos o20, if_pos o20]
    by_cases hk : keyE a ≠ 0
    · rw [if_pos hk, if_pos hk]
    · simp only [if_neg hk] at h
      rw [if_neg hk, if_neg hk]
      have hl : m.load src' a.s = m.load src a.s := load_src fun v m' he hm => by
        rw [he] at h
        exact h _ rfl _ hm
      rw [hl]
  simp only [if_neg o20] at h
  rw [if_neg o20, if_neg o20]
  by_cases o21 : op = 21
  · simp only [if_pos o21] at h
    rw [if_pos o21, if_pos o21]
    by_cases hk : keyE a ≠ 0
    · rw [if_pos hk, if_pos hk]
    · simp only [if_neg hk] at h
      rw [if_neg hk, if_neg hk]
      have hl : m.load src' a.s = m.load src a.s := load_src fun v m' he hm => by
        rw [he] at h
        exact h _ rfl _ hm
      rw [hl]
  simp only [if_neg o21] at h
  rw [if_neg o21, if_neg o21]
theorem on_src {p : Pr} {args : List Vl} {src src' : List Kv} {m : Mc} {i : Is} (h : ∀ m', onP p args src m i = .ok m' → ∀ k, k ∈ m'.reads → srcV src' k = srcV src k) : onP p args src' m i = onP p args src m i := by
  unfold onP at h ⊢
  by_cases o1 : i.op ≤ 6
  · rw [if_pos o1, if_pos o1]
  simp only [if_neg o1] at h
  rw [if_neg o1, if_neg o1]
  by_cases o2 : i.op = 18
  · rw [if_pos o2, if_pos o2]
  simp only [if_neg o2] at h
  rw [if_neg o2, if_neg o2]
  by_cases o3 : i.op = 19
  · rw [if_pos o3, if_pos o3]
  simp only [if_neg o3] at h
  rw [if_neg o3, if_neg o3]
  by_cases o4 : takes i.op = 2
  · rw [if_pos o4, if_pos o4]
  simp only [if_neg o4] at h
  rw [if_neg o4, if_neg o4]
  cases hs : m.st with
  | nil => rfl
  | cons a r =>
    rw [hs] at h
    have : oneP i.op src' m a r = oneP i.op src m a r := one_src fun m' he k hk => by
      have h2 := h ({ m' with at_ := m.at_ + 1 } : Mc)
      simp only [he] at h2
      exact h2 rfl k hk
    show Except.map _ (oneP i.op src' m a r) = _
    rw [this]
theorem two_reads {op : Int} {m m' : Mc} {a b : Vl} {r : List Vl} (h : twoP op m a b r = .ok m') : m'.reads = m.reads := by
  have wr : ∀ {n n' : Mc} {x : Wr}, n.write x = .ok n' → n'.reads = n.reads := fun {n n' x} hw => by
    unfold Mc.write at hw
    split at hw
    · cases hw
    · split at hw <;> cases hw
      rfl
  unfold twoP at h
  by_cases o1 : op = 13
  · rw [if_pos o1] at h; cases h; rfl
  rw [if_neg o1] at h
  by_cases o2 : op = 14
  · rw [if_pos o2] at h; cases h; rfl
  rw [if_neg o2] at h
  by_cases o3 : op = 24
  · rw [if_pos o3] at h
    split at h
    · split at h
      · cases h; rfl
      · cases h
    · cases h
  rw [if_neg o3] at h
  by_cases o4 : op = 22
  · rw [if_pos o4] at h
    split at h
    · split at h
      · cases h
      · exact (wr h).trans rfl
    · cases h
  rw [if_neg o4] at h
  split at h
  · split at h
    · cases h; rfl
    split at h
    · cases h; rfl
    split at h
    · cases h; rfl
    · cases h
  · cases h
theorem one_reads {op : Int} {src : List Kv} {m m' : Mc} {a : Vl} {r : List Vl} (h : oneP op src m a r = .ok m') : ∀ k ∈ m.reads, k ∈ m'.reads := by
  have wr : ∀ {n n' : Mc} {x : Wr}, n.write x = .ok n' → n'.reads = n.reads := fun {n n' x} hw => by
    unfold Mc.write at hw
    split at hw
    · cases hw
    · split at hw <;> cases hw
      rfl
  have ld : ∀ {n n' : Mc} {k : ByteArray} {v : Vl}, n.load src k = .ok (v, n') → ∀ j ∈ n.reads, j ∈ n'.reads := fun {n n' k v} hl j hj => by
    unfold Mc.load at hl
    split at hl
    · cases hl; exact hj
    · split at hl <;> cases hl
      exact List.mem_append_left _ hj
  intro k hk
  unfold oneP at h
  by_cases o12 : op = 12
  · rw [if_pos o12] at h
    split at h
    · split at h
      · cases h
      · cases h; exact hk
    · cases h
  rw [if_neg o12] at h
  by_cases o15 : op = 15
  · rw [if_pos o15] at h
    split at h
    · cases h; exact hk
    · cases h
  rw [if_neg o15] at h
  by_cases o20 : op = 20
  · rw [if_pos o20] at h
    split at h
    · cases h
    · split at h
      · rename_i v m1 hl
        cases h
        exact ld hl k hk
      · cases h
  rw [if_neg o20] at h
  by_cases o21 : op = 21
  · rw [if_pos o21] at h
    split at h
    · cases h
    · split at h
      · rename_i v m1 hl
        cases h
        exact ld hl k hk
      · cases h
  rw [if_neg o21] at h
  by_cases o23 : op = 23
  · rw [if_pos o23] at h
    split at h
    · cases h
    · rw [wr h]; exact hk
  rw [if_neg o23] at h
  by_cases o25 : op = 25
  · rw [if_pos o25] at h
    split at h
    · cases h; exact hk
    · cases h
  rw [if_neg o25] at h
  by_cases o26 : op = 26
  · rw [if_pos o26] at h
    split at h
    · split at h
      · cases h; exact hk
      · cases h
    · cases h
  rw [if_neg o26] at h
  by_cases o27 : op = 27
  · rw [if_pos o27] at h
    split at h
    · cases h; exact hk
    · cases h
  rw [if_neg o27] at h
  by_cases o28 : op = 28
  · rw [if_pos o28] at h
    cases h; exact hk
  rw [if_neg o28] at h
  by_cases o29 : op = 29
  · rw [if_pos o29] at h
    split at h
    · cases h
    · split at h
      · cases h
      · cases h; exact hk
  rw [if_neg o29] at h
  split at h
  · split at h <;> cases h
  · cases h
theorem on_reads {p : Pr} {args : List Vl} {src : List Kv} {m m1 : Mc} {i : Is} (h : onP p args src m i = .ok m1) : ∀ k ∈ m.reads, k ∈ m1.reads := by
  intro k hk
  unfold onP at h
  split at h
  · cases h
    show k ∈ (movP p args m i).reads
    unfold movP
    repeat' split
    all_goals exact hk
  split at h
  · cases h; exact hk
  split at h
  · split at h
    · split at h <;> cases h
      exact hk
    · cases h
  split at h
  · split at h
    · rename_i a b r _
      cases hq : twoP i.op m a b r with
      | ok m2 => rw [hq] at h; cases h; exact (show k ∈ m2.reads from by rw [two_reads hq]; exact hk)
      | error e => rw [hq] at h; cases h
    · cases h
  · split at h
    · rename_i a r _
      cases hq : oneP i.op src m a r with
      | ok m2 => rw [hq] at h; cases h; exact (show k ∈ m2.reads from one_reads hq k hk)
      | error e => rw [hq] at h; cases h
    · cases h
theorem run_reads {p : Pr} {args : List Vl} {src : List Kv} : ∀ (n : Nat) (m : Mc), ∀ k ∈ m.reads, k ∈ (runP p args src n m).2.reads
  | 0, m, k, hk => hk
  | n + 1, m, k, hk => by
    unfold runP
    cases hs : stepP p args src m with
    | inl x =>
      unfold stepP at hs
      split at hs
      · cases hs; exact hk
      split at hs
      · cases hs; exact hk
      split at hs
      · cases hs
      · cases hs; exact hk
    | inr m' =>
      refine run_reads n m' k ?_
      unfold stepP at hs
      split at hs
      · cases hs
      split at hs
      · cases hs
      split at hs
      · rename_i m2 ho
        cases hs
        exact on_reads ho k hk
      · cases hs
/-- over another source that says the same of what was read a run is the same -/
theorem run_src {p : Pr} {args : List Vl} {src src' : List Kv} : ∀ (n : Nat) (m : Mc), (∀ k ∈ (runP p args src n m).2.reads, srcV src' k = srcV src k) → runP p args src' n m = runP p args src n m
  | 0, m, h => rfl
  | n + 1, m, h => by
    have hs : stepP p args src' m = stepP p args src m := by
      unfold runP stepP at h
      unfold stepP
      by_cases hf : m.fuel = 0
      · rw [if_pos hf, if_pos hf]
      rw [if_neg hf, if_neg hf]
      simp only [if_neg hf] at h
      by_cases hr : (p.code.getD m.at_ is0).op = 31
      · rw [if_pos hr, if_pos hr]
      rw [if_neg hr, if_neg hr]
      simp only [if_neg hr] at h
      have : onP p args src' m.tick (p.code.getD m.at_ is0) = onP p args src m.tick (p.code.getD m.at_ is0) := on_src fun m' he k hk => by
        rw [he] at h
        exact h k (run_reads n m' k hk)
      rw [this]
    unfold runP at h ⊢
    rw [hs]
    cases hx : stepP p args src m with
    | inl x => rfl
    | inr m' =>
      rw [hx] at h
      exact run_src n m' h
end Go.Proofs.YtdmogoaaecdbaaaGreatDoor

namespace Go.Proofs.YtdmogoaaecdbaaaGreatDoor
open Go.RowKit
set_option linter.unusedVariables false
set_option linter.unusedSimpArgs false

theorem mul_back {a b c : Int} (hb0 : b ≠ 0) (hm : ∃ k : Int, c = a * b + k * 18446744073709551616) (hb : -9223372036854775808 ≤ b ∧ b ≤ 9223372036854775807) (hd : c.tdiv b = a) : c = a * b := by
  have h1 := Int.mul_tdiv_add_tmod c b
  rw [hd] at h1
  have h2 : (c.tmod b).natAbs < b.natAbs := by
    rw [Int.natAbs_tmod]; exact Nat.mod_lt _ (by omega)
  obtain ⟨k, hk⟩ := hm
  rw [Int.mul_comm] at h1
  omega
theorem endP_stop {p : Pr} {args : List Vl} {src : List Kv} {m : Mc} {i : Is} {e : Er} (hf : m.fuel ≠ 0) (hi : p.code.getD m.at_ is0 = i) (hr : i.op ≠ 31) (ho : onP p args src m.tick i = .error e) : endP p args src m = (e, m.tick) := by
  refine endP_end ?_
  unfold stepP
  rw [if_neg hf, hi, if_neg hr, ho]
theorem endP_on {p : Pr} {args : List Vl} {src : List Kv} {m m1 : Mc} {i : Is} (hf : m.fuel ≠ 0) (hi : p.code.getD m.at_ is0 = i) (hr : i.op ≠ 31) (ho : onP p args src m.tick i = .ok m1) : endP p args src m = endP p args src m1 := by
  refine endP_go ?_
  unfold stepP
  rw [if_neg hf, hi, if_neg hr, ho]
theorem endP_ret {p : Pr} {args : List Vl} {src : List Kv} {m : Mc} {i : Is} (hf : m.fuel ≠ 0) (hi : p.code.getD m.at_ is0 = i) (hr : i.op = 31) : endP p args src m = ((0, 0), m.tick) := by
  refine endP_end ?_
  unfold stepP
  rw [if_neg hf, hi, if_pos hr]
def sumPr (op : Int) : Pr := ⟨2, [], [⟨2, 0⟩, ⟨2, 1⟩, ⟨op, 0⟩, ⟨29, 0⟩, ⟨31, 0⟩]⟩
def sumO (op a b : Int) : Oc := match arithP op a b with | .ok n => ⟨0, 4, 0, [numVl n], [], [], [], 95⟩ | .error e => ⟨e, 2, 0, [], [], [], [], 97⟩
def sumOp (op : Int) : Prop := op = 7 ∨ op = 8 ∨ op = 9 ∨ op = 10 ∨ op = 11
theorem sum_check {op : Int} (h : sumOp op) : (sumPr op).check = (0, 0) := by
  rcases h with rfl | rfl | rfl | rfl | rfl <;> kernel_rfl
theorem arithP_err {op a b e : Int} (h : arithP op a b = .error e) : e = 70 ∨ e = 71 := by
  unfold arithP at h
  repeat' split at h
  all_goals (first | (injection h with h; omega) | cases h)
theorem okA_num (a : Int) : okA (numVl a) = true := by unfold okA numVl Vl.ok; simp
theorem sum_end {op a b : Int} (h : sumOp op) : endP (sumPr op) [numVl a, numVl b] [] (mc0 100) = match arithP op a b with | .ok n => ((0, 0), ⟨[], 4, 95, [0, 1, 2, 3, 4], [numVl n], [], []⟩) | .error e => ((e, 0), ⟨[numVl b, numVl a], 2, 97, [0, 1, 2], [], [], []⟩) := by
  rw [endP_on (m1 := ⟨[numVl a], 1, 99, [0], [], [], []⟩) (i := ⟨2, 0⟩) (of_decide_eq_true rfl) rfl (by decide) rfl,
    endP_on (m1 := ⟨[numVl b, numVl a], 2, 98, [0, 1], [], [], []⟩) (i := ⟨2, 1⟩) (of_decide_eq_true rfl) rfl (by decide) rfl]
  have ho : onP (sumPr op) [numVl a, numVl b] [] (Mc.tick ⟨[numVl b, numVl a], 2, 98, [0, 1], [], [], []⟩) ⟨op, 0⟩ = (match arithP op a b with | .ok n => .ok ⟨[numVl n], 3, 97, [0, 1, 2], [], [], []⟩ | .error e => .error (e, 0)) := by
    rcases h with rfl | rfl | rfl | rfl | rfl <;> (unfold onP twoP; simp only [Mc.tick, numVl]; cases arithP _ a b <;> rfl)
  cases hx : arithP op a b with
  | error e =>
    rw [hx] at ho
    rw [endP_stop (i := ⟨op, 0⟩) (of_decide_eq_true rfl) rfl (by rcases h with rfl | rfl | rfl | rfl | rfl <;> decide) ho]
    rfl
  | ok n =>
    rw [hx] at ho
    rw [endP_on (i := ⟨op, 0⟩) (of_decide_eq_true rfl) rfl (by rcases h with rfl | rfl | rfl | rfl | rfl <;> decide) ho,
      endP_on (m1 := ⟨[], 4, 96, [0, 1, 2, 3], [numVl n], [], []⟩) (i := ⟨29, 0⟩) (of_decide_eq_true rfl) rfl (by decide) rfl,
      endP_ret (i := ⟨31, 0⟩) (of_decide_eq_true rfl) rfl rfl]
    rfl
theorem sum_run {op a b : Int} (h : sumOp op) : runO (sumPr op) [numVl a, numVl b] [] true 100 = sumO op a b := by
  unfold runO
  rw [sum_check h, if_neg (by decide), if_neg (by
    show ¬ (_ && List.all [numVl a, numVl b] okA) = false
    simp only [List.all_cons, List.all_nil, okA_num]
    rw [show okArgs (sumPr op) [numVl a, numVl b] true 100 = true from rfl]
    decide)]
  show endO (endP (sumPr op) [numVl a, numVl b] [] (mc0 100)) = _
  rw [sum_end h]
  unfold sumO
  cases hx : arithP op a b with
  | ok n => rfl
  | error e =>
    have he := arithP_err hx
    show Oc.mk _ _ _ _ _ _ _ _ = _
    have h0 : ¬ e = 0 := by omega
    simp only [if_neg h0]
    rfl
end Go.Proofs.YtdmogoaaecdbaaaGreatDoor

namespace Go.Proofs.YtdmogoaaecdbaaaGreatDoor
open Go.RowKit
set_option linter.unusedVariables false
set_option linter.unusedSimpArgs false

section
variable {key : ByteArray} {v : Vl}
end
end Go.Proofs.YtdmogoaaecdbaaaGreatDoor

namespace Go.Proofs.YtdmogoaaecdbaaaGreatDoor
open Go.RowKit Go.ChangeShapes
set_option linter.unusedVariables false
set_option linter.unusedSimpArgs false
set_option maxRecDepth 100000

def lst : List (String × DataW Unit) := [("math/bits.deBruijn32tab", Rows.laid_math_bits_deBruijn32tab), ("math/bits.deBruijn64tab", Rows.laid_math_bits_deBruijn64tab), ("internal/strconv.uint64pow10", Rows.laid_internal_strconv_uint64pow10), ("strconv.ErrRange", Rows.laid_strconv_ErrRange), ("strconv.ErrSyntax", Rows.laid_strconv_ErrSyntax)]
theorem ty_pow : (Tryz.prog.globals[1]?).map (·.type) = some 246 := by kernel_rfl
theorem ty_rng : (Tryz.prog.globals[5]?).map (·.type) = some 118 := by kernel_rfl
theorem co_pow : Tryz.prog.cellsOf 246 = 20 := by kernel_rfl
theorem co_u64 : Tryz.prog.cellsOf 154 = 1 := by kernel_rfl
theorem co_es : Tryz.prog.cellsOf 298 = 1 := by kernel_rfl
theorem co_st : Tryz.prog.cellsOf 9 = 1 := by kernel_rfl
theorem star : "*" ++ "errors.errorString" = "*errors.errorString" := by decide
theorem row_es (u : TypeId) (h : Tryz.prog.typeName? 3 u = some "*errors.errorString") : u = 296 :=
  typeName_ptr_named (nm := "errors.errorString") (by rw [star]; kernel_rfl) (by kernel_rfl) (by decide) u (by rw [star]; exact h)
theorem pow_data : (Rows.laid_internal_strconv_uint64pow10 : DataW Unit) = Lib.tabData .u64 Lib.pow10Tab := by kernel_rfl
theorem lt_of_var {W : World} {n : String} {g : Nat} {x : Array Value} (e : Tryz.prog.globalNamed n = some g) (hvar : W.var? Tryz.prog n = some x) : g < W.heap.size := by
  unfold World.var? at hvar
  rw [e] at hvar
  simp only [Option.bind_some] at hvar
  cases ho : W.heap[g]? with
  | none => rw [ho] at hvar; cases hvar
  | some o => exact (Array.getElem?_eq_some_iff.1 ho).1
theorem env_of_laid {W : World} (h : laidMet Tryz.prog lst W) : Env W := by
  have h3 : laidMet Tryz.prog (("internal/strconv.uint64pow10", Lib.tabData .u64 Lib.pow10Tab) :: ("strconv.ErrRange", Rows.laid_strconv_ErrRange) :: [("strconv.ErrSyntax", Rows.laid_strconv_ErrSyntax)]) W := by
    have := h.tail.tail
    rw [pow_data] at this
    exact this
  obtain ⟨a, s, hv, _⟩ := laid_sentinel h3.tail gRng ty_rng Tryz.underlying118 row_es Tryz.underlying296 Tryz.underlying298 rfl rfl Tryz.underlying9 co_es co_st
  refine ⟨Lib.tabIs_of_head gPow ty_pow Tryz.underlying246 Tryz.underlying154 co_u64 co_pow h3, ⟨_, _, hv⟩, ?_⟩
  have h1 := lt_of_var gRng hv
  obtain ⟨ps, ⟨g', t', cs, fuel, p, q, hg', ht', hvar, _⟩, _⟩ := h.tail
  have e : Tryz.prog.globalNamed "math/bits.deBruijn64tab" = some 3 := by kernel_rfl
  have h2 := lt_of_var e hvar
  omega
/-- so many blocks has the settled world -/
noncomputable def low : Nat := (World.holding Tryz.prog default ⟨#[], #[], []⟩).heap.size
def u8s (l : List Int) : Array Value := (l.map fun n => Value.int .u8 n).toArray
noncomputable def laidWorld (os : Os) : World :=
  let w0 := World.holding Tryz.prog os ⟨#[.cells #[.string ⟨#[118, 97, 108, 117, 101, 32, 111, 117, 116, 32, 111, 102, 32, 114, 97, 110, 103, 101]⟩] 298, .cells #[.string ⟨#[105, 110, 118, 97, 108, 105, 100, 32, 115, 121, 110, 116, 97, 120]⟩] 298], #[], []⟩
  { w0 with heap := ((((w0.heap.modify 5 fun
      | .cells _ t frozen => .cells #[.iface 296 (.pointer (some ⟨low, 0, none⟩))] t frozen
      | o => o).modify 4 fun
      | .cells _ t frozen => .cells #[.iface 296 (.pointer (some ⟨low + 1, 0, none⟩))] t frozen
      | o => o).modify 1 fun
      | .cells _ t frozen => .cells (Lib.pow10Tab.map fun z => Value.int .u64 z).toArray t frozen
      | o => o).modify 2 fun
      | .cells _ t frozen => .cells (u8s [0, 1, 28, 2, 29, 14, 24, 3, 30, 22, 20, 15, 25, 17, 4, 8, 31, 27, 13, 23, 21, 19, 16, 7, 26, 12, 18, 6, 11, 5, 10, 9]) t frozen
      | o => o).modify 3 fun
      | .cells _ t frozen => .cells (u8s [0, 1, 56, 2, 57, 49, 28, 3, 61, 58, 42, 50, 38, 29, 17, 4, 62, 47, 59, 36, 45, 43, 51, 22, 53, 39, 33, 30, 24, 18, 12, 5, 63, 55, 48, 27, 60, 41, 37, 16, 46, 35, 44, 21, 52, 32, 23, 11, 54, 26, 40, 15, 34, 20, 31, 10, 25, 14, 19, 9, 13, 8, 7, 6]) t frozen
      | o => o }
theorem laid_met (os : Os) (args : Array Value) : laidMet Tryz.prog lst ((laidWorld os).forCall (fun _ _ => 0) ⟨#[], args, []⟩).memory :=
  laidMet_of_run' 8 (by kernel_rfl) (by kernel_rfl)
end Go.Proofs.YtdmogoaaecdbaaaGreatDoor

namespace Go.Proofs.YtdmogoaaecdbaaaGreatDoor
open Go.ChangeShapes Go.WideShapes Go.ChangeAt Go.RowKit

theorem trodAll_below {H : Type} {enc : TypeId × Value → H} {P : Program} (hl : laidOutB P = true) {W W' : World} (hb : Below W.heap.size W W') :
    ∀ {ts : List TypeId} {vs : List Value} {ds : List (DataW H)} {ps : List MemPlace}, ts.all (fun t => P.readableRec t && decide (t < P.types.size)) = true → (∀ x ∈ ps, x.block < W.heap.size) →
      DataW.TrodAll enc P W 0 (fun _ => true) true ts vs ds ps → DataW.TrodAll enc P W' 0 (fun b => decide (b < W.heap.size)) true ts vs ds ps := by
  intro ts
  induction ts with
  | nil =>
    intro vs ds ps _ _ h
    obtain ⟨rfl, rfl, rfl⟩ := trodAll_nil h
    exact trodAll_mk0
  | cons t ts ih =>
    intro vs ds ps hr hlt h
    obtain ⟨v, vs', d, ds', p, q, rfl, rfl, rfl, h0, h1⟩ := trodAll_cons h
    simp only [List.all_cons, Bool.and_eq_true, decide_eq_true_eq] at hr
    exact trodAll_cons_mk (Below.trod hl hr.1.1 hr.1.2 h0 hb fun x hx => hlt x (List.mem_append_left _ hx)) (ih hr.2 (fun x hx => hlt x (List.mem_append_right _ hx)) h1)

theorem law_post {H : Type} {enc : TypeId × Value → H} {P : Program} {f : Func} {s : ChangeSpec} {W W' : World} {args : Array Value} {ds gs : List (DataW H)} {before : List MemPlace} {tb : TypeId}
    (hl : laidOutB P = true) (hrow : f.params.toList.all (fun t => P.readableRec t && decide (t < P.types.size)) = true) (hres : f.resultTypes = #[tb]) (htb : P.underlying tb = some .bool)
    (hv : s.vars = []) (hW : DataW.Whole enc P f.params.toList s.vars false W args.toList ds gs before)
    (hs : (s.fn H (ds ++ gs)).results = [.lit (.bool true)]) (ha : (s.fn H (ds ++ gs)).args = ds) (hvs : (s.fn H (ds ++ gs)).vars = []) (hb : Below W.heap.size W W') :
    s.post enc P f false true false false W args (.bool true) W' := by
  have hlt : ∀ p ∈ before, p.block < W.heap.size := fun p hp => hW.lt p hp
  have hW' := hW
  obtain ⟨p, q, hA, hV, rfl, _, _⟩ := hW
  rw [hv] at hV
  obtain ⟨rfl, rfl⟩ := trodVars_none hV
  refine ⟨ds, [], _, [], p, [], hW', ?_, ?_, ?_, World.keptBut_mono (fun x hx => ?_) (hb.frame (· ∈ p)), fun h => by cases h⟩
  · rw [hs, hres]
    exact trodAll_cons_mk (shut_bool htb _) trodAll_mk0
  · rw [ha]
    exact trodAll_below hl hb hrow (fun x hx => hlt x (List.mem_append_left _ hx)) hA
  · rw [hv, hvs]; rfl
  · exact ⟨by simpa using hx, .inr (.inl hx)⟩

end Go.Proofs.YtdmogoaaecdbaaaGreatDoor

namespace Go.Proofs.YtdmogoaaecdbaaaGreatDoor
open Go.RowKit Go.Deep Go.ChangeShapes
set_option linter.unusedVariables false
set_option linter.unusedSimpArgs false
set_option maxRecDepth 10000

theorem list3 {α : Type} {l : List α} (h : l.length = 3) : ∃ a b c, l = [a, b, c] := by
  match l, h with
  | [a, b, c], _ => exact ⟨a, b, c, rfl⟩
theorem list2 {α : Type} {l : List α} (h : l.length = 2) : ∃ a b, l = [a, b] := by
  match l, h with
  | [a, b], _ => exact ⟨a, b, rfl⟩
def big : Nat := 140737488351232
def WB (l : List Nat) : Prop := ∀ n ∈ l, n ≤ big
theorem WB.app {l m : List Nat} (h : WB (l ++ m)) : WB l ∧ WB m := ⟨fun n hn => h n (List.mem_append_left _ hn), fun n hn => h n (List.mem_append_right _ hn)⟩
theorem WB.cons {a : Nat} {m : List Nat} (h : WB (a :: m)) : a ≤ big ∧ WB m := ⟨h a List.mem_cons_self, fun n hn => h n (List.mem_cons_of_mem _ hn)⟩
theorem WB.of_all {l : List Nat} (h : l.all (· ≤ reachBytes) = true) : WB l := fun n hn => by
  exact (of_decide_eq_true (List.all_eq_true.1 h n hn) : n ≤ reachBytes)
theorem cell_lt {w : World} {a : Addr} {v : Value} (h : w.cell? a = some v) : a.block < w.heap.size := by
  by_cases hl : a.block < w.heap.size
  · exact hl
  · exfalso
    have : w.heap[a.block]? = none := by simp; omega
    unfold World.cell? at h
    split at h <;> simp_all
theorem add_plain (b o j : Nat) : (⟨b, o, none⟩ : Addr).add j = ⟨b, o + j, none⟩ := by
  unfold Addr.add; split <;> simp_all
theorem pickS {α : Type} (R : Nat → α → Prop) : ∀ len : Nat, (∀ i, i < len → ∃ a, R i a) → ∃ us : List α, us.length = len ∧ ∀ i (h : i < us.length), R i us[i] := by
  intro len
  induction len with
  | zero => intro _; exact ⟨[], rfl, fun i h => absurd h (by simp)⟩
  | succ n ih =>
    intro h
    obtain ⟨us, hl, hR⟩ := ih fun i hi => h i (by omega)
    obtain ⟨a, ha⟩ := h n (by omega)
    refine ⟨us ++ [a], by simp [hl], fun i hi => ?_⟩
    by_cases hin : i < us.length
    · rw [List.getElem_append_left hin]; exact hR i hin
    · have : i = us.length := by simp at hi; omega
      subst this
      rw [List.getElem_append_right (by omega)]
      simpa [hl] using ha
theorem weightsAll_mem {H : Type} {P : Program} {e : TypeId} {d : DataW H} : ∀ {l : List (DataW H)}, d ∈ l → ∀ n ∈ d.weights P e, n ∈ DataW.weightsAll P e l := by
  intro l
  induction l with
  | nil => intro h; cases h
  | cons x l ih =>
    intro h n hn
    simp only [DataW.weightsAll, List.mem_append]
    rcases List.mem_cons.1 h with rfl | h
    · exact .inl hn
    · exact .inr (ih h n hn)
/-- a slice's cells, element by element; no part is greater than a machine can hold -/
theorem open_rowsS {α H : Type} {enc : TypeId × Value → H} {w : World} {base : Nat} {spare : Nat → Bool} {held : Bool} {t e : TypeId} {fuel : Nat} {cs : List Value} {x : DataW H × List MemPlace}
    (cf : α → List Value) (ok : α → Prop) (sz : Nat) (hsz : 0 < sz) (hcf : ∀ a, (cf a).length = sz) (ht : Tryz.prog.underlying t = some (.slice e)) (hce : Tryz.prog.cellsOf e = sz)
    (hE : ∀ n cs' y, DataW.trod enc Tryz.prog w base spare held n e cs' = some y → WB (y.1.weights Tryz.prog e) → ∃ a, cs' = cf a ∧ ok a)
    (h : DataW.trod enc Tryz.prog w base spare held fuel t cs = some x) (hw : WB (x.1.weights Tryz.prog t)) :
    ∃ (A : Option Addr) (us : List α) (c : Nat), cs = [.slice A us.length c] ∧ Rd (fun b => b < w.heap.size) w sz A us.length (us.flatMap cf) ∧ (∀ a ∈ us, ok a) ∧ us.length * Tryz.prog.bytesOf e ≤ big := by
  rcases open_slice ht h with ⟨rfl, rfl⟩ | ⟨a, len, cap, m, n, D, Pl, rfl, hb, hl, hm, hmm, rfl, hx⟩
  · exact ⟨none, [], 0, rfl, Rd.nil_, by simp, by simp⟩
  · have hlm : len ≤ m := by rw [hmm]; split <;> omega
    simp only [DataW.weights, ht] at hw
    obtain ⟨hw1, hw2⟩ := hw.cons
    obtain ⟨hw3, _⟩ := hw2.app
    obtain ⟨us, hal, hR⟩ := pickS (fun i r => ok r ∧ ∃ cs', cs' = cf r ∧ w.cells? base (a.add (i * sz)) sz = some cs') len (fun i hi => by
      obtain ⟨cs', h1, h2⟩ := hx i (by omega)
      rw [hce] at h1
      obtain ⟨r, e1, e2⟩ := hE _ _ _ h2 (fun u hu => hw3 u (weightsAll_mem (List.mem_map.2 ⟨i, List.mem_range.2 hi, rfl⟩) u hu))
      exact ⟨r, e2, cs', e1, h1⟩)
    refine ⟨some a, us, cap, by rw [hal], ⟨?_, fun h0 => ?_⟩, fun r hr => ?_, ?_⟩
    · exact flat_length cf sz hcf us
    · obtain ⟨_, cs0, e1, e2⟩ := hR 0 h0
      obtain ⟨_, h3, h4⟩ := World.cells?_some e2
      have h5 := h4 0 hsz
      rw [List.getElem?_eq_getElem (by omega)] at h5
      simp at h5
      obtain ⟨b, o, sp⟩ := a
      have h8 : sp = none := by have := World.cell?_spot h5; simpa [Addr.add] using this
      have h9 : b < w.heap.size := by have := cell_lt h5; simpa [Addr.add] using this
      subst h8
      refine ⟨b, o, rfl, h9, h9, fun j u hu => ?_⟩
      have hj : j / sz < us.length := by
        have h1 := (List.getElem?_eq_some_iff.1 hu).1
        rw [flat_length cf sz hcf] at h1
        exact Nat.div_lt_of_lt_mul (by rw [Nat.mul_comm]; exact h1)
      have hjm := Nat.mod_lt j hsz
      have hdm : j / sz * sz + j % sz = j := by rw [Nat.mul_comm]; exact Nat.div_add_mod j sz
      obtain ⟨_, cs1, f1, f2⟩ := hR _ hj
      obtain ⟨_, f3, f4⟩ := World.cells?_some f2
      have f5 := f4 _ hjm
      rw [add_plain, add_plain, Nat.add_assoc, hdm] at f5
      rw [← hdm, flat_at cf sz hcf us _ _ hj hjm, ← f1, ← f5] at hu
      exact hu
    · obtain ⟨i, hi, rfl⟩ := List.mem_iff_getElem.1 hr
      exact (hR i hi).1
    · simp only [List.length_map, List.length_range] at hw1
      rw [hal]
      exact Nat.le_trans (Nat.mul_le_mul_right _ (Nat.le_add_right _ _)) hw1
section
variable {H : Type} {enc : TypeId × Value → H} {w : World} {base : Nat} {spare : Nat → Bool} {held : Bool} {fuel : Nat} {cs : List Value} {x : DataW H × List MemPlace}
theorem fieldAt {fs : Array Field} {xs : List (DataW H × List MemPlace)} {n : Nat} (hf : ∀ (i : Nat) (f : Field), fs[i]? = some f → DataW.trod enc Tryz.prog w base spare held n f.type ((cs.drop f.offset).take (Tryz.prog.cellsOf f.type)) = xs[i]?) (i : Nat) {f : Field} (T : TypeId) (o k : Nat) {y : DataW H × List MemPlace}
    (hi : fs[i]? = some f) (hT : f.type = T) (ho : f.offset = o) (hc : Tryz.prog.cellsOf T = k) (hx : xs[i]? = some y) : DataW.trod enc Tryz.prog w base spare held n T ((cs.drop o).take k) = some y := by
  have := hf i f hi
  rw [hT, ho, hc, hx] at this
  exact this
theorem cof_int : Tryz.prog.cellsOf 3 = 1 := by kernel_rfl
theorem cof_i64 : Tryz.prog.cellsOf 2 = 1 := by kernel_rfl
theorem cof_str : Tryz.prog.cellsOf 9 = 1 := by kernel_rfl
theorem cof_val : Tryz.prog.cellsOf 55 = 3 := by kernel_rfl
theorem cof_vals : Tryz.prog.cellsOf 23 = 1 := by kernel_rfl
theorem byt_val : Tryz.prog.bytesOf 55 = 32 := by kernel_rfl
theorem wf_i64 {n : Int} (h : (Lit.int .i64 n).wf = true) : -9223372036854775808 ≤ n ∧ n ≤ 9223372036854775807 := by
  simpa [Lit.wf, IntKind.min, IntKind.max, IntKind.bits, IntKind.signed] using h
theorem str_len (s : ByteArray) : s.data.toList.length = s.size := by rw [Array.length_toList]; rfl
theorem open_vl (h : DataW.trod enc Tryz.prog w base spare held fuel 55 cs = some x) (hw : WB (x.1.weights Tryz.prog 55)) : ∃ v : Vl, cs = v.cells ∧ v.rng ∧ v.s.size ≤ big := by
  obtain ⟨xs, n, _, rfl, hl, hlen, hf⟩ := DataW.trod_struct Tryz.underlying55 h
  rw [cof_val] at hl
  obtain ⟨c0, c1, c2, rfl⟩ := list3 hl
  obtain ⟨y0, y1, y2, rfl⟩ := list3 hlen
  have h0 := fieldAt hf 0 3 0 1 (y := y0) rfl rfl rfl cof_int rfl
  have h1 := fieldAt hf 1 2 1 1 (y := y1) rfl rfl rfl cof_i64 rfl
  have h2 := fieldAt hf 2 9 2 1 (y := y2) rfl rfl rfl cof_str rfl
  obtain ⟨k, e0, r0, _⟩ := DataW.trod_int Tryz.underlying3 (x := y0) h0
  obtain ⟨i, e1, r1, w1⟩ := DataW.trod_int Tryz.underlying2 (x := y1) h1
  obtain ⟨s, e2, r2, _⟩ := DataW.trod_string Tryz.underlying9 (x := y2) h2
  simp at e0 e1 e2
  subst e0 e1 e2 r0 r1 r2
  refine ⟨⟨k, i, s⟩, rfl, wf_i64 w1, ?_⟩
  have := hw s.data.toList.length (by simp [DataW.weights, DataW.weightsEach, Tryz.underlying55])
  rw [str_len] at this
  exact this
end
end Go.Proofs.YtdmogoaaecdbaaaGreatDoor


/- quorum: a bid that is alone comes to its end: the plain law. -/
import Derived.Test.YtbgopicpdpkccaaGRun
namespace Go.Proofs.Ytbgopicpdpkccaa
open Go.RowKit
set_option linter.unusedVariables false
set_option linter.unusedSimpArgs false

def wt (m : Ml) : Nat := if m.kind = 1 ∨ m.kind = 3 then 2 else 1
def wts (l : List Ml) : Nat := (l.map wt).sum
theorem wts_cons (m : Ml) (l : List Ml) : wts (m :: l) = wt m + wts l := by unfold wts; rw [List.map_cons, List.sum_cons]
theorem wts_app (l l' : List Ml) : wts (l ++ l') = wts l + wts l' := by unfold wts; rw [List.map_append, List.sum_append]
theorem wt_pos (m : Ml) : 1 ≤ wt m := by unfold wt; split <;> omega
theorem len_wts (l : List Ml) : l.length ≤ wts l := by
  induction l with
  | nil => simp [wts]
  | cons m l ih => rw [wts_cons, List.length_cons]; have := wt_pos m; omega
theorem wts_range (n : Nat) (f : Nat → Ml) (k : Nat) (h : ∀ j, wt (f j) = k) : wts ((List.range n).map f) = n * k := by
  unfold wts
  rw [List.map_map]
  have : (wt ∘ f) = fun _ => k := by funext j; exact h j
  rw [this]
  induction n with
  | zero => simp
  | succ n ih => rw [List.range_succ, List.map_append, List.sum_append, ih, Nat.succ_mul]; simp
theorem wts_one {m : Ml} (h : m.kind = 2 ∨ m.kind = 4 ∨ m.kind = 5) : wts [m] = 1 := by
  unfold wts wt
  rw [List.map_singleton, List.sum_singleton, if_neg (by omega)]
def bidPot (b : Bal) (N : Nat) (x : Sl) : Nat := match x.bid with
  | none => 0
  | some d => if d.bal = b then (if d.acc = true then N else 3 * N) else 0
/-- all that is under way is of one ballot -/
structure Run (b : Bal) (i : Nat) (s : Int) (N F : Nat) (G : Gr) : Prop where
  len : G.nds.length = N
  hi : i < N
  own : b.nd = i
  msg : ∀ m ∈ G.mail, m.slot = s ∧ m.bal = b ∧ 1 ≤ m.kind ∧ m.kind ≤ 5 ∧ 0 ≤ m.dst ∧ m.dst < N ∧ (m.kind = 2 ∨ m.kind = 4 → m.dst = i)
  pot : wts G.mail + bidPot b N (G.at_ i s) ≤ F
theorem bidPot_cnts {b : Bal} {N : Nat} {x : Sl} {m : Ml} {a : Bool} {d2 : Bd} (hb : m.bal = b) (h : x.cnts m a = some d2) : bidPot b N x = (if a = true then N else 3 * N) ∧ d2.bal = b ∧ d2.acc = a := by
  obtain ⟨d, h1, h2, h3, h4, rfl⟩ := Sl.cnts_some h
  unfold bidPot
  rw [h1]
  simp only
  rw [h2, hb, if_pos rfl, h3]
  exact ⟨rfl, rfl, rfl⟩
section
variable {b : Bal} {i N F : Nat} {s : Int} {G G' : Gr} {m : Ml} {rest L : List Ml} {x' : Sl}
theorem Run.step (h : Run b i s N F G) (hF : F ≤ 1000) (hN : N ≤ 9) (hm : G.mail = m :: rest) (hx : FirstX G m rest x' L G') : Run b i s N (F - 1) G' ∧ G'.mail = rest ++ L ∧ 1 ≤ F := by
  have hmm := h.msg m (by rw [hm]; exact List.mem_cons_self)
  obtain ⟨m1, m2, m3, m4, m5, m6, m7⟩ := hmm
  have hlen := h.len
  have hpot := h.pot
  rw [hm, wts_cons] at hpot
  have hrl := len_wts rest
  have hw := wt_pos m
  have hx' := hx.what
  have hLN : L.length ≤ 9 := by
    rcases hx' with ⟨_, h1⟩ | ⟨_, _, rfl⟩
    · cases h1 with
      | told h1 => exact absurd ⟨m3, m4⟩ h1
      | won _ _ _ _ _ _ => simp; omega
      | done _ _ _ _ => simp; omega
      | late _ _ => simp
      | prep _ _ => simp
      | acc _ _ => simp
      | no2 _ _ => simp
      | ans1 _ _ _ _ => simp
      | no4 _ _ => simp
      | ans2 _ _ _ _ => simp
      | known _ _ => simp
      | learn _ _ => simp
    · simp
  have hmail := hx.mail (by omega)
  refine ⟨?_, hmail, by omega⟩
  have key : ∀ (hL : ∀ m' ∈ L, m'.slot = s ∧ m'.bal = b ∧ 1 ≤ m'.kind ∧ m'.kind ≤ 5 ∧ 0 ≤ m'.dst ∧ m'.dst < N ∧ (m'.kind = 2 ∨ m'.kind = 4 → m'.dst = i)) (hp : wts L + bidPot b N (G'.at_ i s) + 1 ≤ wt m + bidPot b N (G.at_ i s)), Run b i s N (F - 1) G' := fun hL hp => by
    refine ⟨hx.len.trans hlen, h.hi, h.own, fun m' hm' => ?_, ?_⟩
    · rw [hmail] at hm'
      rcases List.mem_append.1 hm' with hm' | hm'
      · exact h.msg m' (by rw [hm]; exact List.mem_cons_of_mem _ hm')
      · exact hL m' hm'
    · rw [hmail, wts_app]; omega
  have hown := h.own
  have hhi := h.hi
  have hati : bidPot b N (G'.at_ i s) = bidPot b N (if i = m.dst.toNat then x' else G.at_ i s) := by
    rw [hx.at_]
    by_cases e : i = m.dst.toNat
    · rw [if_pos ⟨e, m1.symm⟩, if_pos e]
    · rw [if_neg fun h => e h.1, if_neg e]
  have same : x'.bid = (G.at_ m.dst.toNat m.slot).bid → bidPot b N (G'.at_ i s) = bidPot b N (G.at_ i s) := fun e => by
    rw [hati]
    by_cases ei : i = m.dst.toNat
    · rw [if_pos ei]
      unfold bidPot
      rw [e, ← ei, m1]
    · rw [if_neg ei]
  rcases hx' with ⟨hu, h1⟩ | ⟨hu, rfl, rfl⟩
  · generalize hX : G.at_ m.dst.toNat m.slot = x at *
    cases h1 with
    | late h1 h2 => exact key (fun _ h => (by cases h)) (by rw [same rfl]; simp [wts]; omega)
    | prep h1 h2 =>
      refine key (fun m' hm' => ?_) ?_
      · rw [List.mem_singleton] at hm'
        subst hm'
        exact ⟨m1, m2, by simp, by simp, by simp only; rw [m2, hown]; omega, by simp only; rw [m2, hown]; omega, fun _ => by simp only; rw [m2, hown]⟩
      · rw [same rfl]
        have e1 : wt m = 2 := by unfold wt; rw [if_pos (.inl h1)]
        rw [e1, wts_one (.inl rfl)]
        omega
    | acc h1 h2 =>
      refine key (fun m' hm' => ?_) ?_
      · rw [List.mem_singleton] at hm'
        subst hm'
        exact ⟨m1, m2, by simp, by simp, by simp only; rw [m2, hown]; omega, by simp only; rw [m2, hown]; omega, fun _ => by simp only; rw [m2, hown]⟩
      · rw [same rfl]
        have e1 : wt m = 2 := by unfold wt; rw [if_pos (.inr h1)]
        rw [e1, wts_one (.inr (.inl rfl))]
        omega
    | no2 h1 h2 => exact key (fun _ h => (by cases h)) (by rw [same rfl]; simp [wts]; omega)
    | no4 h1 h2 => exact key (fun _ h => (by cases h)) (by rw [same rfl]; simp [wts]; omega)
    | known h1 h2 => exact key (fun _ h => (by cases h)) (by rw [same rfl]; simp [wts]; omega)
    | learn h1 h2 => exact key (fun _ h => (by cases h)) (by rw [same rfl]; simp [wts]; omega)
    | told h1 => exact absurd ⟨m3, m4⟩ h1
    | ans1 d2 h1 h2 h3 =>
      have ei : i = m.dst.toNat := by have := m7 (.inl h1); omega
      obtain ⟨p1, p2, p3⟩ := bidPot_cnts (N := N) m2 h2
      refine key (fun _ h => (by cases h)) ?_
      rw [hati, if_pos ei, ei, ← m1, hX, p1]
      unfold bidPot
      simp only [p2, p3, if_pos]
      simp [wts]; omega
    | ans2 d2 h1 h2 h3 =>
      have ei : i = m.dst.toNat := by have := m7 (.inr h1); omega
      obtain ⟨p1, p2, p3⟩ := bidPot_cnts (N := N) m2 h2
      refine key (fun _ h => (by cases h)) ?_
      rw [hati, if_pos ei, ei, ← m1, hX, p1]
      unfold bidPot
      simp only [p2, p3, if_pos]
      simp [wts]; omega
    | won d2 best h1 h2 h3 h4 =>
      have ei : i = m.dst.toNat := by have := m7 (.inl h1); omega
      obtain ⟨p1, p2, p3⟩ := bidPot_cnts (N := N) m2 h2
      refine key (fun m' hm' => ?_) ?_
      · obtain ⟨j, hj, rfl⟩ := List.mem_map.1 hm'
        have := List.mem_range.1 hj
        exact ⟨m1, p2, by simp, by simp, by simp only; omega, by simp only; omega, fun h => by simp at h⟩
      · rw [hati, if_pos ei, ei, ← m1, hX, p1, wts_range _ _ 2 (fun j => rfl), hlen]
        unfold bidPot
        simp only [p2, if_pos]
        simp
        omega
    | done d2 h1 h2 h3 =>
      have ei : i = m.dst.toNat := by have := m7 (.inr h1); omega
      obtain ⟨p1, p2, p3⟩ := bidPot_cnts (N := N) m2 h2
      refine key (fun m' hm' => ?_) ?_
      · obtain ⟨j, hj, rfl⟩ := List.mem_map.1 hm'
        have := List.mem_range.1 hj
        exact ⟨m1, m2, by simp, by simp, by simp only; omega, by simp only; omega, fun h => by simp at h⟩
      · rw [hati, if_pos ei, ei, ← m1, hX, p1, wts_range _ _ 1 (fun j => rfl), hlen]
        unfold bidPot
        simp
        omega
  · exact key (fun _ h => (by cases h)) (by rw [same rfl]; simp [wts]; omega)
end

end Go.Proofs.Ytbgopicpdpkccaa

/- quorum: what is chosen: the plain law. -/
import Derived.Test.YtbgopicpdpkccaaGAct
namespace Go.Proofs.Ytbgopicpdpkccaa
open Go.RowKit
set_option linter.unusedVariables false
set_option linter.unusedSimpArgs false

/-- the counts, and the best vote that a majority has -/
def Gr.tally (G : Gr) (s : Int) : Nat → List (Bal × Int) × Vt
  | 0 => ([], vt0)
  | k + 1 =>
    let a := (G.at_ k s).accd
    let c := (getA a.bal (G.tally s k).1).getD 0 + 1
    (setA a.bal c (G.tally s k).1, if 0 < a.bal.rd ∧ c = ((G.nds.length / 2 + 1 : Nat) : Int) ∧ 0 < cmpB a.bal (G.tally s k).2.bal then a else (G.tally s k).2)
def Gr.chosen (G : Gr) (s : Int) : Vt := (G.tally s G.nds.length).2
def Gr.have_ (G : Gr) (s : Int) (k : Nat) (b : Bal) : List Nat := (List.range k).filter fun j => decide ((G.at_ j s).accd.bal = b)
theorem tally_count (G : Gr) (s : Int) (b : Bal) : ∀ k, (getA b (G.tally s k).1).getD 0 = ((G.have_ s k b).length : Int) := by
  intro k
  induction k with
  | zero => rfl
  | succ k ih =>
    unfold Gr.tally Gr.have_
    simp only
    rw [getA_set, List.range_succ, List.filter_append, List.length_append]
    by_cases e : b = (G.at_ k s).accd.bal
    · rw [if_pos e, ← e, ih]
      unfold Gr.have_
      simp [← e]
    · have e2 : ¬ (G.at_ k s).accd.bal = b := fun h => e h.symm
      rw [if_neg e, ih]
      unfold Gr.have_
      simp [e2]
theorem tally_bound (G : Gr) (s : Int) (b : Bal) (k : Nat) : 0 ≤ (getA b (G.tally s k).1).getD 0 ∧ (getA b (G.tally s k).1).getD 0 ≤ k := by
  rw [tally_count]
  have := List.length_filter_le (fun j => decide ((G.at_ j s).accd.bal = b)) (List.range k)
  rw [List.length_range] at this
  unfold Gr.have_
  omega
theorem tally_best (G : Gr) (s : Int) : ∀ k, k ≤ G.nds.length → (G.tally s k).2 = vt0 ∨ ∃ j, j < k ∧ (G.tally s k).2 = (G.at_ j s).accd ∧ 0 < (G.tally s k).2.bal.rd ∧ IsQ G.nds.length (G.have_ s (j + 1) (G.tally s k).2.bal) := by
  intro k
  induction k with
  | zero => intro _; exact .inl rfl
  | succ k ih =>
    intro hk
    unfold Gr.tally
    simp only
    by_cases hc : 0 < (G.at_ k s).accd.bal.rd ∧ (getA (G.at_ k s).accd.bal (G.tally s k).1).getD 0 + 1 = ((G.nds.length / 2 + 1 : Nat) : Int) ∧ 0 < cmpB (G.at_ k s).accd.bal (G.tally s k).2.bal
    · rw [if_pos hc]
      refine .inr ⟨k, by omega, rfl, hc.1, ?_, fun f hf => ?_, ?_⟩
      · exact List.Pairwise.filter _ List.nodup_range
      · have := List.mem_range.1 (List.mem_filter.1 hf).1
        omega
      · have h1 := hc.2.1
        rw [tally_count] at h1
        have h2 : (G.have_ s (k + 1) (G.at_ k s).accd.bal).length = (G.have_ s k (G.at_ k s).accd.bal).length + 1 := by
          unfold Gr.have_
          rw [List.range_succ, List.filter_append, List.length_append]
          simp
        omega
    · rw [if_neg hc]
      rcases ih (by omega) with h | ⟨j, h1, h2⟩
      · exact .inl h
      · exact .inr ⟨j, by omega, h2⟩
theorem Safe.chosen {s : Int} {pr K : ByteArray → Prop} {G : Gr} {g : Gho} (h : Safe s pr G g K) (hc : 0 < (G.chosen s).bal.rd) : Chos G g (G.chosen s).text := by
  rcases tally_best G s G.nds.length (Nat.le_refl _) with h0 | ⟨j, h1, h2, h3, h4⟩
  · unfold Gr.chosen at hc
    rw [h0] at hc
    exact absurd hc (by decide)
  · have hacc : ∀ f, f < G.nds.length → 0 < (G.at_ f s).accd.bal.rd → g.A f (G.at_ f s).accd.bal ∧ g.P (G.at_ f s).accd.bal (G.at_ f s).accd.text := fun f hf hp => by
      rcases (h.node f hf).acc with e | e
      · rw [e] at hp; exact absurd hp (by decide)
      · exact e
    unfold Gr.chosen
    refine ⟨(G.tally s G.nds.length).2.bal, _, ?_, h4, fun f hf => ?_⟩
    · rw [h2]
      exact (hacc j h1 (by rw [← h2]; exact h3)).2
    · obtain ⟨f1, f2⟩ := List.mem_filter.1 hf
      have f2 := of_decide_eq_true f2
      have f3 := h4.2.1 f hf
      rw [← f2]
      exact (hacc f f3 (by rw [f2]; exact h3)).1

end Go.Proofs.Ytbgopicpdpkccaa

/- QuorumAgrees: the walk of the law. -/
import Derived.Test.YtbgopicpdpkccaaGActW
import Derived.Test.YtbgopicpdpkccaaGChosW
import Derived.Test.YtbgopicpdpkccaaGHas
namespace Go.Proofs.Ytbgopicpdpkccaa
open Go.RowKit
set_option linter.unusedVariables false
set_option linter.unusedSimpArgs false

/-- what is known of a slot, after some acts -/
def Tale (s : Int) (G : Gr) (l : List ByteArray) (b : Bool) (t : ByteArray) : Prop := ∃ g, Safe s (fun t' => t' ∈ l) G g (fun t' => b = true ∧ t' = t)
theorem Tale.know {s : Int} {G : Gr} {l : List ByteArray} {b : Bool} {t t' : ByteArray} (h : Tale s G l b t) (hc : ∀ g, Safe s (fun t' => t' ∈ l) G g (fun t' => b = true ∧ t' = t) → Chos G g t') : (b = true → t' = t) ∧ Tale s G l true t' := by
  obtain ⟨g, h⟩ := h
  have h' := hc g h
  exact ⟨fun e => h.one h' (h.know t ⟨e, rfl⟩), g, { h with know := fun t2 ht => ht.2 ▸ h' }⟩
theorem Tale.said {s : Int} {G : Gr} {l : List ByteArray} {t : ByteArray} (h : Tale s G l true t) : t ∈ l := by
  obtain ⟨g, h⟩ := h
  exact h.pr_of (h.know t ⟨rfl, rfl⟩)
theorem Tale.new (k : Nat) (s : Int) (t : ByteArray) : Tale s (grN k) [] false t := by
  have h := Safe.new k s
  refine ⟨⟨fun _ _ => False, fun _ _ => False⟩, { ps := fun _ _ h => h.elim, aP := fun _ _ h => h.elim, node := fun n hn => (h.node n hn).grow (pr' := fun t' => t' ∈ []) ⟨rfl, fun _ => Int.le_refl _, fun _ => Bal.refl _, fun _ _ => id, fun _ _ => id, fun _ _ => .inl⟩ (fun _ h => h.elim) (fun _ => id) (fun _ _ _ _ => id), msg := h.msg, know := fun _ h => (by cases h.1) }⟩
theorem Tale.act {N : Nat} {K : Int} {s : Int} {G G' : Gr} {l : List ByteArray} {b : Bool} {t : ByteArray} (h : Tale s G l b t) (hf : Fit N K G) {a : GA} (ha : G.Act a G') : Tale s G' (if G.said a = true ∧ a.slot = s then l ++ [a.text] else l) b t := by
  obtain ⟨g, h⟩ := h
  obtain ⟨g', h'⟩ := h.act hf ha
  refine ⟨g', h'.weak fun t' ht => ?_⟩
  split
  · rcases ht with ht | ⟨_, rfl⟩
    · exact List.mem_append_left _ ht
    · simp
  · rename_i hc
    rcases ht with ht | ⟨hx, _⟩
    · exact ht
    · exact absurd hx hc
theorem Safe.learned {s : Int} {pr K : ByteArray → Prop} {G : Gr} {g : Gho} (h : Safe s pr G g K) {n : Int} (hc : (G.st n s).is = true) : Chos G g (G.st n s).text := by
  unfold Gr.st at hc ⊢
  split at hc
  · rename_i hd
    rw [if_pos hd]
    exact (h.node n.toNat (by omega)).lrnd hc
  · cases hc

end Go.Proofs.Ytbgopicpdpkccaa

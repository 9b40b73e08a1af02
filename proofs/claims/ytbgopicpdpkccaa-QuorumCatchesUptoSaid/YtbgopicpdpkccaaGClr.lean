/- quorum: bids gone: the plain law of Crash. -/
import Derived.Test.YtbgopicpdpkccaaGActs
namespace Go.Proofs.Ytbgopicpdpkccaa
open Go.RowKit
set_option linter.unusedVariables false
set_option linter.unusedSimpArgs false

theorem getA_mapv {α β : Type} (f : Int → α → β) (k : Int) : ∀ (l : List (Int × α)), getA k (l.map fun p => (p.1, f p.1 p.2)) = (getA k l).map (f k) := by
  intro l
  induction l with
  | nil => rfl
  | cons p l ih =>
    by_cases h : k = p.1
    · simp [getA, h]
    · simp [getA, h, ih]
theorem Once.get {α : Type} {l : List (Int × α)} (h : Once l) {p : Int × α} (hp : p ∈ l) : getA p.1 l = some p.2 := by
  unfold Once at h
  induction l with
  | nil => cases hp
  | cons q l ih =>
    rw [List.map_cons, List.nodup_cons] at h
    rcases List.mem_cons.1 hp with rfl | hp
    · simp [getA]
    · have hne : ¬ p.1 = q.1 := fun e => h.1 (List.mem_map.2 ⟨p, hp, e⟩)
      simp only [getA, hne, if_false]
      exact ih h.2 hp
theorem setA_mapv {α β : Type} (f : Int → α → β) (k : Int) (y : β) : ∀ {l : List (Int × α)}, Once l → (getA k l).isSome → setA k y (l.map fun p => (p.1, f p.1 p.2)) = l.map fun p => (p.1, if p.1 = k then y else f p.1 p.2) := by
  intro l
  induction l with
  | nil => intro _ h; cases h
  | cons p l ih =>
    intro ho hg
    have ho' := ho
    unfold Once at ho'
    rw [List.map_cons, List.nodup_cons] at ho'
    by_cases h : k = p.1
    · subst h
      simp only [List.map_cons, setA, if_true]
      congr 1
      refine List.map_congr_left fun q hq => ?_
      rw [if_neg fun e => ho'.1 (List.mem_map.2 ⟨q, hq, e⟩)]
    · have h2 : ¬ p.1 = k := fun e => h e.symm
      have hg2 : (getA k l).isSome := by simpa [getA, h] using hg
      simp only [List.map_cons, setA, h, if_false, h2]
      rw [ih (show Once l from ho'.2) hg2]
def Sl.calm (x : Sl) : Sl := { x with bid := none }
def Gr.clr (G : Gr) (i : Nat) (done : Int → Bool) : Gr := G.setNd i ⟨false, (G.nd i).sl.map fun p => (p.1, if done p.1 then p.2.calm else p.2)⟩
def Gr.crash (G : Gr) (n : Int) : Gr := if 0 ≤ n ∧ n < G.nds.length ∧ (G.nd n.toNat).up = true then G.clr n.toNat fun _ => true else G
theorem clr_len (G : Gr) (i : Nat) (d : Int → Bool) : (G.clr i d).nds.length = G.nds.length := Gr.len_set _ _ _
theorem clr_nd {G : Gr} {i : Nat} (hi : i < G.nds.length) (d : Int → Bool) : (G.clr i d).nd i = ⟨false, (G.nd i).sl.map fun p => (p.1, if d p.1 then p.2.calm else p.2)⟩ := by
  unfold Gr.clr
  rw [Gr.nd_set _ _ _ _ hi, if_pos rfl]
theorem clr_get {G : Gr} {i : Nat} (hi : i < G.nds.length) (d : Int → Bool) (k : Int) : getA k ((G.clr i d).nd i).sl = (getA k (G.nd i).sl).map fun x => if d k then x.calm else x := by
  rw [clr_nd hi]
  exact getA_mapv (fun (k : Int) (x : Sl) => if d k then x.calm else x) k _
theorem clr_set {G : Gr} {i : Nat} (hi : i < G.nds.length) (ho : Once (G.nd i).sl) (d : Int → Bool) {k : Int} {x : Sl} (hx : getA k (G.nd i).sl = some x) : (G.clr i d).setSl i k x.calm = G.clr i fun j => decide (j = k) || d j := by
  unfold Gr.setSl
  rw [clr_nd hi]
  simp only
  rw [setA_mapv (fun (k : Int) (x : Sl) => if d k then x.calm else x) k x.calm ho (by rw [hx]; rfl)]
  unfold Gr.clr Gr.setNd
  simp only [List.set_set]
  congr 3
  refine List.map_congr_left fun p hp => ?_
  have hg := ho.get hp
  by_cases e : p.1 = k
  · rw [e] at hg ⊢
    rw [hx] at hg
    injection hg with hg
    simp [hg]
  · simp [e]
theorem clr_congr {G : Gr} {i : Nat} {d d' : Int → Bool} (h : ∀ p ∈ (G.nd i).sl, d p.1 = d' p.1) : G.clr i d = G.clr i d' := by
  unfold Gr.clr
  congr 2
  refine List.map_congr_left fun p hp => ?_
  rw [h p hp]
section
variable {G : Gr}
theorem clr_none {i : Nat} (hi : i < G.nds.length) : G.clr i (fun _ => false) = G.setNd i { G.nd i with up := false } := by
  unfold Gr.clr
  congr 1
  simp
end

end Go.Proofs.Ytbgopicpdpkccaa

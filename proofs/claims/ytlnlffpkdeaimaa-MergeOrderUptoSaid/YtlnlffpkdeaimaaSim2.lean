/- How the two Merges go on together. -/
import Derived.Test.YtlnlffpkdeaimaaSim
namespace Go.Proofs.Ytlnlffpkdeaimaa
open Go.RowKit
set_option linter.unusedVariables false

section
variable {W w2 w3 w4 wr w' : World} {n : Int} {g mb gR i : Nat} {e s : Int} {H H' : List ((Int × Int) × HV)} {S S' : Nat → Prop} {AL AL' : Option Addr} {cL cL' : Nat} {L L' : List ((Int × Int) × HV)}
theorem held_len (H : List ((Int × Int) × HV)) : (held H).length = H.length := by simp [held]
theorem arrHeld_len (n e s : Int) (L : List ((Int × Int) × List Pl)) (x t : Int) (ps : List Pl) : (arrHeld n e s L x t ps).length ≤ L.length + 1 := by
  unfold arrHeld
  split
  · omega
  · split
    · omega
    · split
      · omega
      · split <;> simp
/-- writes that touch neither -/
theorem Sim.far (R : Sim W n g mb gR i e s H S AL cL L wr) {M : Nat → Prop} (hu : Upd M wr w') (hM : ∀ k, M k → W.heap.size ≤ k ∧ k ≠ g ∧ k ≠ mb ∧ k ≠ gR ∧ ¬ S k ∧ ∀ h ∈ H, ¬ h.2.S k) : Sim W n g mb gR i e s H S AL cL L w' :=
  { R with
    m := R.m.upd hu (fun h => (hM _ h).2.1 rfl) (fun h => (hM _ h).2.2.1 rfl) (fun h hh k hk hk2 => (hM k hk2).2.2.2.2.2 h hh hk)
    r := R.r.upd hu (fun h => (hM _ h).2.2.2.1 rfl) (fun k hk hk2 => (hM k hk2).2.2.2.2.1 hk)
    below := R.below.trans (hu.below R.below.size fun k hk h => absurd (hM k h).1 (by omega)) }
theorem Sim.arr (R : Sim W n g mb gR i e s H S AL cL L w2) {x t : Int} {ps : List Pl} (hM : MergeAt w3 g mb n e s H') (hH : held H' = arrHeld n e s (held H) x t ps) (hn : ∀ h ∈ H', h ∈ H ∨ ∀ k, h.2.S k → w2.heap.size ≤ k) (hu3 : Upd (fun k => k = mb) w2 w3)
    (hR : RAt S' w4 gR n e s AL' cL' L') (hL : held L' = arrHeld n e s (held L) x t ps) (hS' : ∀ k, S' k → S k ∨ w3.heap.size ≤ k) (hu4 : Upd (fun k => k = gR ∨ S k) w3 w4) : Sim W n g mb gR (i + 1) e s H' S' AL' cL' L' w4 := by
  have hgR : gR < w2.heap.size := R.r.blk.lt
  have hg : g < w2.heap.size := R.m.blk.lt
  have hmb : mb < w2.heap.size := R.m.map.lt
  have hSlt : ∀ k, S k → k < w2.heap.size := fun k hk => (R.r.out k hk).2
  obtain ⟨b1, b2, b3⟩ := R.blks
  have hz2 := R.below.size
  have hz3 := hu3.size
  have hH0 : ∀ h ∈ H', ∀ k, h.2.S k → W.heap.size ≤ k ∧ ¬ S k ∧ k ≠ gR := by
    intro h hh k hk
    rcases hn h hh with h1 | h1
    · exact R.newH h h1 k hk
    · have := h1 k hk
      exact ⟨by omega, fun hS => by have := hSlt k hS; omega, by omega⟩
  refine ⟨hM.upd hu4 ?_ ?_ ?_, hR, ?_, R.e0, by have := R.ei; omega, R.s0, R.sn, R.n16, ?_, R.new, ?_, ?_, ?_⟩
  · rintro (h | h)
    · exact b1 h
    · exact (R.newS g h).2.1 rfl
  · rintro (h | h)
    · exact b2 h
    · exact (R.newS mb h).2.2 rfl
  · rintro h hh k hk (h1 | h1)
    · exact (hH0 h hh k hk).2.2 h1
    · exact (hH0 h hh k hk).2.1 h1
  · rw [hH, hL, R.eq]
  · have := arrHeld_len n e s (held L) x t ps
    rw [← hL, held_len, held_len] at this
    have := R.len
    omega
  · intro h hh k hk
    obtain ⟨h1, h2, h3⟩ := hH0 h hh k hk
    refine ⟨h1, fun hS => ?_, h3⟩
    rcases hS' k hS with h4 | h4
    · exact h2 h4
    · have := (hM.out h hh k hk).2.2; omega
  · intro k hk
    rcases hS' k hk with h4 | h4
    · exact R.newS k h4
    · exact ⟨by omega, by omega, by omega⟩
  · refine (R.below.trans (hu3.below hz2 fun k hk h => ?_)).trans (hu4.below (Nat.le_trans hz2 hz3) fun k hk h => ?_)
    · have := R.new.2.1; omega
    · rcases h with h | h
      · have := R.new.2.2; omega
      · have := (R.newS k h).1; omega
theorem Sim.tak (R : Sim W n g mb gR i e s H S AL cL L w2) {e' s' : Int} (hes : s + 1 = n ∧ e' = e + 1 ∧ s' = 0 ∨ s + 1 ≠ n ∧ e' = e ∧ s' = s + 1) (hM : MergeAt w3 g mb n e' s' (delA (e, s) H)) (hu3 : Upd (fun k => k = g ∨ k = mb) w2 w3)
    (hR : RAt S' w4 gR n e' s' AL' cL' (delA (e, s) L)) (hS' : ∀ k, S' k → S k ∨ w3.heap.size ≤ k) (hu4 : Upd (fun k => k = gR ∨ S k) w3 w4) : Sim W n g mb gR (i + 1) e' s' (delA (e, s) H) S' AL' cL' (delA (e, s) L) w4 := by
  obtain ⟨b1, b2, b3⟩ := R.blks
  have hz2 := R.below.size
  have hz3 := hu3.size
  have hei := R.ei
  have hs0 := R.s0
  have hsn := R.sn
  have he0 := R.e0
  have hsub : ∀ h ∈ delA (e, s) H, h ∈ H := fun h hh => (delA_sub _ H).subset hh
  refine ⟨hM.upd hu4 ?_ ?_ ?_, hR, ?_, by omega, by omega, by omega, by omega, R.n16, ?_, R.new, ?_, ?_, ?_⟩
  · rintro (h | h)
    · exact b1 h
    · exact (R.newS g h).2.1 rfl
  · rintro (h | h)
    · exact b2 h
    · exact (R.newS mb h).2.2 rfl
  · rintro h hh k hk (h1 | h1)
    · exact (R.newH h (hsub h hh) k hk).2.2 h1
    · exact (R.newH h (hsub h hh) k hk).2.1 h1
  · rw [delA_held, delA_held, R.eq]
  · have := (delA_sub (e, s) L).length_le
    have := R.len
    omega
  · intro h hh k hk
    obtain ⟨h1, h2, h3⟩ := R.newH h (hsub h hh) k hk
    refine ⟨h1, fun hS => ?_, h3⟩
    rcases hS' k hS with h4 | h4
    · exact h2 h4
    · have := (hM.out h hh k hk).2.2; omega
  · intro k hk
    rcases hS' k hk with h4 | h4
    · exact R.newS k h4
    · have hg : g < w2.heap.size := R.m.blk.lt
      have hmb : mb < w2.heap.size := R.m.map.lt
      exact ⟨by omega, by omega, by omega⟩
  · refine (R.below.trans (hu3.below hz2 fun k hk h => ?_)).trans (hu4.below (Nat.le_trans hz2 hz3) fun k hk h => ?_)
    · have := R.new; omega
    · rcases h with h | h
      · have := R.new.2.2; omega
      · have := (R.newS k h).1; omega
theorem Sim.next (R : Sim W n g mb gR i e s H S AL cL L wr) : Sim W n g mb gR (i + 1) e s H S AL cL L wr :=
  { R with ei := by have := R.ei; omega, len := by have := R.len; omega }
end

end Go.Proofs.Ytlnlffpkdeaimaa

/- The program's queue beside the document's. -/
import Derived.Test.YtppcjaljhahdnaaQRefSub
import Derived.Test.YtppcjaljhahdnaaQRefused
namespace Go.Proofs.Ytppcjaljhahdnaa
open Go.RowKit
set_option linter.unusedVariables false
set_option linter.unusedSimpArgs false

/-- a plan told, or none -/
def GotI (w : World) (L : List Pl) (i : Int) (e : Ending) (w' : World) : Prop :=
  ∃ (r : RP) (ok : Bool), e = .returned (.tuple #[.agg #[.int .i64 r.p.cl, .int .u64 r.p.tok, .string r.p.nm, .slice r.A1 r.p.args.length r.c1, .int .i64 r.p.how, .slice r.A2 r.p.rd.length r.c2, .slice r.A3 r.p.wr.length r.c3], .bool ok]) ∧
    (if 0 ≤ i ∧ i < L.length then ok = true ∧ some r.p = L[i.toNat]? else ok = false ∧ r.p = ⟨0, 0, ⟨#[]⟩, [], 0, [], []⟩) ∧ r.own w.heap.size w' ∧ Below w.heap.size w w'
theorem GotI.no {w : World} {L : List Pl} {i : Int} (hi : ¬ (0 ≤ i ∧ i < (L.length : Int))) {e : Ending} {w' : World} (h : NoPlan w e w') : GotI w L i e w' := by
  obtain ⟨rfl, hb⟩ := h
  exact ⟨rp0, false, rfl, by rw [if_neg hi]; exact ⟨rfl, rfl⟩, rp0_own _ _, hb⟩
theorem GotI.yes {w : World} {L : List Pl} {n : Nat} (hn : n < L.length) {e : Ending} {w' : World} (h : GotPlan w L[n] e w') : GotI w L n e w' := by
  obtain ⟨r, ⟨hp, rfl⟩, ho, hb⟩ := h
  refine ⟨r, true, rfl, ?_, ho, hb⟩
  rw [if_pos (by omega), hp]; simp [hn]
section
variable {S : Nat → Prop} {w w' : World} {g : Nat} {mt sh wn : Int} {L : List Pl} {T : Int → List Int}
theorem atI (i : Int) (h : QAt S w g mt sh wn L T) : Calls Try.prog 27 #[.pointer (some ⟨g, 0, none⟩), .int .i64 i] w (GotI w L i) := by
  by_cases hi : 0 ≤ i ∧ i < (L.length : Int)
  · obtain ⟨n, rfl⟩ : ∃ n : Nat, i = (n : Int) := ⟨i.toNat, by omega⟩
    exact (at_yes n h (by omega)).mono fun e w' => GotI.yes (by omega)
  · exact (at_no i h (by omega)).mono fun e w' => GotI.no hi
theorem ratI (i : Int) (h : RAt S w g mt sh wn L T) : Calls Try.prog 40 #[.pointer (some ⟨g, 0, none⟩), .int .i64 i] w (GotI w L i) := by
  by_cases hi : 0 ≤ i ∧ i < (L.length : Int)
  · obtain ⟨n, rfl⟩ : ∃ n : Nat, i = (n : Int) := ⟨i.toNat, by omega⟩
    exact (rat_yes n h (by omega)).mono fun e w' => GotI.yes (by omega)
  · exact (rat_no i h (by omega)).mono fun e w' => GotI.no hi
theorem firstI (h : QAt S w g mt sh wn L T) : Calls Try.prog 26 #[.pointer (some ⟨g, 0, none⟩)] w (GotI w L 0) := by
  by_cases hi : 0 < L.length
  · exact (first_yes h hi).mono fun e w' hg => GotI.yes (n := 0) hi hg
  · exact (first_no h (by omega)).mono fun e w' => GotI.no (by omega)
/-- a plan gone from the document's queue, or none -/
def RGonePost (S : Nat → Prop) (w : World) (g : Nat) (mt sh wn : Int) (L : List Pl) (T : Int → List Int) (i : Int) (e : Ending) (w' : World) : Prop :=
  ∃ (r : RP) (ok : Bool), e = .returned (.tuple #[.agg #[.int .i64 r.p.cl, .int .u64 r.p.tok, .string r.p.nm, .slice r.A1 r.p.args.length r.c1, .int .i64 r.p.how, .slice r.A2 r.p.rd.length r.c2, .slice r.A3 r.p.wr.length r.c3], .bool ok]) ∧
    (if 0 ≤ i ∧ i < L.length then ok = true ∧ some r.p = L[i.toNat]? else ok = false ∧ r.p = ⟨0, 0, ⟨#[]⟩, [], 0, [], []⟩) ∧ r.own w.heap.size w' ∧ RGone S w g mt sh wn (outL L i) T w'
theorem routI (i : Int) (h : RAt S w g mt sh wn L T) : Calls Try.prog 46 #[.pointer (some ⟨g, 0, none⟩), .int .i64 i] w (RGonePost S w g mt sh wn L T i) := by
  by_cases hi : 0 ≤ i ∧ i < (L.length : Int)
  · obtain ⟨n, rfl⟩ : ∃ n : Nat, i = (n : Int) := ⟨i.toNat, by omega⟩
    have hn : n < L.length := by omega
    refine (routY n h hn).mono ?_
    rintro e w' ⟨r, ⟨hp, rfl⟩, h1, h2⟩
    refine ⟨r, true, rfl, ?_, h1, ?_⟩
    · rw [if_pos hi, hp]; simp [hn]
    · unfold outL; rw [if_pos hi]; exact h2
  · refine (routN i h (by omega)).mono ?_
    rintro e w' ⟨rfl, hb⟩
    refine ⟨rp0, false, rfl, ?_, rp0_own _ _, ?_⟩
    · rw [if_neg hi]; exact ⟨rfl, rfl⟩
    · unfold outL; rw [if_neg hi]; exact ⟨S, h.below hb, fun k hk => .inl hk, .of_below' hb _⟩
theorem rtakeI (h : RAt S w g mt sh wn L T) : Calls Try.prog 42 #[.pointer (some ⟨g, 0, none⟩)] w (RGonePost S w g mt sh wn L T 0) := by
  by_cases hi : 0 < L.length
  · have hi' : (0 : Int) ≤ 0 ∧ (0 : Int) < (L.length : Int) := by omega
    refine (rtake_yes h hi).mono ?_
    rintro e w' ⟨r, ⟨hp, rfl⟩, h1, h2⟩
    refine ⟨r, true, rfl, ?_, h1, ?_⟩
    · rw [if_pos hi', hp]; simp [hi]
    · unfold outL; rw [if_pos hi']; simpa using h2
  · have hi' : ¬ ((0 : Int) ≤ 0 ∧ (0 : Int) < (L.length : Int)) := by omega
    refine (rtake_no h (by omega)).mono ?_
    rintro e w' ⟨rfl, hb⟩
    refine ⟨rp0, false, rfl, ?_, rp0_own _ _, ?_⟩
    · rw [if_neg hi']; exact ⟨rfl, rfl⟩
    · unfold outL; rw [if_neg hi']; exact ⟨S, h.below hb, fun k hk => .inl hk, .of_below' hb _⟩
theorem RAt.l3 (h : RAt S w g mt sh wn L T) : ∃ A c, w.cell? ⟨g, 3, none⟩ = some (.slice A L.length c) := by
  obtain ⟨bt, A, c, rs, tv, q, rfl⟩ := h
  exact ⟨A, c, by rw [show (plans rs).length = rs.length from by simp [plans]]; exact q.cells.2.2.2.1⟩
end

/-- the two queues hold the same -/
structure Pair (B : Nat) (mt sh wn : Int) (g g' : Nat) (S S' : Nat → Prop) (L : List Pl) (T : Int → List Int) (w : World) : Prop where
  q : QAt S w g mt sh wn L T
  t : RAt S' w g' mt sh wn L T
  newq : ∀ k, S k → B ≤ k
  newt : ∀ k, S' k → B ≤ k
  dis : ∀ k, S k → S' k → False
  bnd : Bnd sh L
section
variable {B : Nat} {mt sh wn : Int} {g g' : Nat} {S S' S1 : Nat → Prop} {L L1 : List Pl} {T T1 : Int → List Int} {w w' : World}
theorem Pair.far {M : Nat → Prop} (h : Pair B mt sh wn g g' S S' L T w) (hu : Upd M w w') (h1 : ∀ k, S k → ¬ M k) (h2 : ∀ k, S' k → ¬ M k) : Pair B mt sh wn g g' S S' L T w' := ⟨h.q.far hu h1, h.t.far hu h2, h.newq, h.newt, h.dis, h.bnd⟩
theorem Pair.step (h : Pair B mt sh wn g g' S S' L T w) (hb : Below w.heap.size w w') : Pair B mt sh wn g g' S S' L T w' := h.far (M := Nil) (.of_below' hb _) (fun _ _ => id) fun _ _ => id
theorem Pair.fits (h : Pair B mt sh wn g g' S S' L T w) : ∀ p ∈ L, p.fits := h.q.fits
/-- the program's queue has acted; the document's has not -/
structure Half (B : Nat) (mt sh wn : Int) (g g' : Nat) (S S' : Nat → Prop) (L : List Pl) (T : Int → List Int) (L1 : List Pl) (T1 : Int → List Int) (w : World) : Prop where
  q : QAt S w g mt sh wn L1 T1
  t : RAt S' w g' mt sh wn L T
  newq : ∀ k, S k → B ≤ k
  newt : ∀ k, S' k → B ≤ k
  dis : ∀ k, S k → S' k → False
  bnd : Bnd sh L
theorem Pair.half (h : Pair B mt sh wn g g' S S' L T w) (hq : QAt S1 w' g mt sh wn L1 T1) (hS : ∀ k, S1 k → S k ∨ w.heap.size ≤ k) (hu : Upd S w w') (hB : B ≤ w.heap.size) : Half B mt sh wn g g' S1 S' L T L1 T1 w' :=
  ⟨hq, h.t.far hu fun k h1 h2 => h.dis k h2 h1, fun k hk => by
    rcases hS k hk with h1 | h1
    · exact h.newq k h1
    · omega, h.newt, fun k h1 h2 => by
    rcases hS k h1 with h3 | h3
    · exact h.dis k h3 h2
    · have := h.t.lt.1 k h2; omega, h.bnd⟩
theorem Half.far {M : Nat → Prop} (h : Half B mt sh wn g g' S S' L T L1 T1 w) (hu : Upd M w w') (h1 : ∀ k, S k → ¬ M k) (h2 : ∀ k, S' k → ¬ M k) : Half B mt sh wn g g' S S' L T L1 T1 w' := ⟨h.q.far hu h1, h.t.far hu h2, h.newq, h.newt, h.dis, h.bnd⟩
theorem Half.step (h : Half B mt sh wn g g' S S' L T L1 T1 w) (hb : Below w.heap.size w w') : Half B mt sh wn g g' S S' L T L1 T1 w' := h.far (M := Nil) (.of_below' hb _) (fun _ _ => id) fun _ _ => id
theorem Half.whole (h : Half B mt sh wn g g' S S' L T L1 T1 w) (hq : RAt S1 w' g' mt sh wn L1 T1) (hS : ∀ k, S1 k → S' k ∨ w.heap.size ≤ k) (hu : Upd S' w w') (hB : B ≤ w.heap.size) (hb : Bnd sh L1) : Pair B mt sh wn g g' S S1 L1 T1 w' :=
  ⟨h.q.far hu fun k h1 h2 => h.dis k h1 h2, hq, h.newq, fun k hk => by
    rcases hS k hk with h1 | h1
    · exact h.newt k h1
    · omega, fun k h1 h2 => by
    rcases hS k h2 with h3 | h3
    · exact h.dis k h1 h3
    · have := h.q.lt.1 k h1; omega, hb⟩
end
/-- an act is done on both, and answered alike -/
def Done (B : Nat) (mt sh wn : Int) (g g' : Nat) (w : World) (e : Ending) (w' : World) : Prop :=
  e = .returned (.bool true) ∧ (∃ S S' L T, Pair B mt sh wn g g' S S' L T w') ∧ Below B w w'

end Go.Proofs.Ytppcjaljhahdnaa

/- queue: First, Out, Take. -/
import Derived.Test.YtppcjaljhahdnaaQOut
namespace Go.Proofs.Ytppcjaljhahdnaa
open Go.RowKit
set_option linter.unusedVariables false
set_option linter.unusedSimpArgs false

theorem own_updB {M : Nat → Prop} {w w' : World} {base : Nat} {e : TypeId} {size n : Nat} {v : Value} {xs : List Value} (h : w.ownsRow base e size v n xs) (hu : Upd M w w') (hM : ∀ k, base ≤ k → k < w.heap.size → ¬ M k) : w'.ownsRow base e size v n xs := by
  refine ⟨h.1, ?_⟩
  rcases h.2 with hn | ⟨g, cap, cur, rfl, hg, hh, rest⟩
  · exact .inl hn
  · have hl : g < w.heap.size := (Array.getElem?_eq_some_iff.1 hh).1
    exact .inr ⟨g, cap, cur, rfl, hg, (hu.block g hl (hM g hg hl)).trans hh, rest⟩
theorem RP.own.upd {M : Nat → Prop} {w w' : World} {base : Nat} {r : RP} (h : r.own base w) (hu : Upd M w w') (hM : ∀ k, base ≤ k → k < w.heap.size → ¬ M k) : r.own base w' :=
  ⟨own_updB h.args hu hM, own_updB h.rd hu hM, own_updB h.wr hu hM⟩
theorem QAt.lt {S : Nat → Prop} {w : World} {g : Nat} {mt sh wn : Int} {L : List Pl} {T : Int → List Int} (h : QAt S w g mt sh wn L T) : (∀ k, S k → k < w.heap.size) ∧ S g := by
  obtain ⟨mo, ms, A, c, rs, of, tk, q, _⟩ := h
  exact ⟨q.lt, q.inS.1⟩

/-- a plan has gone out -/
def OutPlan (S : Nat → Prop) (w : World) (g : Nat) (mt sh wn : Int) (p : Pl) (L' : List Pl) (T : Int → List Int) (e : Ending) (w' : World) : Prop :=
  ∃ r : RP, (r.p = p ∧ e = .returned (.tuple #[.agg #[.int .i64 r.p.cl, .int .u64 r.p.tok, .string r.p.nm, .slice r.A1 r.p.args.length r.c1, .int .i64 r.p.how, .slice r.A2 r.p.rd.length r.c2, .slice r.A3 r.p.wr.length r.c3], .bool true])) ∧ r.own w.heap.size w' ∧ QAt S w' g mt sh wn L' T ∧ Upd S w w'
section
variable {S : Nat → Prop} {w : World} {g : Nat} {mt sh wn : Int} {L : List Pl} {T : Int → List Int}
set_option maxHeartbeats 1000000 in
theorem first_no (h : QAt S w g mt sh wn L T) (hL : L.length = 0) : Calls Try.prog 26 #[.pointer (some ⟨g, 0, none⟩)] w (NoPlan w) := by
  have hg : g < w.heap.size := by
    obtain ⟨mo, ms, A, c, rs, of, tk, q, _⟩ := h
    exact q.blk.lt
  have h1 := h.below ((Below.refl _ _).alloc (Nat.le_refl _) (.cells #[.int .i64 0, .int .u64 0, .string ⟨#[]⟩, .slice none 0 0, .int .i64 0, .slice none 0 0, .slice none 0 0] 40))
  go_enter Try.func26, Try.ntmps26
  go_wp2_with fail
  refine (at_no 0 h1 (.inr (by omega))).mono ?_
  rintro e w1 ⟨rfl, hb1⟩
  have kr : Blk w1 w.heap.size 40 #[.int .i64 0, .int .u64 0, .string ⟨#[]⟩, .slice none 0 0, .int .i64 0, .slice none 0 0, .slice none 0 0] := (Blk.new _ _ _).below_all hb1
  have hz := kr.lt
  have q1 := fun j => kr.frozen j
  have z0 := kr.cell 0
  have z1 := kr.cell 1
  have z2 := kr.cell 2
  have z3 := kr.cell 3
  have z4 := kr.cell 4
  have z5 := kr.cell 5
  have z6 := kr.cell 6
  simp at z0 z1 z2 z3 z4 z5 z6
  go_wp2_with fail
  refine bodyPost_ret (v := .tuple #[.agg #[.int .i64 0, .int .u64 0, .string ⟨#[]⟩, .slice none 0 0, .int .i64 0, .slice none 0 0, .slice none 0 0], .bool false]) (by simp [results, Try.results26, go_sem, z0, z1, z2, z3, z4, z5, z6]) rfl ⟨rfl, ?_⟩
  repeat' (refine Below.setCell ?_ (by simp) _)
  exact ((Below.refl _ _).alloc (Nat.le_refl _) _).trans (hb1.mono (by simp))
set_option maxRecDepth 100000 in
set_option maxHeartbeats 1000000 in
theorem first_yes (h : QAt S w g mt sh wn L T) (hL : 0 < L.length) : Calls Try.prog 26 #[.pointer (some ⟨g, 0, none⟩)] w (GotPlan w L[0]) := by
  have h1 := h.below ((Below.refl _ _).alloc (Nat.le_refl _) (.cells #[.int .i64 0, .int .u64 0, .string ⟨#[]⟩, .slice none 0 0, .int .i64 0, .slice none 0 0, .slice none 0 0] 40))
  go_enter Try.func26, Try.ntmps26
  go_wp2_with fail
  refine (at_yes 0 h1 hL).mono ?_
  rintro e w1 ⟨r', ⟨hp0, rfl⟩, hown, hb1⟩
  have hp1 := hid hp0
  clear hp0
  have kr : Blk w1 w.heap.size 40 #[.int .i64 0, .int .u64 0, .string ⟨#[]⟩, .slice none 0 0, .int .i64 0, .slice none 0 0, .slice none 0 0] := (Blk.new _ _ _).below_all hb1
  have hz := kr.lt
  have q1 := fun j => kr.frozen j
  have z0 := kr.cell 0
  have z1 := kr.cell 1
  have z2 := kr.cell 2
  have z3 := kr.cell 3
  have z4 := kr.cell 4
  have z5 := kr.cell 5
  have z6 := kr.cell 6
  simp at z0 z1 z2 z3 z4 z5 z6
  go_wp2_with fail
  refine bodyPost_ret (v := .tuple #[.agg #[.int .i64 r'.p.cl, .int .u64 r'.p.tok, .string r'.p.nm, .slice r'.A1 r'.p.args.length r'.c1, .int .i64 r'.p.how, .slice r'.A2 r'.p.rd.length r'.c2, .slice r'.A3 r'.p.wr.length r'.c3], .bool true]) (by simp [results, Try.results26, go_sem, z0, z1, z2, z3, z4, z5, z6]) rfl ⟨r', ⟨hp1.out, rfl⟩, ?_, ?_⟩
  · refine RP.own.base (base := w.heap.size + 1) ?_ (by omega)
    have hown' : r'.own (w.heap.size + 1) w1 := hown.base (by simp)
    refine ⟨?_, ?_, ?_⟩
    · repeat' (refine ownsRow_setCell_below ?_ (by simp) _)
      exact hown'.args
    · repeat' (refine ownsRow_setCell_below ?_ (by simp) _)
      exact hown'.rd
    · repeat' (refine ownsRow_setCell_below ?_ (by simp) _)
      exact hown'.wr
  · repeat' (refine Below.setCell ?_ (by simp) _)
    exact ((Below.refl _ _).alloc (Nat.le_refl _) _).trans (hb1.mono (by simp))
end

end Go.Proofs.Ytppcjaljhahdnaa

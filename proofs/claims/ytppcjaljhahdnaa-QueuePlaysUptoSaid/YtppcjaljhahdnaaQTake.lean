/- queue: Out, Take. -/
import Derived.Test.YtppcjaljhahdnaaQTake1
namespace Go.Proofs.Ytppcjaljhahdnaa
open Go.RowKit
set_option linter.unusedVariables false
set_option linter.unusedSimpArgs false

section
variable {S : Nat → Prop} {w : World} {g : Nat} {mt sh wn : Int} {L : List Pl} {T : Int → List Int}
set_option maxHeartbeats 1000000 in
theorem outN (i : Int) (h : QAt S w g mt sh wn L T) (hi : i < 0 ∨ (L.length : Int) ≤ i) : Calls Try.prog 17 #[.pointer (some ⟨g, 0, none⟩), .int .i64 i] w (NoPlan w) := by
  have hg : g < w.heap.size := by
    obtain ⟨mo, ms, A, c, rs, of, tk, q, _⟩ := h
    exact q.blk.lt
  have h1 := h.below ((Below.refl _ _).alloc (Nat.le_refl _) (.cells #[.int .i64 0, .int .u64 0, .string ⟨#[]⟩, .slice none 0 0, .int .i64 0, .slice none 0 0, .slice none 0 0] 40))
  go_enter Try.func17, Try.ntmps17
  go_wp2_with fail
  refine (at_no i h1 hi).mono ?_
  rintro e w1 ⟨rfl, hb1⟩
  have kr : Blk w1 w.heap.size 40 #[.int .i64 0, .int .u64 0, .string ⟨#[]⟩, .slice none 0 0, .int .i64 0, .slice none 0 0, .slice none 0 0] := (Blk.new _ _ _).below_all hb1
  have hz := kr.lt
  have q1 := fun j => kr.frozen j
  have z0 := kr.cell 0
  have z1 := kr.cell 1
  have z2 := kr.cell 2
  have z3 := kr.cell 3
  have z4 := kr.cell 4
  have z5 := kr.cell 5
  have z6 := kr.cell 6
  simp at z0 z1 z2 z3 z4 z5 z6
  have kp : Blk (w1.alloc (.cells #[.int .i64 0, .int .u64 0, .string ⟨#[]⟩, .slice none 0 0, .int .i64 0, .slice none 0 0, .slice none 0 0] 40)) w1.heap.size 40 #[.int .i64 0, .int .u64 0, .string ⟨#[]⟩, .slice none 0 0, .int .i64 0, .slice none 0 0, .slice none 0 0] := Blk.new _ _ _
  have y1 := fun j => kp.frozen j
  have y0 := kp.cell 0
  have y1 := kp.cell 1
  have y2 := kp.cell 2
  have y3 := kp.cell 3
  have y4 := kp.cell 4
  have y5 := kp.cell 5
  have y6 := kp.cell 6
  simp at y0 y1 y2 y3 y4 y5 y6
  go_wp2_with fail
  refine bodyPost_ret (v := .tuple #[.agg #[.int .i64 0, .int .u64 0, .string ⟨#[]⟩, .slice none 0 0, .int .i64 0, .slice none 0 0, .slice none 0 0], .bool false]) (by simp [results, Try.results17, go_sem, z0, z1, z2, z3, z4, z5, z6, hz, Nat.ne_of_lt hz, Nat.ne_of_gt hz]) rfl ⟨rfl, ?_⟩
  refine Below.alloc ?_ (by simp; omega) _
  iterate 7 (refine Below.setCell ?_ (by simp) _)
  exact ((Below.refl w.heap.size w).alloc (Nat.le_refl _) _).trans (hb1.mono (by simp))
set_option maxRecDepth 100000 in
set_option maxHeartbeats 1000000 in
theorem outY (i : Nat) (h : QAt S w g mt sh wn L T) (hi : i < L.length) : Calls Try.prog 17 #[.pointer (some ⟨g, 0, none⟩), .int .i64 i] w (OutPlan S w g mt sh wn L[i] (L.take i ++ L.drop (i + 1)) T) := by
  obtain ⟨hSlt, hSg⟩ := h.lt
  have h1 := h.below ((Below.refl _ _).alloc (Nat.le_refl _) (.cells #[.int .i64 0, .int .u64 0, .string ⟨#[]⟩, .slice none 0 0, .int .i64 0, .slice none 0 0, .slice none 0 0] 40))
  go_enter Try.func17, Try.ntmps17
  go_wp2_with fail
  refine (at_yes i h1 hi).mono ?_
  rintro e w1 ⟨r', ⟨hp0, rfl⟩, hown, hb1⟩
  have hp1 := hid hp0
  clear hp0
  have hB1 : Below w.heap.size w w1 := ((Below.refl _ _).alloc (Nat.le_refl _) _).trans (hb1.mono (by simp))
  have kr : Blk w1 w.heap.size 40 #[.int .i64 0, .int .u64 0, .string ⟨#[]⟩, .slice none 0 0, .int .i64 0, .slice none 0 0, .slice none 0 0] := (Blk.new _ _ _).below_all hb1
  have h2 := (h1.below hb1).below ((Below.refl _ _).alloc (Nat.le_refl _) (.cells #[.int .i64 r'.p.cl, .int .u64 r'.p.tok, .string r'.p.nm, .slice r'.A1 r'.p.args.length r'.c1, .int .i64 r'.p.how, .slice r'.A2 r'.p.rd.length r'.c2, .slice r'.A3 r'.p.wr.length r'.c3] 40))
  have hown : r'.own (w.heap.size + 1) w1 := hown.base (by simp)
  clear h1 hb1
  go_wp2_with fail
  refine (out_any i h2 hi).mono ?_
  rintro e w2 ⟨rfl, h3, hu3⟩
  have hz1 := hB1.size
  have hrlt := kr.lt
  have kr2 := (kr.alloc (.cells #[.int .i64 r'.p.cl, .int .u64 r'.p.tok, .string r'.p.nm, .slice r'.A1 r'.p.args.length r'.c1, .int .i64 r'.p.how, .slice r'.A2 r'.p.rd.length r'.c2, .slice r'.A3 r'.p.wr.length r'.c3] 40)).upd hu3 fun hS => by have := hSlt _ hS; omega
  have kp2 := (Blk.new w1 40 #[.int .i64 r'.p.cl, .int .u64 r'.p.tok, .string r'.p.nm, .slice r'.A1 r'.p.args.length r'.c1, .int .i64 r'.p.how, .slice r'.A2 r'.p.rd.length r'.c2, .slice r'.A3 r'.p.wr.length r'.c3]).upd hu3 fun hS => by have := hSlt _ hS; omega
  have hown2 := RP.own.upd (w := w1.alloc (.cells #[.int .i64 r'.p.cl, .int .u64 r'.p.tok, .string r'.p.nm, .slice r'.A1 r'.p.args.length r'.c1, .int .i64 r'.p.how, .slice r'.A2 r'.p.rd.length r'.c2, .slice r'.A3 r'.p.wr.length r'.c3] 40)) ⟨hown.args.alloc _, hown.rd.alloc _, hown.wr.alloc _⟩ hu3 fun k hk _ hS => by have := hSlt k hS; omega
  have hU : Upd S w w2 := ((Upd.of_below' hB1 S).alloc _).trans hu3 fun _ _ h => h
  have hz2 := kr2.lt
  have hp2lt := kp2.lt
  have q1 := fun j => kr2.frozen j
  have q2 := fun j => kp2.frozen j
  have z0 := kr2.cell 0
  have z1 := kr2.cell 1
  have z2 := kr2.cell 2
  have z3 := kr2.cell 3
  have z4 := kr2.cell 4
  have z5 := kr2.cell 5
  have z6 := kr2.cell 6
  have y0 := kp2.cell 0
  have y1 := kp2.cell 1
  have y2 := kp2.cell 2
  have y3 := kp2.cell 3
  have y4 := kp2.cell 4
  have y5 := kp2.cell 5
  have y6 := kp2.cell 6
  simp at z0 z1 z2 z3 z4 z5 z6 y0 y1 y2 y3 y4 y5 y6
  clear h2 kr kr2 kp2 hown hu3
  go_wp2_with fail
  refine bodyPost_ret (v := .tuple #[.agg #[.int .i64 r'.p.cl, .int .u64 r'.p.tok, .string r'.p.nm, .slice r'.A1 r'.p.args.length r'.c1, .int .i64 r'.p.how, .slice r'.A2 r'.p.rd.length r'.c2, .slice r'.A3 r'.p.wr.length r'.c3], .bool true]) (by simp [results, Try.results17, go_sem, z0, z1, z2, z3, z4, z5, z6]) rfl ⟨r', ⟨hp1.out, rfl⟩, ?_, ?_, ?_⟩
  · refine RP.own.base (base := w.heap.size + 1) ?_ (by omega)
    refine ⟨?_, ?_, ?_⟩
    · iterate 7 (refine ownsRow_setCell_below ?_ (by simp) _)
      exact hown2.args
    · iterate 7 (refine ownsRow_setCell_below ?_ (by simp) _)
      exact hown2.rd
    · iterate 7 (refine ownsRow_setCell_below ?_ (by simp) _)
      exact hown2.wr
  · refine h3.far (M := fun k => k = w.heap.size) ?_ (fun k hk e => by have := hSlt k hk; omega)
    iterate 7 (refine Upd.setCell ?_ (by intro _; rfl) _)
    exact Upd.refl _ _
  · iterate 7 (refine Upd.setCell ?_ (by intro hk; simp at hk) _)
    exact hU
set_option maxHeartbeats 1000000 in
theorem take_no (h : QAt S w g mt sh wn L T) (hL : L.length = 0) : Calls Try.prog 16 #[.pointer (some ⟨g, 0, none⟩)] w (NoPlan w) := by
  have hg : g < w.heap.size := by
    obtain ⟨mo, ms, A, c, rs, of, tk, q, _⟩ := h
    exact q.blk.lt
  have h1 := h.below ((Below.refl _ _).alloc (Nat.le_refl _) (.cells #[.int .i64 0, .int .u64 0, .string ⟨#[]⟩, .slice none 0 0, .int .i64 0, .slice none 0 0, .slice none 0 0] 40))
  go_enter Try.func16, Try.ntmps16
  go_wp2_with fail
  refine (outN 0 h1 (.inr (by omega))).mono ?_
  rintro e w1 ⟨rfl, hb1⟩
  have kr : Blk w1 w.heap.size 40 #[.int .i64 0, .int .u64 0, .string ⟨#[]⟩, .slice none 0 0, .int .i64 0, .slice none 0 0, .slice none 0 0] := (Blk.new _ _ _).below_all hb1
  have hz := kr.lt
  have q1 := fun j => kr.frozen j
  have z0 := kr.cell 0
  have z1 := kr.cell 1
  have z2 := kr.cell 2
  have z3 := kr.cell 3
  have z4 := kr.cell 4
  have z5 := kr.cell 5
  have z6 := kr.cell 6
  simp at z0 z1 z2 z3 z4 z5 z6
  go_wp2_with fail
  refine bodyPost_ret (v := .tuple #[.agg #[.int .i64 0, .int .u64 0, .string ⟨#[]⟩, .slice none 0 0, .int .i64 0, .slice none 0 0, .slice none 0 0], .bool false]) (by simp [results, Try.results16, go_sem, z0, z1, z2, z3, z4, z5, z6]) rfl ⟨rfl, ?_⟩
  iterate 7 (refine Below.setCell ?_ (by simp) _)
  exact ((Below.refl _ _).alloc (Nat.le_refl _) _).trans (hb1.mono (by simp))
set_option maxRecDepth 100000 in
set_option maxHeartbeats 1000000 in
theorem take_yes (h : QAt S w g mt sh wn L T) (hi : 0 < L.length) : Calls Try.prog 16 #[.pointer (some ⟨g, 0, none⟩)] w (OutPlan S w g mt sh wn L[0] (L.drop 1) T) := by
  obtain ⟨hSlt, hSg⟩ := h.lt
  have h1 := h.below ((Below.refl _ _).alloc (Nat.le_refl _) (.cells #[.int .i64 0, .int .u64 0, .string ⟨#[]⟩, .slice none 0 0, .int .i64 0, .slice none 0 0, .slice none 0 0] 40))
  go_enter Try.func16, Try.ntmps16
  go_wp2_with fail
  refine (outY 0 h1 hi).mono ?_
  rintro e w2 ⟨r', ⟨hp0, rfl⟩, hown, h3, hu3⟩
  have hp1 := hid hp0
  clear hp0
  have kr2 := (Blk.new w 40 #[.int .i64 0, .int .u64 0, .string ⟨#[]⟩, .slice none 0 0, .int .i64 0, .slice none 0 0, .slice none 0 0]).upd hu3 fun hS => by have := hSlt _ hS; omega
  have hown2 : r'.own (w.heap.size + 1) w2 := hown.base (by simp)
  have hU : Upd S w w2 := ((Upd.refl S w).alloc _).trans hu3 fun _ _ h => h
  have hz2 := kr2.lt
  have q1 := fun j => kr2.frozen j
  have z0 := kr2.cell 0
  have z1 := kr2.cell 1
  have z2 := kr2.cell 2
  have z3 := kr2.cell 3
  have z4 := kr2.cell 4
  have z5 := kr2.cell 5
  have z6 := kr2.cell 6
  simp at z0 z1 z2 z3 z4 z5 z6
  clear h1 kr2 hown hu3
  go_wp2_with fail
  refine bodyPost_ret (v := .tuple #[.agg #[.int .i64 r'.p.cl, .int .u64 r'.p.tok, .string r'.p.nm, .slice r'.A1 r'.p.args.length r'.c1, .int .i64 r'.p.how, .slice r'.A2 r'.p.rd.length r'.c2, .slice r'.A3 r'.p.wr.length r'.c3], .bool true]) (by simp [results, Try.results16, go_sem, z0, z1, z2, z3, z4, z5, z6]) rfl ⟨r', ⟨hp1.out, rfl⟩, ?_, ?_, ?_⟩
  · refine RP.own.base (base := w.heap.size + 1) ?_ (by omega)
    refine ⟨?_, ?_, ?_⟩
    · iterate 7 (refine ownsRow_setCell_below ?_ (by simp) _)
      exact hown2.args
    · iterate 7 (refine ownsRow_setCell_below ?_ (by simp) _)
      exact hown2.rd
    · iterate 7 (refine ownsRow_setCell_below ?_ (by simp) _)
      exact hown2.wr
  · have h4 : QAt S w2 g mt sh wn (L.drop 1) T := by simpa using h3
    refine h4.far (M := fun k => k = w.heap.size) ?_ (fun k hk e => by have := hSlt k hk; omega)
    iterate 7 (refine Upd.setCell ?_ (by intro _; rfl) _)
    exact Upd.refl _ _
  · iterate 7 (refine Upd.setCell ?_ (by intro hk; simp at hk) _)
    exact hU
end

end Go.Proofs.Ytppcjaljhahdnaa

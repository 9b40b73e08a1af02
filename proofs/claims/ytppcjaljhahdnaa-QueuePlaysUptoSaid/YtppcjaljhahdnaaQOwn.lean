/- queue.own: a plan in lists of its own. -/
import Derived.Test.YtppcjaljhahdnaaQPlan
namespace Go.Proofs.Ytppcjaljhahdnaa
open Go.RowKit
set_option linter.unusedVariables false

def RP.agg (r : RP) : Value := .agg #[.int .i64 r.p.cl, .int .u64 r.p.tok, .string r.p.nm, .slice r.A1 r.p.args.length r.c1, .int .i64 r.p.how, .slice r.A2 r.p.rd.length r.c2, .slice r.A3 r.p.wr.length r.c3]

set_option maxRecDepth 100000 in
set_option maxHeartbeats 1000000 in
theorem own_any (S : Nat → Prop) (r : RP) (w : World) (ha0 : r.ok S w) (hf : r.p.fits) :
    Calls Try.prog 32 #[.agg #[.int .i64 r.p.cl, .int .u64 r.p.tok, .string r.p.nm, .slice r.A1 r.p.args.length r.c1, .int .i64 r.p.how, .slice r.A2 r.p.rd.length r.c2, .slice r.A3 r.p.wr.length r.c3]] w
      fun e w' => ∃ r' : RP, (r'.p = r.p ∧ e = .returned (.agg #[.int .i64 r'.p.cl, .int .u64 r'.p.tok, .string r'.p.nm, .slice r'.A1 r'.p.args.length r'.c1, .int .i64 r'.p.how, .slice r'.A2 r'.p.rd.length r'.c2, .slice r'.A3 r'.p.wr.length r'.c3])) ∧ r'.own w.heap.size w' ∧ Below w.heap.size w w' := by
  have l1 := hf.args
  have l2 := hf.rd
  have l3 := hf.wr
  have ha := ha0.all
  clear ha0
  go_enter Try.func32, Try.ntmps32
  go_wp2_with fail
  have hB0 := below_two (w := w) (.cells #[.int .i64 r.p.cl, .int .u64 r.p.tok, .string r.p.nm, .slice r.A1 r.p.args.length r.c1, .int .i64 r.p.how, .slice r.A2 r.p.rd.length r.c2, .slice r.A3 r.p.wr.length r.c3] 40) (.cells #[.int .i64 0, .int .u64 0, .string ⟨#[]⟩, .slice none 0 0, .int .i64 0, .slice none 0 0, .slice none 0 0] 40)
  refine (cloneV_any _ _ _ _ _ _ (ha.args.keep fun b hb _ => hB0.block b hb) (vcells_one _) l1).mono ?_
  rintro e w1 ⟨v1, rfl, hown1, hb1⟩
  obtain ⟨A1, c1, rfl, _, _⟩ := own_form hown1
  have hB1 : Below w.heap.size w w1 := hB0.trans (hb1.mono (by simp; omega))
  have kb1 : Blk w1 w.heap.size 40 #[.int .i64 r.p.cl, .int .u64 r.p.tok, .string r.p.nm, .slice r.A1 r.p.args.length r.c1, .int .i64 r.p.how, .slice r.A2 r.p.rd.length r.c2, .slice r.A3 r.p.wr.length r.c3] := ((Blk.new _ _ _).alloc _).below_all hb1
  have kr1 : Blk w1 (w.heap.size + 1) 40 #[.int .i64 0, .int .u64 0, .string ⟨#[]⟩, .slice none 0 0, .int .i64 0, .slice none 0 0, .slice none 0 0] := (Blk.new' _ _ _ (by simp)).below_all hb1
  have hz1 := kr1.lt
  have hown1 := own_base (base' := w.heap.size + 2) (by simp) hown1
  have x13 := kb1.cell 3
  have x15 := kb1.cell 5
  have q1 := fun i => kb1.frozen i
  simp at x13 x15
  clear hB0 hb1
  go_wp2_with fail
  have kb2 := kb1.set_ 3 (.slice A1 r.p.args.length c1)
  have kr2 := kr1.far (p := ⟨w.heap.size, 3, none⟩) (by simp) (.slice A1 r.p.args.length c1)
  have hB2 := hB1.setCell (p := ⟨w.heap.size, 3, none⟩) (Nat.le_refl _) (.slice A1 r.p.args.length c1)
  have hown2 := ownsRow_setCell_below hown1 (a := ⟨w.heap.size, 3, none⟩) (by simp) (.slice A1 r.p.args.length c1)
  generalize w1.setCell ⟨w.heap.size, 3, none⟩ (.slice A1 r.p.args.length c1) = W1 at *
  clear kb1 kr1 hB1 hown1 x13 x15 q1
  have hab := ha.keep (w' := W1) fun b hS hl => hB2.block b hS
  refine (cloneS_any _ _ _ _ _ _ hab.rd (str_one _) l2).mono ?_
  rintro e w2 ⟨v2, rfl, hown3, hb3⟩
  obtain ⟨A2, c2, rfl, _, _⟩ := own_form hown3
  have hB3 := hB2.trans (hb3.mono hB2.size)
  have kb3 : Blk w2 w.heap.size 40 #[.int .i64 r.p.cl, .int .u64 r.p.tok, .string r.p.nm, .slice A1 r.p.args.length c1, .int .i64 r.p.how, .slice r.A2 r.p.rd.length r.c2, .slice r.A3 r.p.wr.length r.c3] := kb2.below_all hb3
  have kr3 := kr2.below_all hb3
  have hz3 := kr3.lt
  have hown3 := own_base (base' := w.heap.size + 2) (by have := kr2.lt; omega) hown3
  have hown23 := own_below hown2 hb3
  have x25 := kb3.cell 5
  have x26 := kb3.cell 6
  have q2 := fun i => kb3.frozen i
  simp at x25 x26
  clear hb3 kb2 kr2 hB2 hown2
  go_wp2_with fail
  have kb4 : Blk (w2.setCell ⟨w.heap.size, 5, none⟩ (.slice A2 r.p.rd.length c2)) w.heap.size 40 #[.int .i64 r.p.cl, .int .u64 r.p.tok, .string r.p.nm, .slice A1 r.p.args.length c1, .int .i64 r.p.how, .slice A2 r.p.rd.length c2, .slice r.A3 r.p.wr.length r.c3] := kb3.set_ 5 (.slice A2 r.p.rd.length c2)
  have kr4 := kr3.far (p := ⟨w.heap.size, 5, none⟩) (by simp) (.slice A2 r.p.rd.length c2)
  have hB4 := hB3.setCell (p := ⟨w.heap.size, 5, none⟩) (Nat.le_refl _) (.slice A2 r.p.rd.length c2)
  have hown4 := ownsRow_setCell_below hown23 (a := ⟨w.heap.size, 5, none⟩) (by simp) (.slice A2 r.p.rd.length c2)
  have hown5 := ownsRow_setCell_below hown3 (a := ⟨w.heap.size, 5, none⟩) (by simp) (.slice A2 r.p.rd.length c2)
  generalize w2.setCell ⟨w.heap.size, 5, none⟩ (.slice A2 r.p.rd.length c2) = W2 at *
  clear kb3 kr3 hB3 hown3 hown23 x25 x26 q2
  have hac := ha.keep (w' := W2) fun b hS hl => hB4.block b hS
  refine (cloneS_any _ _ _ _ _ _ hac.wr (str_one _) l3).mono ?_
  rintro e w3 ⟨v3, rfl, hown6, hb5⟩
  obtain ⟨A3, c3, rfl, _, _⟩ := own_form hown6
  have hB5 := hB4.trans (hb5.mono hB4.size)
  have kb5 : Blk w3 w.heap.size 40 #[.int .i64 r.p.cl, .int .u64 r.p.tok, .string r.p.nm, .slice A1 r.p.args.length c1, .int .i64 r.p.how, .slice A2 r.p.rd.length c2, .slice r.A3 r.p.wr.length r.c3] := kb4.below_all hb5
  have kr5 := kr4.below_all hb5
  have hz5 := kr5.lt
  have hown6 := own_base (base' := w.heap.size + 2) (by have := kr4.lt; omega) hown6
  have hown45 := own_below hown4 hb5
  have hown55 := own_below hown5 hb5
  have y0 := kb5.cell 0
  have y1 := kb5.cell 1
  have y2 := kb5.cell 2
  have y3 := kb5.cell 3
  have y4 := kb5.cell 4
  have y5 := kb5.cell 5
  have y6 := kb5.cell 6
  have q5 := fun i => kb5.frozen i
  have q6 := fun i => kr5.frozen i
  have z0 := kr5.cell 0
  have z1 := kr5.cell 1
  have z2 := kr5.cell 2
  have z3 := kr5.cell 3
  have z4 := kr5.cell 4
  have z5 := kr5.cell 5
  have z6 := kr5.cell 6
  simp at y0 y1 y2 y3 y4 y5 y6 z0 z1 z2 z3 z4 z5 z6
  clear hb5 kb4 kr4 hB4 hown4 hown5 ha hab hac
  go_wp2_with fail
  refine bodyPost_ret (v := .agg #[.int .i64 r.p.cl, .int .u64 r.p.tok, .string r.p.nm, .slice A1 r.p.args.length c1, .int .i64 r.p.how, .slice A2 r.p.rd.length c2, .slice A3 r.p.wr.length c3]) ?_ rfl ?_
  · simp [results, Try.results32, go_sem, z0, z1, z2, z3, z4, z5, z6]
  · refine ⟨⟨r.p, A1, c1, A2, c2, A3, c3⟩, ⟨rfl, rfl⟩, ⟨?_, ?_, ?_⟩, ?_⟩
    · refine own_base (base := w.heap.size + 2) (by omega) ?_
      repeat' (refine ownsRow_setCell_below ?_ (by simp) _)
      exact hown45
    · refine own_base (base := w.heap.size + 2) (by omega) ?_
      repeat' (refine ownsRow_setCell_below ?_ (by simp) _)
      exact hown55
    · refine own_base (base := w.heap.size + 2) (by omega) ?_
      repeat' (refine ownsRow_setCell_below ?_ (by simp) _)
      exact hown6
    · repeat' (refine Below.setCell ?_ (by simp) _)
      exact hB5

end Go.Proofs.Ytppcjaljhahdnaa

/- A plan in lists of its own: the document's. -/
import Derived.Test.YtppcjaljhahdnaaQClone
namespace Go.Proofs.Ytppcjaljhahdnaa
open Go.RowKit

set_option maxRecDepth 100000 in
set_option maxHeartbeats 1000000 in
theorem eplan_any (S : Nat → Prop) (r : RP) (w : World) (ha0 : r.ok S w) (hf : r.p.fits) :
    Calls Try.prog 15 #[.agg #[.int .i64 r.p.cl, .int .u64 r.p.tok, .string r.p.nm, .slice r.A1 r.p.args.length r.c1, .int .i64 r.p.how, .slice r.A2 r.p.rd.length r.c2, .slice r.A3 r.p.wr.length r.c3]] w
      fun e w' => ∃ r' : RP, (r'.p = r.p ∧ e = .returned (.agg #[.int .i64 r'.p.cl, .int .u64 r'.p.tok, .string r'.p.nm, .slice r'.A1 r'.p.args.length r'.c1, .int .i64 r'.p.how, .slice r'.A2 r'.p.rd.length r'.c2, .slice r'.A3 r'.p.wr.length r'.c3])) ∧ r'.own w.heap.size w' ∧ Below w.heap.size w w' := by
  have l1 := hf.args
  have l2 := hf.rd
  have l3 := hf.wr
  have ha := ha0.all
  clear ha0
  obtain ⟨iv, hiv, hv0, hv1, hv2⟩ := info_parts info_cloneV_any
  obtain ⟨is, his, hs0, hs1, hs2⟩ := info_parts info_cloneS_any
  go_enter Try.func15, Try.ntmps15
  go_wp2_with (first
    | (at_builtin; refine wpList_copy_rd _ rfl (.tmp 3) (.tmp 6) 33 rfl 86 iv _ 3 32 Try.underlying33 hiv hv0 hv1 hv2 rfl (by omega) _ rfl (by simp) _ _ _ _ _ rfl ((ha.args.alloc _).alloc _) (vcells_one _) (by simp only [maxLen]; omega) (by omega) ?_
       go_must (
         intro A1 c1 w1 hown1 hb1
         have hB1 : Below w.heap.size w w1 := (((Below.refl w.heap.size w).alloc (Nat.le_refl _) _).alloc (by simp) _).trans (hb1.mono (by simp; omega))
         have hz1 : w.heap.size < w1.heap.size := by have := hb1.size; simp at this; omega
         have hy1 : w.heap.size + 1 < w1.heap.size := by have := hb1.size; simp at this; omega
         have kb1 : Blk w1 w.heap.size 40 #[.int .i64 r.p.cl, .int .u64 r.p.tok, .string r.p.nm, .slice r.A1 r.p.args.length r.c1, .int .i64 r.p.how, .slice r.A2 r.p.rd.length r.c2, .slice r.A3 r.p.wr.length r.c3] := ((Blk.new _ _ _).alloc _).below_all hb1
         have kr1 : Blk w1 (w.heap.size + 1) 40 #[.int .i64 0, .int .u64 0, .string ⟨#[]⟩, .slice none 0 0, .int .i64 0, .slice none 0 0, .slice none 0 0] := (Blk.new' _ _ _ (by simp)).below_all hb1
         have x10 : w1.cell? ⟨w.heap.size, 0, none⟩ = some (.int .i64 r.p.cl) := kb1.cell 0
         have x11 : w1.cell? ⟨w.heap.size, 1, none⟩ = some (.int .u64 r.p.tok) := kb1.cell 1
         have x12 : w1.cell? ⟨w.heap.size, 2, none⟩ = some (.string r.p.nm) := kb1.cell 2
         have x13 : w1.cell? ⟨w.heap.size, 3, none⟩ = some (.slice r.A1 r.p.args.length r.c1) := kb1.cell 3
         have x14 : w1.cell? ⟨w.heap.size, 4, none⟩ = some (.int .i64 r.p.how) := kb1.cell 4
         have x15 : w1.cell? ⟨w.heap.size, 5, none⟩ = some (.slice r.A2 r.p.rd.length r.c2) := kb1.cell 5
         have x16 : w1.cell? ⟨w.heap.size, 6, none⟩ = some (.slice r.A3 r.p.wr.length r.c3) := kb1.cell 6
         have q1 := fun i => kb1.frozen i
         have ra1 := ha.keep (w' := w1) fun b hS hl => (hB1.block b hS).trans (rfl)
         clear hb1 ha))
    | (at_builtin; refine wpList_copy_rd _ rfl (.tmp 10) (.tmp 13) 36 rfl 9 is _ 1 16 Try.underlying36 his hs0 hs1 hs2 rfl (by omega) _ rfl (by simp) _ _ _ _ _ rfl (ra1.rd.setCell (by simp) _) (str_one _) (by simp only [maxLen]; omega) (by omega) ?_
       go_must (
         intro A2 c2 w2 hown2 hb2
         have hB2 : Below w.heap.size w w2 := (hB1.setCell (Nat.le_refl _) _).trans (hb2.mono (by simp; omega))
         have hz2 : w.heap.size < w2.heap.size := by have := hb2.size; simp at this; omega
         have hy2 : w.heap.size + 1 < w2.heap.size := by have := hb2.size; simp at this; omega
         have kb2 : Blk w2 w.heap.size 40 #[.int .i64 r.p.cl, .int .u64 r.p.tok, .string r.p.nm, .slice A1 r.p.args.length c1, .int .i64 r.p.how, .slice r.A2 r.p.rd.length r.c2, .slice r.A3 r.p.wr.length r.c3] := (kb1.set_ 3 _).below_all hb2
         have kr2 : Blk w2 (w.heap.size + 1) 40 #[.int .i64 0, .int .u64 0, .string ⟨#[]⟩, .slice none 0 0, .int .i64 0, .slice none 0 0, .slice none 0 0] := (kr1.far (by simp) _).below_all hb2
         have x20 : w2.cell? ⟨w.heap.size, 0, none⟩ = some (.int .i64 r.p.cl) := kb2.cell 0
         have x21 : w2.cell? ⟨w.heap.size, 1, none⟩ = some (.int .u64 r.p.tok) := kb2.cell 1
         have x22 : w2.cell? ⟨w.heap.size, 2, none⟩ = some (.string r.p.nm) := kb2.cell 2
         have x23 : w2.cell? ⟨w.heap.size, 3, none⟩ = some (.slice A1 r.p.args.length c1) := kb2.cell 3
         have x24 : w2.cell? ⟨w.heap.size, 4, none⟩ = some (.int .i64 r.p.how) := kb2.cell 4
         have x25 : w2.cell? ⟨w.heap.size, 5, none⟩ = some (.slice r.A2 r.p.rd.length r.c2) := kb2.cell 5
         have x26 : w2.cell? ⟨w.heap.size, 6, none⟩ = some (.slice r.A3 r.p.wr.length r.c3) := kb2.cell 6
         have q2 := fun i => kb2.frozen i
         have ra2 := ra1.keep (w' := w2) fun b hS hl => (hB2.block b hS).trans ((hB1.block b hS).symm)
         have hown12 := own_below (ownsRow_setCell_below hown1 (a := ⟨w.heap.size, 3, none⟩) (by simp; omega) (.slice A1 r.p.args.length c1)) hb2
         clear hown1
         clear hb2 hB1 ra1 kb1 kr1 q1 x10 x11 x12 x13 x14 x15 x16))
    | (at_builtin; refine wpList_copy_rd _ rfl (.tmp 17) (.tmp 20) 36 rfl 9 is _ 1 16 Try.underlying36 his hs0 hs1 hs2 rfl (by omega) _ rfl (by simp) _ _ _ _ _ rfl (ra2.wr.setCell (by simp) _) (str_one _) (by simp only [maxLen]; omega) (by omega) ?_
       go_must (
         intro A3 c3 w3 hown3 hb3
         have hB3 : Below w.heap.size w w3 := (hB2.setCell (Nat.le_refl _) _).trans (hb3.mono (by simp; omega))
         have hz3 : w.heap.size < w3.heap.size := by have := hb3.size; simp at this; omega
         have hy3 : w.heap.size + 1 < w3.heap.size := by have := hb3.size; simp at this; omega
         have kb3 : Blk w3 w.heap.size 40 #[.int .i64 r.p.cl, .int .u64 r.p.tok, .string r.p.nm, .slice A1 r.p.args.length c1, .int .i64 r.p.how, .slice A2 r.p.rd.length c2, .slice r.A3 r.p.wr.length r.c3] := (kb2.set_ 5 _).below_all hb3
         have kr3 : Blk w3 (w.heap.size + 1) 40 #[.int .i64 0, .int .u64 0, .string ⟨#[]⟩, .slice none 0 0, .int .i64 0, .slice none 0 0, .slice none 0 0] := (kr2.far (by simp) _).below_all hb3
         have x30 : w3.cell? ⟨w.heap.size, 0, none⟩ = some (.int .i64 r.p.cl) := kb3.cell 0
         have x31 : w3.cell? ⟨w.heap.size, 1, none⟩ = some (.int .u64 r.p.tok) := kb3.cell 1
         have x32 : w3.cell? ⟨w.heap.size, 2, none⟩ = some (.string r.p.nm) := kb3.cell 2
         have x33 : w3.cell? ⟨w.heap.size, 3, none⟩ = some (.slice A1 r.p.args.length c1) := kb3.cell 3
         have x34 : w3.cell? ⟨w.heap.size, 4, none⟩ = some (.int .i64 r.p.how) := kb3.cell 4
         have x35 : w3.cell? ⟨w.heap.size, 5, none⟩ = some (.slice A2 r.p.rd.length c2) := kb3.cell 5
         have x36 : w3.cell? ⟨w.heap.size, 6, none⟩ = some (.slice r.A3 r.p.wr.length r.c3) := kb3.cell 6
         have z30 : w3.cell? ⟨w.heap.size + 1, 0, none⟩ = some (.int .i64 0) := kr3.cell 0
         have z31 : w3.cell? ⟨w.heap.size + 1, 1, none⟩ = some (.int .u64 0) := kr3.cell 1
         have z32 : w3.cell? ⟨w.heap.size + 1, 2, none⟩ = some (.string ⟨#[]⟩) := kr3.cell 2
         have z33 : w3.cell? ⟨w.heap.size + 1, 3, none⟩ = some (.slice none 0 0) := kr3.cell 3
         have z34 : w3.cell? ⟨w.heap.size + 1, 4, none⟩ = some (.int .i64 0) := kr3.cell 4
         have z35 : w3.cell? ⟨w.heap.size + 1, 5, none⟩ = some (.slice none 0 0) := kr3.cell 5
         have z36 : w3.cell? ⟨w.heap.size + 1, 6, none⟩ = some (.slice none 0 0) := kr3.cell 6
         have q3 := fun i => kb3.frozen i
         have s3 := fun i => kr3.frozen i
         have ra3 := ra2.keep (w' := w3) fun b hS hl => (hB3.block b hS).trans ((hB2.block b hS).symm)
         have hown13 := own_below (ownsRow_setCell_below hown12 (a := ⟨w.heap.size, 5, none⟩) (by simp; omega) (.slice A2 r.p.rd.length c2)) hb3
         have hown23 := own_below (ownsRow_setCell_below hown2 (a := ⟨w.heap.size, 5, none⟩) (by simp; omega) (.slice A2 r.p.rd.length c2)) hb3
         clear hown12 hown2
         clear hb3 hB2 ra2 kb2 kr2 q2 x20 x21 x22 x23 x24 x25 x26)))
  refine bodyPost_ret (v := .agg #[.int .i64 r.p.cl, .int .u64 r.p.tok, .string r.p.nm, .slice A1 r.p.args.length c1, .int .i64 r.p.how, .slice A2 r.p.rd.length c2, .slice A3 r.p.wr.length c3]) ?_ rfl ?_
  · simp [results, Try.results15, go_sem, z30, z31, z32, z33, z34, z35, z36]
  · have e1 : w.heap.size + 1 < ((w.alloc (.cells #[.int .i64 r.p.cl, .int .u64 r.p.tok, .string r.p.nm, .slice r.A1 r.p.args.length r.c1, .int .i64 r.p.how, .slice r.A2 r.p.rd.length r.c2, .slice r.A3 r.p.wr.length r.c3] 40)).alloc (.cells #[.int .i64 0, .int .u64 0, .string ⟨#[]⟩, .slice none 0 0, .int .i64 0, .slice none 0 0, .slice none 0 0] 40)).heap.size := by simp
    have e2 : ∀ v, w.heap.size + 1 < (w1.setCell ⟨w.heap.size, 3, none⟩ v).heap.size := fun v => by simp <;> omega
    have e3 : ∀ v, w.heap.size + 1 < (w2.setCell ⟨w.heap.size, 5, none⟩ v).heap.size := fun v => by simp <;> omega
    refine ⟨⟨r.p, A1, c1, A2, c2, A3, c3⟩, ⟨rfl, rfl⟩, ⟨?_, ?_, ?_⟩, ?_⟩
    · refine own_base (Nat.le_of_lt (Nat.lt_of_succ_lt e1)) ?_
      repeat' (refine ownsRow_setCell_below ?_ (by simp <;> omega) _)
      exact hown13
    · refine own_base (Nat.le_of_lt (Nat.lt_of_succ_lt (e2 (.slice A1 r.p.args.length c1)))) ?_
      repeat' (refine ownsRow_setCell_below ?_ (by simp <;> omega) _)
      exact hown23
    · refine own_base (Nat.le_of_lt (Nat.lt_of_succ_lt (e3 (.slice A2 r.p.rd.length c2)))) ?_
      repeat' (refine ownsRow_setCell_below ?_ (by simp <;> omega) _)
      exact hown3
    · repeat' (refine Below.setCell ?_ (by simp) _)
      exact hB3

end Go.Proofs.Ytppcjaljhahdnaa

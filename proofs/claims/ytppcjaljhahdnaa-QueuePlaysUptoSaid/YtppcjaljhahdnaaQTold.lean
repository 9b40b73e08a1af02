/- told: the law compares what it was told with the document's, and spoils it. -/
import Derived.Test.YtppcjaljhahdnaaQSpoil
namespace Go.Proofs.Ytppcjaljhahdnaa
open Go.RowKit
set_option linter.unusedVariables false
set_option linter.unusedSimpArgs false

set_option maxRecDepth 100000 in
set_option maxHeartbeats 2000000 in
theorem told_any (S : Nat → Prop) (base : Nat) (r s : RP) (ok : Bool) (w : World) (h : r.own base w) (hs : s.ok S w) (hp0 : r.p = s.p) (hf : r.p.fits) :
    Calls Try.prog 41 #[.agg #[.int .i64 r.p.cl, .int .u64 r.p.tok, .string r.p.nm, .slice r.A1 r.p.args.length r.c1, .int .i64 r.p.how, .slice r.A2 r.p.rd.length r.c2, .slice r.A3 r.p.wr.length r.c3], .bool ok, .agg #[.int .i64 s.p.cl, .int .u64 s.p.tok, .string s.p.nm, .slice s.A1 s.p.args.length s.c1, .int .i64 s.p.how, .slice s.A2 s.p.rd.length s.c2, .slice s.A3 s.p.wr.length s.c3], .bool ok] w fun e w' => e = .returned (.bool true) ∧ Upd r.blks w w' := by
  have hB := below_two (w := w) (.cells #[.int .i64 r.p.cl, .int .u64 r.p.tok, .string r.p.nm, .slice r.A1 r.p.args.length r.c1, .int .i64 r.p.how, .slice r.A2 r.p.rd.length r.c2, .slice r.A3 r.p.wr.length r.c3] 40) (.cells #[.int .i64 s.p.cl, .int .u64 s.p.tok, .string s.p.nm, .slice s.A1 s.p.args.length s.c1, .int .i64 s.p.how, .slice s.A2 s.p.rd.length s.c2, .slice s.A3 s.p.wr.length s.c3] 40)
  have k1 : Blk ((w.alloc (.cells #[.int .i64 r.p.cl, .int .u64 r.p.tok, .string r.p.nm, .slice r.A1 r.p.args.length r.c1, .int .i64 r.p.how, .slice r.A2 r.p.rd.length r.c2, .slice r.A3 r.p.wr.length r.c3] 40)).alloc (.cells #[.int .i64 s.p.cl, .int .u64 s.p.tok, .string s.p.nm, .slice s.A1 s.p.args.length s.c1, .int .i64 s.p.how, .slice s.A2 s.p.rd.length s.c2, .slice s.A3 s.p.wr.length s.c3] 40)) w.heap.size 40 #[.int .i64 r.p.cl, .int .u64 r.p.tok, .string r.p.nm, .slice r.A1 r.p.args.length r.c1, .int .i64 r.p.how, .slice r.A2 r.p.rd.length r.c2, .slice r.A3 r.p.wr.length r.c3] := (Blk.new w 40 #[.int .i64 r.p.cl, .int .u64 r.p.tok, .string r.p.nm, .slice r.A1 r.p.args.length r.c1, .int .i64 r.p.how, .slice r.A2 r.p.rd.length r.c2, .slice r.A3 r.p.wr.length r.c3]).alloc _
  have k2 : Blk ((w.alloc (.cells #[.int .i64 r.p.cl, .int .u64 r.p.tok, .string r.p.nm, .slice r.A1 r.p.args.length r.c1, .int .i64 r.p.how, .slice r.A2 r.p.rd.length r.c2, .slice r.A3 r.p.wr.length r.c3] 40)).alloc (.cells #[.int .i64 s.p.cl, .int .u64 s.p.tok, .string s.p.nm, .slice s.A1 s.p.args.length s.c1, .int .i64 s.p.how, .slice s.A2 s.p.rd.length s.c2, .slice s.A3 s.p.wr.length s.c3] 40)) (w.heap.size + 1) 40 #[.int .i64 s.p.cl, .int .u64 s.p.tok, .string s.p.nm, .slice s.A1 s.p.args.length s.c1, .int .i64 s.p.how, .slice s.A2 s.p.rd.length s.c2, .slice s.A3 s.p.wr.length s.c3] := Blk.new' (w.alloc (.cells #[.int .i64 r.p.cl, .int .u64 r.p.tok, .string r.p.nm, .slice r.A1 r.p.args.length r.c1, .int .i64 r.p.how, .slice r.A2 r.p.rd.length r.c2, .slice r.A3 r.p.wr.length r.c3] 40)) 40 #[.int .i64 s.p.cl, .int .u64 s.p.tok, .string s.p.nm, .slice s.A1 s.p.args.length s.c1, .int .i64 s.p.how, .slice s.A2 s.p.rd.length s.c2, .slice s.A3 s.p.wr.length s.c3] (by simp)
  have hp := hid hp0
  clear hp0
  go_enter Try.func41, Try.ntmps41
  go_upto_region 1 with fail
  generalize (w.alloc (.cells #[.int .i64 r.p.cl, .int .u64 r.p.tok, .string r.p.nm, .slice r.A1 r.p.args.length r.c1, .int .i64 r.p.how, .slice r.A2 r.p.rd.length r.c2, .slice r.A3 r.p.wr.length r.c3] 40)).alloc (.cells #[.int .i64 s.p.cl, .int .u64 s.p.tok, .string s.p.nm, .slice s.A1 s.p.args.length s.c1, .int .i64 s.p.how, .slice s.A2 s.p.rd.length s.c2, .slice s.A3 s.p.wr.length s.c3] 40) = W at *
  have h1 := h.below hB
  have hs1 := hs.below hB
  have hu1 : Upd r.blks w W := Upd.of_below' hB _
  have x0 : W.cell? ⟨w.heap.size, 0, none⟩ = some (.int .i64 r.p.cl) := k1.cell 0
  have y0 : W.cell? ⟨w.heap.size + 1, 0, none⟩ = some (.int .i64 s.p.cl) := k2.cell 0
  have x1 : W.cell? ⟨w.heap.size, 1, none⟩ = some (.int .u64 r.p.tok) := k1.cell 1
  have y1 : W.cell? ⟨w.heap.size + 1, 1, none⟩ = some (.int .u64 s.p.tok) := k2.cell 1
  have x2 : W.cell? ⟨w.heap.size, 2, none⟩ = some (.string r.p.nm) := k1.cell 2
  have y2 : W.cell? ⟨w.heap.size + 1, 2, none⟩ = some (.string s.p.nm) := k2.cell 2
  have x3 : W.cell? ⟨w.heap.size, 3, none⟩ = some (.slice r.A1 r.p.args.length r.c1) := k1.cell 3
  have y3 : W.cell? ⟨w.heap.size + 1, 3, none⟩ = some (.slice s.A1 s.p.args.length s.c1) := k2.cell 3
  have x4 : W.cell? ⟨w.heap.size, 4, none⟩ = some (.int .i64 r.p.how) := k1.cell 4
  have y4 : W.cell? ⟨w.heap.size + 1, 4, none⟩ = some (.int .i64 s.p.how) := k2.cell 4
  have x5 : W.cell? ⟨w.heap.size, 5, none⟩ = some (.slice r.A2 r.p.rd.length r.c2) := k1.cell 5
  have y5 : W.cell? ⟨w.heap.size + 1, 5, none⟩ = some (.slice s.A2 s.p.rd.length s.c2) := k2.cell 5
  have x6 : W.cell? ⟨w.heap.size, 6, none⟩ = some (.slice r.A3 r.p.wr.length r.c3) := k1.cell 6
  have y6 : W.cell? ⟨w.heap.size + 1, 6, none⟩ = some (.slice s.A3 s.p.wr.length s.c3) := k2.cell 6
  clear h hs hB k2
  go_wp2_with (first
    | (go_at_call 38
       refine (spoil_any _ r w2 h2 hf).mono ?_
       rintro e w3 ⟨rfl, hu3⟩)
    | (go_at_call 19
       refine (plans_any _ _ r s _ hp.out h1.ok hs1 hf).mono ?_
       rintro e w2 ⟨rfl, hb2⟩
       have h2 := h1.below hb2
       have hu2 := hu1.trans (Upd.of_below' hb2 _) (fun _ _ h => h)
       have kk := k1.below_all hb2
       have z0 : w2.cell? ⟨w.heap.size, 0, none⟩ = some (.int .i64 r.p.cl) := kk.cell 0
       have z1 : w2.cell? ⟨w.heap.size, 1, none⟩ = some (.int .u64 r.p.tok) := kk.cell 1
       have z2 : w2.cell? ⟨w.heap.size, 2, none⟩ = some (.string r.p.nm) := kk.cell 2
       have z3 : w2.cell? ⟨w.heap.size, 3, none⟩ = some (.slice r.A1 r.p.args.length r.c1) := kk.cell 3
       have z4 : w2.cell? ⟨w.heap.size, 4, none⟩ = some (.int .i64 r.p.how) := kk.cell 4
       have z5 : w2.cell? ⟨w.heap.size, 5, none⟩ = some (.slice r.A2 r.p.rd.length r.c2) := kk.cell 5
       have z6 : w2.cell? ⟨w.heap.size, 6, none⟩ = some (.slice r.A3 r.p.wr.length r.c3) := kk.cell 6
       clear kk))
  go_ret
  exact ⟨rfl, hu2.trans hu3 fun _ _ h => h⟩

end Go.Proofs.Ytppcjaljhahdnaa

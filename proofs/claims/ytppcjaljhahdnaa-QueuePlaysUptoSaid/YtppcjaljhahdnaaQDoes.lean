/- One act on both queues: Submit, Cancel, Clear, none. -/
import Derived.Test.YtppcjaljhahdnaaQPair
import Derived.Deep.RegionHeld3
namespace Go.Proofs.Ytppcjaljhahdnaa
open Go.RowKit
set_option linter.unusedVariables false
set_option linter.unusedSimpArgs false

section
variable {B : Nat} {mt sh wn : Int} {g g' : Nat} {S S' : Nat → Prop} {L : List Pl} {T : Int → List Int} {w : World} {a : QA}
set_option maxRecDepth 100000 in
set_option maxHeartbeats 4000000 in
theorem does_else (kd : Int) (h1 : kd ≠ 1) (h2 : kd ≠ 2) (h3 : kd ≠ 3) (h4 : kd ≠ 4) (h5 : kd ≠ 5) (h6 : kd ≠ 6) (h7 : kd ≠ 7) (h : Pair B mt sh wn g g' S S' L T w) (hB : B ≤ w.heap.size) (ha : a.r.ok (fun k => k < B) w) (hf : a.r.p.fits) : Calls Try.prog 24 #[.pointer (some ⟨g, 0, none⟩), .pointer (some ⟨g', 0, none⟩), .agg #[.int .i64 kd, .int .i64 a.r.p.cl, .int .u64 a.r.p.tok, .string a.r.p.nm, .slice a.r.A1 a.r.p.args.length a.r.c1, .int .i64 a.r.p.how, .slice a.r.A2 a.r.p.rd.length a.r.c2, .slice a.r.A3 a.r.p.wr.length a.r.c3, .int .i64 a.i, .int .i64 a.cl, .int .u64 a.tok]] w (Done B mt sh wn g g' w) := by
  have hd1 : (kd == 1) = false := by simpa using h1
  have hd2 : (kd == 2) = false := by simpa using h2
  have hd3 : (kd == 3) = false := by simpa using h3
  have hd4 : (kd == 4) = false := by simpa using h4
  have hd5 : (kd == 5) = false := by simpa using h5
  have hd6 : (kd == 6) = false := by simpa using h6
  have hd7 : (kd == 7) = false := by simpa using h7
  clear h1 h2 h3 h4 h5 h6 h7
  have hX : Below w.heap.size w (w.alloc (.cells #[.int .i64 kd, .int .i64 a.r.p.cl, .int .u64 a.r.p.tok, .string a.r.p.nm, .slice a.r.A1 a.r.p.args.length a.r.c1, .int .i64 a.r.p.how, .slice a.r.A2 a.r.p.rd.length a.r.c2, .slice a.r.A3 a.r.p.wr.length a.r.c3, .int .i64 a.i, .int .i64 a.cl, .int .u64 a.tok] 42)) := (Below.refl _ _).alloc (Nat.le_refl _) _
  have P1 := h.step hX
  have ok1 := ha.below hX
  have ka := Blk.new w 42 #[.int .i64 kd, .int .i64 a.r.p.cl, .int .u64 a.r.p.tok, .string a.r.p.nm, .slice a.r.A1 a.r.p.args.length a.r.c1, .int .i64 a.r.p.how, .slice a.r.A2 a.r.p.rd.length a.r.c2, .slice a.r.A3 a.r.p.wr.length a.r.c3, .int .i64 a.i, .int .i64 a.cl, .int .u64 a.tok]
  have hSlt := h.q.lt.1
  have hTlt := h.t.lt.1
  have hSB := h.newq
  have hTB := h.newt
  have U1 : Upd (fun k => B ≤ k) w (w.alloc (.cells #[.int .i64 kd, .int .i64 a.r.p.cl, .int .u64 a.r.p.tok, .string a.r.p.nm, .slice a.r.A1 a.r.p.args.length a.r.c1, .int .i64 a.r.p.how, .slice a.r.A2 a.r.p.rd.length a.r.c2, .slice a.r.A3 a.r.p.wr.length a.r.c3, .int .i64 a.i, .int .i64 a.cl, .int .u64 a.tok] 42)) := Upd.of_below' hX _
  clear h ha hX
  go_enter Try.func24, Try.ntmps24
  go_upto_region 32 with fail
  generalize w.alloc (.cells #[.int .i64 kd, .int .i64 a.r.p.cl, .int .u64 a.r.p.tok, .string a.r.p.nm, .slice a.r.A1 a.r.p.args.length a.r.c1, .int .i64 a.r.p.how, .slice a.r.A2 a.r.p.rd.length a.r.c2, .slice a.r.A3 a.r.p.wr.length a.r.c3, .int .i64 a.i, .int .i64 a.cl, .int .u64 a.tok] 42) = w1 at *
  have hz1 := ka.lt
  go_wp2_with fail
  go_ret
  exact ⟨rfl, ⟨_, _, _, _, P1⟩, U1.below hB fun k hk h => by omega⟩
set_option maxRecDepth 100000 in
set_option maxHeartbeats 4000000 in
theorem does_clear (h : Pair B mt sh wn g g' S S' L T w) (hB : B ≤ w.heap.size) (ha : a.r.ok (fun k => k < B) w) (hf : a.r.p.fits) : Calls Try.prog 24 #[.pointer (some ⟨g, 0, none⟩), .pointer (some ⟨g', 0, none⟩), .agg #[.int .i64 5, .int .i64 a.r.p.cl, .int .u64 a.r.p.tok, .string a.r.p.nm, .slice a.r.A1 a.r.p.args.length a.r.c1, .int .i64 a.r.p.how, .slice a.r.A2 a.r.p.rd.length a.r.c2, .slice a.r.A3 a.r.p.wr.length a.r.c3, .int .i64 a.i, .int .i64 a.cl, .int .u64 a.tok]] w (Done B mt sh wn g g' w) := by
  have hX : Below w.heap.size w (w.alloc (.cells #[.int .i64 5, .int .i64 a.r.p.cl, .int .u64 a.r.p.tok, .string a.r.p.nm, .slice a.r.A1 a.r.p.args.length a.r.c1, .int .i64 a.r.p.how, .slice a.r.A2 a.r.p.rd.length a.r.c2, .slice a.r.A3 a.r.p.wr.length a.r.c3, .int .i64 a.i, .int .i64 a.cl, .int .u64 a.tok] 42)) := (Below.refl _ _).alloc (Nat.le_refl _) _
  have P1 := h.step hX
  have ok1 := ha.below hX
  have ka := Blk.new w 42 #[.int .i64 5, .int .i64 a.r.p.cl, .int .u64 a.r.p.tok, .string a.r.p.nm, .slice a.r.A1 a.r.p.args.length a.r.c1, .int .i64 a.r.p.how, .slice a.r.A2 a.r.p.rd.length a.r.c2, .slice a.r.A3 a.r.p.wr.length a.r.c3, .int .i64 a.i, .int .i64 a.cl, .int .u64 a.tok]
  have hSlt := h.q.lt.1
  have hTlt := h.t.lt.1
  have hSB := h.newq
  have hTB := h.newt
  have U1 : Upd (fun k => B ≤ k) w (w.alloc (.cells #[.int .i64 5, .int .i64 a.r.p.cl, .int .u64 a.r.p.tok, .string a.r.p.nm, .slice a.r.A1 a.r.p.args.length a.r.c1, .int .i64 a.r.p.how, .slice a.r.A2 a.r.p.rd.length a.r.c2, .slice a.r.A3 a.r.p.wr.length a.r.c3, .int .i64 a.i, .int .i64 a.cl, .int .u64 a.tok] 42)) := Upd.of_below' hX _
  clear h ha hX
  go_enter Try.func24, Try.ntmps24
  go_upto_region 27 with fail
  generalize w.alloc (.cells #[.int .i64 5, .int .i64 a.r.p.cl, .int .u64 a.r.p.tok, .string a.r.p.nm, .slice a.r.A1 a.r.p.args.length a.r.c1, .int .i64 a.r.p.how, .slice a.r.A2 a.r.p.rd.length a.r.c2, .slice a.r.A3 a.r.p.wr.length a.r.c3, .int .i64 a.i, .int .i64 a.cl, .int .u64 a.tok] 42) = w1 at *
  have hz1 := ka.lt
  go_wp2_with fail
  refine (clear_any P1.q).mono ?_
  rintro e w2 ⟨rfl, hq2, hu2⟩
  have H2 := P1.half hq2 (fun k h => .inl h) hu2 (by omega)
  have U2 := U1.trans (hu2.mono (M' := fun k => B ≤ k) fun k _ h => hSB k h) fun _ _ h => h
  have hz2 := hu2.size
  have hsh : 0 ≤ sh := by have := P1.bnd.1 0; omega
  clear P1 U1 hq2 hu2
  go_wp2_with fail
  refine (rclear_any H2.t).mono ?_
  rintro e w3 ⟨rfl, S3, ht3, hS3, hu3⟩
  go_wp2_with fail
  go_ret
  have hq := H2.whole ht3 hS3 hu3 (by omega) (.nil hsh)
  refine ⟨by simp, ⟨_, _, _, _, hq⟩, (U2.trans (hu3.mono (M' := fun k => B ≤ k) fun k _ h => hTB k h) fun _ _ h => h).below hB fun k hk h => by omega⟩
set_option maxRecDepth 100000 in
set_option maxHeartbeats 4000000 in
theorem does_cancel (h : Pair B mt sh wn g g' S S' L T w) (hB : B ≤ w.heap.size) (ha : a.r.ok (fun k => k < B) w) (hf : a.r.p.fits) : Calls Try.prog 24 #[.pointer (some ⟨g, 0, none⟩), .pointer (some ⟨g', 0, none⟩), .agg #[.int .i64 4, .int .i64 a.r.p.cl, .int .u64 a.r.p.tok, .string a.r.p.nm, .slice a.r.A1 a.r.p.args.length a.r.c1, .int .i64 a.r.p.how, .slice a.r.A2 a.r.p.rd.length a.r.c2, .slice a.r.A3 a.r.p.wr.length a.r.c3, .int .i64 a.i, .int .i64 a.cl, .int .u64 a.tok]] w (Done B mt sh wn g g' w) := by
  have hX : Below w.heap.size w (w.alloc (.cells #[.int .i64 4, .int .i64 a.r.p.cl, .int .u64 a.r.p.tok, .string a.r.p.nm, .slice a.r.A1 a.r.p.args.length a.r.c1, .int .i64 a.r.p.how, .slice a.r.A2 a.r.p.rd.length a.r.c2, .slice a.r.A3 a.r.p.wr.length a.r.c3, .int .i64 a.i, .int .i64 a.cl, .int .u64 a.tok] 42)) := (Below.refl _ _).alloc (Nat.le_refl _) _
  have P1 := h.step hX
  have ok1 := ha.below hX
  have ka := Blk.new w 42 #[.int .i64 4, .int .i64 a.r.p.cl, .int .u64 a.r.p.tok, .string a.r.p.nm, .slice a.r.A1 a.r.p.args.length a.r.c1, .int .i64 a.r.p.how, .slice a.r.A2 a.r.p.rd.length a.r.c2, .slice a.r.A3 a.r.p.wr.length a.r.c3, .int .i64 a.i, .int .i64 a.cl, .int .u64 a.tok]
  have hSlt := h.q.lt.1
  have hTlt := h.t.lt.1
  have hSB := h.newq
  have hTB := h.newt
  have U1 : Upd (fun k => B ≤ k) w (w.alloc (.cells #[.int .i64 4, .int .i64 a.r.p.cl, .int .u64 a.r.p.tok, .string a.r.p.nm, .slice a.r.A1 a.r.p.args.length a.r.c1, .int .i64 a.r.p.how, .slice a.r.A2 a.r.p.rd.length a.r.c2, .slice a.r.A3 a.r.p.wr.length a.r.c3, .int .i64 a.i, .int .i64 a.cl, .int .u64 a.tok] 42)) := Upd.of_below' hX _
  clear h ha hX
  go_enter Try.func24, Try.ntmps24
  go_upto_region 25 with fail
  generalize w.alloc (.cells #[.int .i64 4, .int .i64 a.r.p.cl, .int .u64 a.r.p.tok, .string a.r.p.nm, .slice a.r.A1 a.r.p.args.length a.r.c1, .int .i64 a.r.p.how, .slice a.r.A2 a.r.p.rd.length a.r.c2, .slice a.r.A3 a.r.p.wr.length a.r.c3, .int .i64 a.i, .int .i64 a.cl, .int .u64 a.tok] 42) = w1 at *
  have hz1 := ka.lt
  have x9 : w1.cell? ⟨w.heap.size, 9, none⟩ = some (.int .i64 a.cl) := ka.cell 9
  have x10 : w1.cell? ⟨w.heap.size, 10, none⟩ = some (.int .u64 a.tok) := ka.cell 10
  have P1d := P1.step (Below.refl _ w1).drew
  go_region_held3 (fun w' => w'.cell? ⟨w.heap.size, 9, none⟩ = some (.int .i64 a.cl) ∧ w'.cell? ⟨w.heap.size, 10, none⟩ = some (.int .u64 a.tok)) (first | exact ⟨x9, x10⟩ | exact ⟨y9, y10⟩ | exact ⟨z9, z10⟩)
    (first
      | (go_at_call 44
         refine (rcancel_any a.cl a.tok H2.t).mono ?_
         rintro e w3 ⟨rfl, S3, ht3, hS3, hu3⟩
         have ka3 := ka2.upd hu3 fun hS => by have := hTlt _ hS; omega
         have z9 : w3.cell? ⟨w.heap.size, 9, none⟩ = some (.int .i64 a.cl) := ka3.cell 9
         have z10 : w3.cell? ⟨w.heap.size, 10, none⟩ = some (.int .u64 a.tok) := ka3.cell 10
         clear ka3)
      | (go_at_call 20
         refine (cancel_any a.cl a.tok P1d.q).mono ?_
         rintro e w2 ⟨rfl, hq2, hu2⟩
         have H2 := P1d.half hq2 (fun k h => .inl h) hu2 (by show B ≤ w1.heap.size; omega)
         have ka2 : Blk w2 w.heap.size _ _ := Blk.upd (w := w1.drew) ka hu2 fun hS => by have := hSlt _ hS; omega
         have y9 : w2.cell? ⟨w.heap.size, 9, none⟩ = some (.int .i64 a.cl) := ka2.cell 9
         have y10 : w2.cell? ⟨w.heap.size, 10, none⟩ = some (.int .u64 a.tok) := ka2.cell 10
  ))
  all_goals
    go_wp2_with fail
    go_ret
    have hq := H2.whole ht3 hS3 hu3 (by have : w1.heap.size ≤ w2.heap.size := hu2.size; omega) (P1d.bnd.out _)
    refine ⟨by simp, ⟨_, _, _, _, hq⟩, ((U1.trans (Upd.trans (Upd.of_below' (Below.refl _ w1).drew (fun k => B ≤ k)) (hu2.mono (M' := fun k => B ≤ k) fun k _ h => hSB k h) fun _ _ h => h) fun _ _ h => h).trans (hu3.mono (M' := fun k => B ≤ k) fun k _ h => hTB k h) fun _ _ h => h).below hB fun k hk h => by omega⟩
set_option maxRecDepth 100000 in
set_option maxHeartbeats 4000000 in
theorem does_submit (h : Pair B mt sh wn g g' S S' L T w) (hB : B ≤ w.heap.size) (ha : a.r.ok (fun k => k < B) w) (hf : a.r.p.fits) : Calls Try.prog 24 #[.pointer (some ⟨g, 0, none⟩), .pointer (some ⟨g', 0, none⟩), .agg #[.int .i64 1, .int .i64 a.r.p.cl, .int .u64 a.r.p.tok, .string a.r.p.nm, .slice a.r.A1 a.r.p.args.length a.r.c1, .int .i64 a.r.p.how, .slice a.r.A2 a.r.p.rd.length a.r.c2, .slice a.r.A3 a.r.p.wr.length a.r.c3, .int .i64 a.i, .int .i64 a.cl, .int .u64 a.tok]] w (Done B mt sh wn g g' w) := by
  have hX : Below w.heap.size w (w.alloc (.cells #[.int .i64 1, .int .i64 a.r.p.cl, .int .u64 a.r.p.tok, .string a.r.p.nm, .slice a.r.A1 a.r.p.args.length a.r.c1, .int .i64 a.r.p.how, .slice a.r.A2 a.r.p.rd.length a.r.c2, .slice a.r.A3 a.r.p.wr.length a.r.c3, .int .i64 a.i, .int .i64 a.cl, .int .u64 a.tok] 42)) := (Below.refl _ _).alloc (Nat.le_refl _) _
  have P1 := h.step hX
  have ok1 := ha.below hX
  have ka := Blk.new w 42 #[.int .i64 1, .int .i64 a.r.p.cl, .int .u64 a.r.p.tok, .string a.r.p.nm, .slice a.r.A1 a.r.p.args.length a.r.c1, .int .i64 a.r.p.how, .slice a.r.A2 a.r.p.rd.length a.r.c2, .slice a.r.A3 a.r.p.wr.length a.r.c3, .int .i64 a.i, .int .i64 a.cl, .int .u64 a.tok]
  have hSlt := h.q.lt.1
  have hTlt := h.t.lt.1
  have hSB := h.newq
  have hTB := h.newt
  have U1 : Upd (fun k => B ≤ k) w (w.alloc (.cells #[.int .i64 1, .int .i64 a.r.p.cl, .int .u64 a.r.p.tok, .string a.r.p.nm, .slice a.r.A1 a.r.p.args.length a.r.c1, .int .i64 a.r.p.how, .slice a.r.A2 a.r.p.rd.length a.r.c2, .slice a.r.A3 a.r.p.wr.length a.r.c3, .int .i64 a.i, .int .i64 a.cl, .int .u64 a.tok] 42)) := Upd.of_below' hX _
  clear h ha hX
  go_enter Try.func24, Try.ntmps24
  go_upto_region 3 with fail
  generalize w.alloc (.cells #[.int .i64 1, .int .i64 a.r.p.cl, .int .u64 a.r.p.tok, .string a.r.p.nm, .slice a.r.A1 a.r.p.args.length a.r.c1, .int .i64 a.r.p.how, .slice a.r.A2 a.r.p.rd.length a.r.c2, .slice a.r.A3 a.r.p.wr.length a.r.c3, .int .i64 a.i, .int .i64 a.cl, .int .u64 a.tok] 42) = w1 at *
  have hz1 := ka.lt
  have x1 : w1.cell? ⟨w.heap.size, 1, none⟩ = some (.int .i64 a.r.p.cl) := ka.cell 1
  have x2 : w1.cell? ⟨w.heap.size, 2, none⟩ = some (.int .u64 a.r.p.tok) := ka.cell 2
  have x3 : w1.cell? ⟨w.heap.size, 3, none⟩ = some (.string a.r.p.nm) := ka.cell 3
  have x4 : w1.cell? ⟨w.heap.size, 4, none⟩ = some (.slice a.r.A1 a.r.p.args.length a.r.c1) := ka.cell 4
  have x5 : w1.cell? ⟨w.heap.size, 5, none⟩ = some (.int .i64 a.r.p.how) := ka.cell 5
  have x6 : w1.cell? ⟨w.heap.size, 6, none⟩ = some (.slice a.r.A2 a.r.p.rd.length a.r.c2) := ka.cell 6
  have x7 : w1.cell? ⟨w.heap.size, 7, none⟩ = some (.slice a.r.A3 a.r.p.wr.length a.r.c3) := ka.cell 7
  go_wp2_with fail
  refine (eplan_any _ a.r w1 ok1 hf).mono ?_
  rintro e w2 ⟨r2, ⟨hp0, rfl⟩, hown2, hb2⟩
  have hf2 : r2.p.fits := by rw [hp0]; exact hf
  have hp := hid hp0
  clear hp0 x1 x2 x3 x4 x5 x6 x7
  have hY : Below w2.heap.size w2 (w2.alloc (.cells #[.int .i64 r2.p.cl, .int .u64 r2.p.tok, .string r2.p.nm, .slice r2.A1 r2.p.args.length r2.c1, .int .i64 r2.p.how, .slice r2.A2 r2.p.rd.length r2.c2, .slice r2.A3 r2.p.wr.length r2.c3] 40)) := (Below.refl _ _).alloc (Nat.le_refl _) _
  have hb3 := hb2.trans (hY.mono hb2.size)
  have P3 := P1.step hb3
  have ok3 := ok1.below hb3
  have ka3 := ka.below_all hb3
  have own3 := hown2.below hY
  have kp3 := Blk.new w2 40 #[.int .i64 r2.p.cl, .int .u64 r2.p.tok, .string r2.p.nm, .slice r2.A1 r2.p.args.length r2.c1, .int .i64 r2.p.how, .slice r2.A2 r2.p.rd.length r2.c2, .slice r2.A3 r2.p.wr.length r2.c3]
  have hbl2 := fun k (hk : r2.blks k) => hown2.blks hk
  have U3 := U1.trans (Upd.of_below' hb3 _) fun _ _ h => h
  have hz2 := hb2.size
  have hz3 := hb3.size
  have hk3 := kp3.lt
  clear P1 ok1 ka hown2 hY hb2 hb3 U1
  go_upto_region 4 with fail
  generalize w2.alloc (.cells #[.int .i64 r2.p.cl, .int .u64 r2.p.tok, .string r2.p.nm, .slice r2.A1 r2.p.args.length r2.c1, .int .i64 r2.p.how, .slice r2.A2 r2.p.rd.length r2.c2, .slice r2.A3 r2.p.wr.length r2.c3] 40) = w3 at *
  have p0 : w3.cell? ⟨w2.heap.size, 0, none⟩ = some (.int .i64 r2.p.cl) := kp3.cell 0
  have p1 : w3.cell? ⟨w2.heap.size, 1, none⟩ = some (.int .u64 r2.p.tok) := kp3.cell 1
  have p2 : w3.cell? ⟨w2.heap.size, 2, none⟩ = some (.string r2.p.nm) := kp3.cell 2
  have p3 : w3.cell? ⟨w2.heap.size, 3, none⟩ = some (.slice r2.A1 r2.p.args.length r2.c1) := kp3.cell 3
  have p4 : w3.cell? ⟨w2.heap.size, 4, none⟩ = some (.int .i64 r2.p.how) := kp3.cell 4
  have p5 : w3.cell? ⟨w2.heap.size, 5, none⟩ = some (.slice r2.A2 r2.p.rd.length r2.c2) := kp3.cell 5
  have p6 : w3.cell? ⟨w2.heap.size, 6, none⟩ = some (.slice r2.A3 r2.p.wr.length r2.c3) := kp3.cell 6
  go_wp2_with fail
  refine (submit_any _ r2 P3.q own3.ok hf2).mono ?_
  rintro e w4 ⟨S4, rfl, hq4, hS4, hu4⟩
  have H4 := P3.half hq4 hS4 hu4 (by omega)
  have ka4 := ka3.upd hu4 fun hS => by have := hSlt _ hS; omega
  have kp4 := kp3.upd hu4 fun hS => by have := hSlt _ hS; omega
  have ok4 : a.r.ok (fun k => k < B) w4 := ok3.keep fun k hk hl => hu4.block k hl fun hS => by have := hSB k hS; omega
  have own4 := own3.upd hu4 fun k h1 _ hS => by have := hSlt k hS; omega
  have U4 := U3.trans (hu4.mono (M' := fun k => B ≤ k) fun k _ h => hSB k h) fun _ _ h => h
  have hz4 := hu4.size
  clear p0 p1 p2 p3 p4 p5 p6 P3 ok3 ka3 own3 kp3 U3 hq4 hu4
  have x1 : w4.cell? ⟨w.heap.size, 1, none⟩ = some (.int .i64 a.r.p.cl) := ka4.cell 1
  have x2 : w4.cell? ⟨w.heap.size, 2, none⟩ = some (.int .u64 a.r.p.tok) := ka4.cell 2
  have x3 : w4.cell? ⟨w.heap.size, 3, none⟩ = some (.string a.r.p.nm) := ka4.cell 3
  have x4 : w4.cell? ⟨w.heap.size, 4, none⟩ = some (.slice a.r.A1 a.r.p.args.length a.r.c1) := ka4.cell 4
  have x5 : w4.cell? ⟨w.heap.size, 5, none⟩ = some (.int .i64 a.r.p.how) := ka4.cell 5
  have x6 : w4.cell? ⟨w.heap.size, 6, none⟩ = some (.slice a.r.A2 a.r.p.rd.length a.r.c2) := ka4.cell 6
  have x7 : w4.cell? ⟨w.heap.size, 7, none⟩ = some (.slice a.r.A3 a.r.p.wr.length a.r.c3) := ka4.cell 7
  have p0 : w4.cell? ⟨w2.heap.size, 0, none⟩ = some (.int .i64 r2.p.cl) := kp4.cell 0
  have p1 : w4.cell? ⟨w2.heap.size, 1, none⟩ = some (.int .u64 r2.p.tok) := kp4.cell 1
  have p2 : w4.cell? ⟨w2.heap.size, 2, none⟩ = some (.string r2.p.nm) := kp4.cell 2
  have p3 : w4.cell? ⟨w2.heap.size, 3, none⟩ = some (.slice r2.A1 r2.p.args.length r2.c1) := kp4.cell 3
  have p4 : w4.cell? ⟨w2.heap.size, 4, none⟩ = some (.int .i64 r2.p.how) := kp4.cell 4
  have p5 : w4.cell? ⟨w2.heap.size, 5, none⟩ = some (.slice r2.A2 r2.p.rd.length r2.c2) := kp4.cell 5
  have p6 : w4.cell? ⟨w2.heap.size, 6, none⟩ = some (.slice r2.A3 r2.p.wr.length r2.c3) := kp4.cell 6
  go_wp2_with fail
  refine (plans_any _ _ r2 a.r w4 hp.out own4.ok ok4 hf2).mono ?_
  rintro e w5 ⟨rfl, hb5⟩
  have H5 := H4.step hb5
  have ka5 := ka4.below_all hb5
  have kp5 := kp4.below_all hb5
  have ok5 := ok4.below hb5
  have own5 := own4.below hb5
  have U5 := U4.trans (Upd.of_below' hb5 _) fun _ _ h => h
  have hz5 := hb5.size
  clear x1 x2 x3 x4 x5 x6 x7 p0 p1 p2 p3 p4 p5 p6 H4 ka4 kp4 ok4 own4 U4 hb5
  have p0 : w5.cell? ⟨w2.heap.size, 0, none⟩ = some (.int .i64 r2.p.cl) := kp5.cell 0
  have p1 : w5.cell? ⟨w2.heap.size, 1, none⟩ = some (.int .u64 r2.p.tok) := kp5.cell 1
  have p2 : w5.cell? ⟨w2.heap.size, 2, none⟩ = some (.string r2.p.nm) := kp5.cell 2
  have p3 : w5.cell? ⟨w2.heap.size, 3, none⟩ = some (.slice r2.A1 r2.p.args.length r2.c1) := kp5.cell 3
  have p4 : w5.cell? ⟨w2.heap.size, 4, none⟩ = some (.int .i64 r2.p.how) := kp5.cell 4
  have p5 : w5.cell? ⟨w2.heap.size, 5, none⟩ = some (.slice r2.A2 r2.p.rd.length r2.c2) := kp5.cell 5
  have p6 : w5.cell? ⟨w2.heap.size, 6, none⟩ = some (.slice r2.A3 r2.p.wr.length r2.c3) := kp5.cell 6
  go_wp2_with fail
  refine (spoil_any _ r2 w5 own5 hf2).mono ?_
  rintro e w6 ⟨rfl, hu6⟩
  have H6 := H5.far hu6 (fun k hk hb => by
    have := hbl2 k hb
    rcases hS4 k hk with h1 | h1
    · have := hSlt k h1; omega
    · omega) (fun k hk hb => by have := hbl2 k hb; have := hTlt k hk; omega)
  have ka6 := ka5.upd hu6 fun hb => by have := hbl2 _ hb; omega
  have ok6 : a.r.ok (fun k => k < B) w6 := ok5.keep fun k hk hl => hu6.block k hl fun hb => by have := hbl2 k hb; omega
  have U6 := U5.trans (hu6.mono (M' := fun k => B ≤ k) fun k _ h => by have := hbl2 k h; omega) fun _ _ h => h
  have hz6 := hu6.size
  clear p0 p1 p2 p3 p4 p5 p6 H5 ka5 kp5 ok5 own5 U5 hu6
  go_wp2_with fail
  have x1 : w6.cell? ⟨w.heap.size, 1, none⟩ = some (.int .i64 a.r.p.cl) := ka6.cell 1
  have x2 : w6.cell? ⟨w.heap.size, 2, none⟩ = some (.int .u64 a.r.p.tok) := ka6.cell 2
  have x3 : w6.cell? ⟨w.heap.size, 3, none⟩ = some (.string a.r.p.nm) := ka6.cell 3
  have x4 : w6.cell? ⟨w.heap.size, 4, none⟩ = some (.slice a.r.A1 a.r.p.args.length a.r.c1) := ka6.cell 4
  have x5 : w6.cell? ⟨w.heap.size, 5, none⟩ = some (.int .i64 a.r.p.how) := ka6.cell 5
  have x6 : w6.cell? ⟨w.heap.size, 6, none⟩ = some (.slice a.r.A2 a.r.p.rd.length a.r.c2) := ka6.cell 6
  have x7 : w6.cell? ⟨w.heap.size, 7, none⟩ = some (.slice a.r.A3 a.r.p.wr.length a.r.c3) := ka6.cell 7
  have H6d := H6.step (Below.refl _ w6).drew
  have ok6d := ok6.below (Below.refl _ w6).drew
  have hcode : Hid (subCode mt sh L T r2.p = subCode mt sh L T a.r.p) := hid (by rw [hp.out])
  rw [hcode.out]
  go_region_held3 (fun w' => w'.cell? ⟨w.heap.size, 1, none⟩ = some (.int .i64 a.r.p.cl) ∧ w'.cell? ⟨w.heap.size, 2, none⟩ = some (.int .u64 a.r.p.tok) ∧ w'.cell? ⟨w.heap.size, 3, none⟩ = some (.string a.r.p.nm) ∧ w'.cell? ⟨w.heap.size, 4, none⟩ = some (.slice a.r.A1 a.r.p.args.length a.r.c1) ∧ w'.cell? ⟨w.heap.size, 5, none⟩ = some (.int .i64 a.r.p.how) ∧ w'.cell? ⟨w.heap.size, 6, none⟩ = some (.slice a.r.A2 a.r.p.rd.length a.r.c2) ∧ w'.cell? ⟨w.heap.size, 7, none⟩ = some (.slice a.r.A3 a.r.p.wr.length a.r.c3)) (first | exact ⟨x1, x2, x3, x4, x5, x6, x7⟩ | exact ⟨y1, y2, y3, y4, y5, y6, y7⟩)
    (first
      | (go_at_call 12; refine (num_any _ _).mono ?_; rintro e w' ⟨rfl, rfl⟩)
      | (go_at_call 39
         refine (rsubmit_any _ a.r H6d.t ok6d hf (H6d.bnd.1 _)).mono ?_
         rintro e w7 ⟨rfl, S7, ht7, hS7, hu7⟩
         have ka7 : Blk w7 w.heap.size _ _ := Blk.upd (w := w6.drew) ka6 hu7 fun hS => by have := hTlt _ hS; omega
         have y1 : w7.cell? ⟨w.heap.size, 1, none⟩ = some (.int .i64 a.r.p.cl) := ka7.cell 1
         have y2 : w7.cell? ⟨w.heap.size, 2, none⟩ = some (.int .u64 a.r.p.tok) := ka7.cell 2
         have y3 : w7.cell? ⟨w.heap.size, 3, none⟩ = some (.string a.r.p.nm) := ka7.cell 3
         have y4 : w7.cell? ⟨w.heap.size, 4, none⟩ = some (.slice a.r.A1 a.r.p.args.length a.r.c1) := ka7.cell 4
         have y5 : w7.cell? ⟨w.heap.size, 5, none⟩ = some (.int .i64 a.r.p.how) := ka7.cell 5
         have y6 : w7.cell? ⟨w.heap.size, 6, none⟩ = some (.slice a.r.A2 a.r.p.rd.length a.r.c2) := ka7.cell 6
         have y7 : w7.cell? ⟨w.heap.size, 7, none⟩ = some (.slice a.r.A3 a.r.p.wr.length a.r.c3) := ka7.cell 7
         clear ka7))
  all_goals
    go_wp2_with fail
    go_ret
    have hq7 := H6d.whole (by rw [hp.out]; exact ht7) hS7 hu7 (by show B ≤ w6.heap.size; omega) (by rw [hp.out]; exact H6d.bnd.sub)
    refine ⟨by simp, ⟨_, _, _, _, hq7⟩, (U6.trans (Upd.trans (Upd.of_below' (Below.refl _ w6).drew (fun k => B ≤ k)) (hu7.mono (M' := fun k => B ≤ k) fun k _ h => hTB k h) fun _ _ h => h) fun _ _ h => h).below hB fun k hk h => by omega⟩
end

end Go.Proofs.Ytppcjaljhahdnaa

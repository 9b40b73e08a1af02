/- One act on both queues: First, Take, Out, Settle. -/
import Derived.Test.YtppcjaljhahdnaaQDoes
namespace Go.Proofs.Ytppcjaljhahdnaa
open Go.RowKit
set_option linter.unusedVariables false
set_option linter.unusedSimpArgs false

theorem Bnd.settle {sh : Int} {L : List Pl} (h : Bnd sh L) (i : Int) (p : Pl) : Bnd sh (settleL L i p) := by
  unfold settleL
  split
  · rename_i hi
    have hn : i.toNat < L.length := by omega
    have hg : L[i.toNat]?.getD p = L[i.toNat] := by simp [hn]
    rw [hg]
    refine ⟨fun c => by rw [cnt_set c L _ hn (setP L[i.toNat] p) rfl]; exact h.1 c, fun x hx => ?_⟩
    rcases List.mem_or_eq_of_mem_set hx with hx | rfl
    · exact h.2 x hx
    · exact h.2 L[i.toNat] (List.getElem_mem hn)
  · exact h
section
variable {B : Nat} {mt sh wn : Int} {g g' : Nat} {S S' : Nat → Prop} {L : List Pl} {T : Int → List Int} {w : World} {a : QA}
set_option maxRecDepth 100000 in
set_option maxHeartbeats 4000000 in
theorem does_first (h : Pair B mt sh wn g g' S S' L T w) (hB : B ≤ w.heap.size) (ha : a.r.ok (fun k => k < B) w) (hf : a.r.p.fits) : Calls Try.prog 24 #[.pointer (some ⟨g, 0, none⟩), .pointer (some ⟨g', 0, none⟩), .agg #[.int .i64 6, .int .i64 a.r.p.cl, .int .u64 a.r.p.tok, .string a.r.p.nm, .slice a.r.A1 a.r.p.args.length a.r.c1, .int .i64 a.r.p.how, .slice a.r.A2 a.r.p.rd.length a.r.c2, .slice a.r.A3 a.r.p.wr.length a.r.c3, .int .i64 a.i, .int .i64 a.cl, .int .u64 a.tok]] w (Done B mt sh wn g g' w) := by
  have hX : Below w.heap.size w (w.alloc (.cells #[.int .i64 6, .int .i64 a.r.p.cl, .int .u64 a.r.p.tok, .string a.r.p.nm, .slice a.r.A1 a.r.p.args.length a.r.c1, .int .i64 a.r.p.how, .slice a.r.A2 a.r.p.rd.length a.r.c2, .slice a.r.A3 a.r.p.wr.length a.r.c3, .int .i64 a.i, .int .i64 a.cl, .int .u64 a.tok] 42)) := (Below.refl _ _).alloc (Nat.le_refl _) _
  have P1 := h.step hX
  have ok1 := ha.below hX
  have ka := Blk.new w 42 #[.int .i64 6, .int .i64 a.r.p.cl, .int .u64 a.r.p.tok, .string a.r.p.nm, .slice a.r.A1 a.r.p.args.length a.r.c1, .int .i64 a.r.p.how, .slice a.r.A2 a.r.p.rd.length a.r.c2, .slice a.r.A3 a.r.p.wr.length a.r.c3, .int .i64 a.i, .int .i64 a.cl, .int .u64 a.tok]
  have hSlt := h.q.lt.1
  have hTlt := h.t.lt.1
  have hSB := h.newq
  have hTB := h.newt
  have U1 : Upd (fun k => B ≤ k) w (w.alloc (.cells #[.int .i64 6, .int .i64 a.r.p.cl, .int .u64 a.r.p.tok, .string a.r.p.nm, .slice a.r.A1 a.r.p.args.length a.r.c1, .int .i64 a.r.p.how, .slice a.r.A2 a.r.p.rd.length a.r.c2, .slice a.r.A3 a.r.p.wr.length a.r.c3, .int .i64 a.i, .int .i64 a.cl, .int .u64 a.tok] 42)) := Upd.of_below' hX _
  clear h ha hX
  go_enter Try.func24, Try.ntmps24
  go_upto_region 11 with fail
  generalize w.alloc (.cells #[.int .i64 6, .int .i64 a.r.p.cl, .int .u64 a.r.p.tok, .string a.r.p.nm, .slice a.r.A1 a.r.p.args.length a.r.c1, .int .i64 a.r.p.how, .slice a.r.A2 a.r.p.rd.length a.r.c2, .slice a.r.A3 a.r.p.wr.length a.r.c3, .int .i64 a.i, .int .i64 a.cl, .int .u64 a.tok] 42) = w1 at *
  have hz1 := ka.lt
  go_wp2_with fail
  refine (firstI P1.q).mono ?_
  rintro e w2 ⟨r2, ok2, rfl, hc2, hown2, hb2⟩
  have hY : Below w2.heap.size w2 (w2.alloc (.cells #[.int .i64 r2.p.cl, .int .u64 r2.p.tok, .string r2.p.nm, .slice r2.A1 r2.p.args.length r2.c1, .int .i64 r2.p.how, .slice r2.A2 r2.p.rd.length r2.c2, .slice r2.A3 r2.p.wr.length r2.c3] 40)) := (Below.refl _ _).alloc (Nat.le_refl _) _
  have hb3 := hb2.trans (hY.mono hb2.size)
  have P3 := P1.step hb3
  have ka3 := ka.below_all hb3
  have own3 := hown2.below hY
  have kp3 := Blk.new w2 40 #[.int .i64 r2.p.cl, .int .u64 r2.p.tok, .string r2.p.nm, .slice r2.A1 r2.p.args.length r2.c1, .int .i64 r2.p.how, .slice r2.A2 r2.p.rd.length r2.c2, .slice r2.A3 r2.p.wr.length r2.c3]
  have hbl2 := fun k (hk : r2.blks k) => hown2.blks hk
  have U3 := U1.trans (Upd.of_below' hb3 _) fun _ _ h => h
  have hz2 := hb2.size
  have hz3 := hb3.size
  have hk3 := kp3.lt
  have hc2 := hid hc2
  clear P1 ok1 ka hown2 hY hb2 hb3 U1
  go_upto_region 12 with fail
  generalize w2.alloc (.cells #[.int .i64 r2.p.cl, .int .u64 r2.p.tok, .string r2.p.nm, .slice r2.A1 r2.p.args.length r2.c1, .int .i64 r2.p.how, .slice r2.A2 r2.p.rd.length r2.c2, .slice r2.A3 r2.p.wr.length r2.c3] 40) = w3 at *
  go_wp2_with fail
  refine (ratI 0 P3.t).mono ?_
  rintro e w4 ⟨s4, ok4, rfl, hc4, hown4, hb4⟩
  obtain ⟨rfl, hps0, hf2⟩ := gone_same P3.fits hc2.out hc4
  have hps := hid hps0
  have hc4 := hid hc4
  have hY : Below w4.heap.size w4 (w4.alloc (.cells #[.int .i64 s4.p.cl, .int .u64 s4.p.tok, .string s4.p.nm, .slice s4.A1 s4.p.args.length s4.c1, .int .i64 s4.p.how, .slice s4.A2 s4.p.rd.length s4.c2, .slice s4.A3 s4.p.wr.length s4.c3] 40)) := (Below.refl _ _).alloc (Nat.le_refl _) _
  have hb5 := hb4.trans (hY.mono hb4.size)
  have P5 := P3.step hb5
  have ka5 := ka3.below_all hb5
  have own5 := own3.below hb5
  have kp5 := kp3.below_all hb5
  have sown5 := hown4.below hY
  have ks5 := Blk.new w4 40 #[.int .i64 s4.p.cl, .int .u64 s4.p.tok, .string s4.p.nm, .slice s4.A1 s4.p.args.length s4.c1, .int .i64 s4.p.how, .slice s4.A2 s4.p.rd.length s4.c2, .slice s4.A3 s4.p.wr.length s4.c3]
  have sbl4 := fun k (hk : s4.blks k) => hown4.blks hk
  have U5 := U3.trans (Upd.of_below' hb5 _) fun _ _ h => h
  have hz4 := hb4.size
  have hz5 := hb5.size
  have hk5 := ks5.lt
  clear P3 ka3 own3 kp3 hown4 hY hb4 hb5 U3 hps0
  go_upto_region 13 with fail
  generalize w4.alloc (.cells #[.int .i64 s4.p.cl, .int .u64 s4.p.tok, .string s4.p.nm, .slice s4.A1 s4.p.args.length s4.c1, .int .i64 s4.p.how, .slice s4.A2 s4.p.rd.length s4.c2, .slice s4.A3 s4.p.wr.length s4.c3] 40) = w5 at *
  have p0 : w5.cell? ⟨w2.heap.size, 0, none⟩ = some (.int .i64 r2.p.cl) := kp5.cell 0
  have p1 : w5.cell? ⟨w2.heap.size, 1, none⟩ = some (.int .u64 r2.p.tok) := kp5.cell 1
  have p2 : w5.cell? ⟨w2.heap.size, 2, none⟩ = some (.string r2.p.nm) := kp5.cell 2
  have p3 : w5.cell? ⟨w2.heap.size, 3, none⟩ = some (.slice r2.A1 r2.p.args.length r2.c1) := kp5.cell 3
  have p4 : w5.cell? ⟨w2.heap.size, 4, none⟩ = some (.int .i64 r2.p.how) := kp5.cell 4
  have p5 : w5.cell? ⟨w2.heap.size, 5, none⟩ = some (.slice r2.A2 r2.p.rd.length r2.c2) := kp5.cell 5
  have p6 : w5.cell? ⟨w2.heap.size, 6, none⟩ = some (.slice r2.A3 r2.p.wr.length r2.c3) := kp5.cell 6
  have q0 : w5.cell? ⟨w4.heap.size, 0, none⟩ = some (.int .i64 s4.p.cl) := ks5.cell 0
  have q1 : w5.cell? ⟨w4.heap.size, 1, none⟩ = some (.int .u64 s4.p.tok) := ks5.cell 1
  have q2 : w5.cell? ⟨w4.heap.size, 2, none⟩ = some (.string s4.p.nm) := ks5.cell 2
  have q3 : w5.cell? ⟨w4.heap.size, 3, none⟩ = some (.slice s4.A1 s4.p.args.length s4.c1) := ks5.cell 3
  have q4 : w5.cell? ⟨w4.heap.size, 4, none⟩ = some (.int .i64 s4.p.how) := ks5.cell 4
  have q5 : w5.cell? ⟨w4.heap.size, 5, none⟩ = some (.slice s4.A2 s4.p.rd.length s4.c2) := ks5.cell 5
  have q6 : w5.cell? ⟨w4.heap.size, 6, none⟩ = some (.slice s4.A3 s4.p.wr.length s4.c3) := ks5.cell 6
  go_wp2_with fail
  refine (told_any _ _ r2 s4 ok4 w5 own5 sown5.ok hps.out hf2).mono ?_
  rintro e w6 ⟨rfl, hu6⟩
  clear p0 p1 p2 p3 p4 p5 p6 q0 q1 q2 q3 q4 q5 q6
  have P6 := P5.far hu6 (fun k hk hb => by have := hbl2 k hb; have := hSlt k hk; omega) (fun k hk hb => by have := hbl2 k hb; have := hTlt k hk; omega)
  have ka6 := ka5.upd hu6 fun hb => by have := hbl2 _ hb; omega
  have kp6 := kp5.upd hu6 fun hb => by have := hbl2 _ hb; omega
  have ks6 := ks5.upd hu6 fun hb => by have := hbl2 _ hb; omega
  have sown6 := sown5.upd hu6 fun k h1 h2 hb => by have := hbl2 k hb; omega
  have U6 := U5.trans (hu6.mono (M' := fun k => B ≤ k) fun k _ h => by have := hbl2 k h; omega) fun _ _ h => h
  have hz6 := hu6.size
  clear P5 ka5 kp5 ks5 own5 sown5 U5 hu6
  have x0 : w6.cell? ⟨w.heap.size, 0, none⟩ = some (.int .i64 6) := ka6.cell 0
  go_wp2_with fail
  go_ret
  exact ⟨rfl, ⟨_, _, _, _, P6⟩, U6.below hB fun k hk h => by omega⟩
set_option maxRecDepth 100000 in
set_option maxHeartbeats 4000000 in
theorem does_take (h : Pair B mt sh wn g g' S S' L T w) (hB : B ≤ w.heap.size) (ha : a.r.ok (fun k => k < B) w) (hf : a.r.p.fits) : Calls Try.prog 24 #[.pointer (some ⟨g, 0, none⟩), .pointer (some ⟨g', 0, none⟩), .agg #[.int .i64 2, .int .i64 a.r.p.cl, .int .u64 a.r.p.tok, .string a.r.p.nm, .slice a.r.A1 a.r.p.args.length a.r.c1, .int .i64 a.r.p.how, .slice a.r.A2 a.r.p.rd.length a.r.c2, .slice a.r.A3 a.r.p.wr.length a.r.c3, .int .i64 a.i, .int .i64 a.cl, .int .u64 a.tok]] w (Done B mt sh wn g g' w) := by
  have hX : Below w.heap.size w (w.alloc (.cells #[.int .i64 2, .int .i64 a.r.p.cl, .int .u64 a.r.p.tok, .string a.r.p.nm, .slice a.r.A1 a.r.p.args.length a.r.c1, .int .i64 a.r.p.how, .slice a.r.A2 a.r.p.rd.length a.r.c2, .slice a.r.A3 a.r.p.wr.length a.r.c3, .int .i64 a.i, .int .i64 a.cl, .int .u64 a.tok] 42)) := (Below.refl _ _).alloc (Nat.le_refl _) _
  have P1 := h.step hX
  have ok1 := ha.below hX
  have ka := Blk.new w 42 #[.int .i64 2, .int .i64 a.r.p.cl, .int .u64 a.r.p.tok, .string a.r.p.nm, .slice a.r.A1 a.r.p.args.length a.r.c1, .int .i64 a.r.p.how, .slice a.r.A2 a.r.p.rd.length a.r.c2, .slice a.r.A3 a.r.p.wr.length a.r.c3, .int .i64 a.i, .int .i64 a.cl, .int .u64 a.tok]
  have hSlt := h.q.lt.1
  have hTlt := h.t.lt.1
  have hSB := h.newq
  have hTB := h.newt
  have U1 : Upd (fun k => B ≤ k) w (w.alloc (.cells #[.int .i64 2, .int .i64 a.r.p.cl, .int .u64 a.r.p.tok, .string a.r.p.nm, .slice a.r.A1 a.r.p.args.length a.r.c1, .int .i64 a.r.p.how, .slice a.r.A2 a.r.p.rd.length a.r.c2, .slice a.r.A3 a.r.p.wr.length a.r.c3, .int .i64 a.i, .int .i64 a.cl, .int .u64 a.tok] 42)) := Upd.of_below' hX _
  clear h ha hX
  go_enter Try.func24, Try.ntmps24
  go_upto_region 11 with fail
  generalize w.alloc (.cells #[.int .i64 2, .int .i64 a.r.p.cl, .int .u64 a.r.p.tok, .string a.r.p.nm, .slice a.r.A1 a.r.p.args.length a.r.c1, .int .i64 a.r.p.how, .slice a.r.A2 a.r.p.rd.length a.r.c2, .slice a.r.A3 a.r.p.wr.length a.r.c3, .int .i64 a.i, .int .i64 a.cl, .int .u64 a.tok] 42) = w1 at *
  have hz1 := ka.lt
  go_wp2_with fail
  refine (firstI P1.q).mono ?_
  rintro e w2 ⟨r2, ok2, rfl, hc2, hown2, hb2⟩
  have hY : Below w2.heap.size w2 (w2.alloc (.cells #[.int .i64 r2.p.cl, .int .u64 r2.p.tok, .string r2.p.nm, .slice r2.A1 r2.p.args.length r2.c1, .int .i64 r2.p.how, .slice r2.A2 r2.p.rd.length r2.c2, .slice r2.A3 r2.p.wr.length r2.c3] 40)) := (Below.refl _ _).alloc (Nat.le_refl _) _
  have hb3 := hb2.trans (hY.mono hb2.size)
  have P3 := P1.step hb3
  have ka3 := ka.below_all hb3
  have own3 := hown2.below hY
  have kp3 := Blk.new w2 40 #[.int .i64 r2.p.cl, .int .u64 r2.p.tok, .string r2.p.nm, .slice r2.A1 r2.p.args.length r2.c1, .int .i64 r2.p.how, .slice r2.A2 r2.p.rd.length r2.c2, .slice r2.A3 r2.p.wr.length r2.c3]
  have hbl2 := fun k (hk : r2.blks k) => hown2.blks hk
  have U3 := U1.trans (Upd.of_below' hb3 _) fun _ _ h => h
  have hz2 := hb2.size
  have hz3 := hb3.size
  have hk3 := kp3.lt
  have hc2 := hid hc2
  clear P1 ok1 ka hown2 hY hb2 hb3 U1
  go_upto_region 12 with fail
  generalize w2.alloc (.cells #[.int .i64 r2.p.cl, .int .u64 r2.p.tok, .string r2.p.nm, .slice r2.A1 r2.p.args.length r2.c1, .int .i64 r2.p.how, .slice r2.A2 r2.p.rd.length r2.c2, .slice r2.A3 r2.p.wr.length r2.c3] 40) = w3 at *
  go_wp2_with fail
  refine (ratI 0 P3.t).mono ?_
  rintro e w4 ⟨s4, ok4, rfl, hc4, hown4, hb4⟩
  obtain ⟨rfl, hps0, hf2⟩ := gone_same P3.fits hc2.out hc4
  have hps := hid hps0
  have hc4 := hid hc4
  have hY : Below w4.heap.size w4 (w4.alloc (.cells #[.int .i64 s4.p.cl, .int .u64 s4.p.tok, .string s4.p.nm, .slice s4.A1 s4.p.args.length s4.c1, .int .i64 s4.p.how, .slice s4.A2 s4.p.rd.length s4.c2, .slice s4.A3 s4.p.wr.length s4.c3] 40)) := (Below.refl _ _).alloc (Nat.le_refl _) _
  have hb5 := hb4.trans (hY.mono hb4.size)
  have P5 := P3.step hb5
  have ka5 := ka3.below_all hb5
  have own5 := own3.below hb5
  have kp5 := kp3.below_all hb5
  have sown5 := hown4.below hY
  have ks5 := Blk.new w4 40 #[.int .i64 s4.p.cl, .int .u64 s4.p.tok, .string s4.p.nm, .slice s4.A1 s4.p.args.length s4.c1, .int .i64 s4.p.how, .slice s4.A2 s4.p.rd.length s4.c2, .slice s4.A3 s4.p.wr.length s4.c3]
  have sbl4 := fun k (hk : s4.blks k) => hown4.blks hk
  have U5 := U3.trans (Upd.of_below' hb5 _) fun _ _ h => h
  have hz4 := hb4.size
  have hz5 := hb5.size
  have hk5 := ks5.lt
  clear P3 ka3 own3 kp3 hown4 hY hb4 hb5 U3 hps0
  go_upto_region 13 with fail
  generalize w4.alloc (.cells #[.int .i64 s4.p.cl, .int .u64 s4.p.tok, .string s4.p.nm, .slice s4.A1 s4.p.args.length s4.c1, .int .i64 s4.p.how, .slice s4.A2 s4.p.rd.length s4.c2, .slice s4.A3 s4.p.wr.length s4.c3] 40) = w5 at *
  have p0 : w5.cell? ⟨w2.heap.size, 0, none⟩ = some (.int .i64 r2.p.cl) := kp5.cell 0
  have p1 : w5.cell? ⟨w2.heap.size, 1, none⟩ = some (.int .u64 r2.p.tok) := kp5.cell 1
  have p2 : w5.cell? ⟨w2.heap.size, 2, none⟩ = some (.string r2.p.nm) := kp5.cell 2
  have p3 : w5.cell? ⟨w2.heap.size, 3, none⟩ = some (.slice r2.A1 r2.p.args.length r2.c1) := kp5.cell 3
  have p4 : w5.cell? ⟨w2.heap.size, 4, none⟩ = some (.int .i64 r2.p.how) := kp5.cell 4
  have p5 : w5.cell? ⟨w2.heap.size, 5, none⟩ = some (.slice r2.A2 r2.p.rd.length r2.c2) := kp5.cell 5
  have p6 : w5.cell? ⟨w2.heap.size, 6, none⟩ = some (.slice r2.A3 r2.p.wr.length r2.c3) := kp5.cell 6
  have q0 : w5.cell? ⟨w4.heap.size, 0, none⟩ = some (.int .i64 s4.p.cl) := ks5.cell 0
  have q1 : w5.cell? ⟨w4.heap.size, 1, none⟩ = some (.int .u64 s4.p.tok) := ks5.cell 1
  have q2 : w5.cell? ⟨w4.heap.size, 2, none⟩ = some (.string s4.p.nm) := ks5.cell 2
  have q3 : w5.cell? ⟨w4.heap.size, 3, none⟩ = some (.slice s4.A1 s4.p.args.length s4.c1) := ks5.cell 3
  have q4 : w5.cell? ⟨w4.heap.size, 4, none⟩ = some (.int .i64 s4.p.how) := ks5.cell 4
  have q5 : w5.cell? ⟨w4.heap.size, 5, none⟩ = some (.slice s4.A2 s4.p.rd.length s4.c2) := ks5.cell 5
  have q6 : w5.cell? ⟨w4.heap.size, 6, none⟩ = some (.slice s4.A3 s4.p.wr.length s4.c3) := ks5.cell 6
  go_wp2_with fail
  refine (told_any _ _ r2 s4 ok4 w5 own5 sown5.ok hps.out hf2).mono ?_
  rintro e w6 ⟨rfl, hu6⟩
  clear p0 p1 p2 p3 p4 p5 p6 q0 q1 q2 q3 q4 q5 q6
  have P6 := P5.far hu6 (fun k hk hb => by have := hbl2 k hb; have := hSlt k hk; omega) (fun k hk hb => by have := hbl2 k hb; have := hTlt k hk; omega)
  have ka6 := ka5.upd hu6 fun hb => by have := hbl2 _ hb; omega
  have kp6 := kp5.upd hu6 fun hb => by have := hbl2 _ hb; omega
  have ks6 := ks5.upd hu6 fun hb => by have := hbl2 _ hb; omega
  have sown6 := sown5.upd hu6 fun k h1 h2 hb => by have := hbl2 k hb; omega
  have U6 := U5.trans (hu6.mono (M' := fun k => B ≤ k) fun k _ h => by have := hbl2 k h; omega) fun _ _ h => h
  have hz6 := hu6.size
  clear P5 ka5 kp5 ks5 own5 sown5 U5 hu6
  have x0 : w6.cell? ⟨w.heap.size, 0, none⟩ = some (.int .i64 2) := ka6.cell 0
  go_wp2_with fail
  refine (takeI P6.q).mono ?_
  rintro e w7 ⟨r7, ok7, rfl, hc7, hown7, hq7, hu7⟩
  obtain ⟨rfl, hps0, hf7⟩ := gone_same P6.fits hc7 hc4.out
  have hps7 := hid hps0
  clear hps0 hc7
  have H7 := P6.half hq7 (fun k h => .inl h) hu7 (by omega)
  have kp7 := kp6.upd hu7 fun hS => by have := hSlt _ hS; omega
  have ks7 := ks6.upd hu7 fun hS => by have := hSlt _ hS; omega
  have sown7 := sown6.upd hu7 fun k h1 _ hS => by have := hSlt k hS; omega
  have U7 := U6.trans (hu7.mono (M' := fun k => B ≤ k) fun k _ h => hSB k h) fun _ _ h => h
  have hbl7 := fun k (hk : r7.blks k) => hown7.blks hk
  have hbnd := P6.bnd.out 0
  have hz7 := hu7.size
  have qz := fun j => kp7.frozen j
  have p0 : w7.cell? ⟨w2.heap.size, 0, none⟩ = some (.int .i64 r2.p.cl) := kp7.cell 0
  have p1 : w7.cell? ⟨w2.heap.size, 1, none⟩ = some (.int .u64 r2.p.tok) := kp7.cell 1
  have p2 : w7.cell? ⟨w2.heap.size, 2, none⟩ = some (.string r2.p.nm) := kp7.cell 2
  have p3 : w7.cell? ⟨w2.heap.size, 3, none⟩ = some (.slice r2.A1 r2.p.args.length r2.c1) := kp7.cell 3
  have p4 : w7.cell? ⟨w2.heap.size, 4, none⟩ = some (.int .i64 r2.p.how) := kp7.cell 4
  have p5 : w7.cell? ⟨w2.heap.size, 5, none⟩ = some (.slice r2.A2 r2.p.rd.length r2.c2) := kp7.cell 5
  have p6 : w7.cell? ⟨w2.heap.size, 6, none⟩ = some (.slice r2.A3 r2.p.wr.length r2.c3) := kp7.cell 6
  clear P6 kp6 ks6 sown6 U6 hq7 hu7 ka6 x0
  go_upto_region 17 with fail
  have hu8 : Upd (fun k => k = w2.heap.size) w7 (((((((w7.setCell ⟨w2.heap.size, 0, none⟩ (.int .i64 r7.p.cl)).setCell ⟨w2.heap.size, 1, none⟩ (.int .u64 r7.p.tok)).setCell ⟨w2.heap.size, 2, none⟩ (.string r7.p.nm)).setCell ⟨w2.heap.size, 3, none⟩ (.slice r7.A1 r7.p.args.length r7.c1)).setCell ⟨w2.heap.size, 4, none⟩ (.int .i64 r7.p.how)).setCell ⟨w2.heap.size, 5, none⟩ (.slice r7.A2 r7.p.rd.length r7.c2)).setCell ⟨w2.heap.size, 6, none⟩ (.slice r7.A3 r7.p.wr.length r7.c3)) := by
    iterate 7 (refine Upd.setCell ?_ (by intro _; rfl) _)
    exact Upd.refl _ _
  have kp8 : Blk (((((((w7.setCell ⟨w2.heap.size, 0, none⟩ (.int .i64 r7.p.cl)).setCell ⟨w2.heap.size, 1, none⟩ (.int .u64 r7.p.tok)).setCell ⟨w2.heap.size, 2, none⟩ (.string r7.p.nm)).setCell ⟨w2.heap.size, 3, none⟩ (.slice r7.A1 r7.p.args.length r7.c1)).setCell ⟨w2.heap.size, 4, none⟩ (.int .i64 r7.p.how)).setCell ⟨w2.heap.size, 5, none⟩ (.slice r7.A2 r7.p.rd.length r7.c2)).setCell ⟨w2.heap.size, 6, none⟩ (.slice r7.A3 r7.p.wr.length r7.c3)) w2.heap.size 40 #[.int .i64 r7.p.cl, .int .u64 r7.p.tok, .string r7.p.nm, .slice r7.A1 r7.p.args.length r7.c1, .int .i64 r7.p.how, .slice r7.A2 r7.p.rd.length r7.c2, .slice r7.A3 r7.p.wr.length r7.c3] := (((((((kp7.set_ 0 (.int .i64 r7.p.cl)).set_ 1 (.int .u64 r7.p.tok)).set_ 2 (.string r7.p.nm)).set_ 3 (.slice r7.A1 r7.p.args.length r7.c1)).set_ 4 (.int .i64 r7.p.how)).set_ 5 (.slice r7.A2 r7.p.rd.length r7.c2)).set_ 6 (.slice r7.A3 r7.p.wr.length r7.c3))
  have H8 := H7.far hu8 (fun k hk hb => by have := hSlt k hk; omega) (fun k hk hb => by have := hTlt k hk; omega)
  have ks8 := ks7.upd hu8 (by omega)
  have sown8 := sown7.upd hu8 fun k h1 _ hb => by omega
  have hown8 := hown7.upd hu8 fun k h1 _ hb => by omega
  have U8 := U7.trans (hu8.mono (M' := fun k => B ≤ k) fun k _ h => by omega) fun _ _ h => h
  have hz8 := hu8.size
  clear p0 p1 p2 p3 p4 p5 p6 qz kp7 ks7 sown7 hown7 U7 H7 hu8
  generalize (((((((w7.setCell ⟨w2.heap.size, 0, none⟩ (.int .i64 r7.p.cl)).setCell ⟨w2.heap.size, 1, none⟩ (.int .u64 r7.p.tok)).setCell ⟨w2.heap.size, 2, none⟩ (.string r7.p.nm)).setCell ⟨w2.heap.size, 3, none⟩ (.slice r7.A1 r7.p.args.length r7.c1)).setCell ⟨w2.heap.size, 4, none⟩ (.int .i64 r7.p.how)).setCell ⟨w2.heap.size, 5, none⟩ (.slice r7.A2 r7.p.rd.length r7.c2)).setCell ⟨w2.heap.size, 6, none⟩ (.slice r7.A3 r7.p.wr.length r7.c3)) = w8 at *
  go_wp2_with fail
  refine (rtakeI H8.t).mono ?_
  rintro e w9 ⟨s9, ok9, rfl, _, _, S9, ht9, hS9, hu9⟩
  have P9 := H8.whole ht9 hS9 hu9 (by omega) hbnd
  have kp9 := kp8.upd hu9 fun hS => by have := hTlt _ hS; omega
  have ks9 := ks8.upd hu9 fun hS => by have := hTlt _ hS; omega
  have sown9 := sown8.upd hu9 fun k h1 _ hS => by have := hTlt k hS; omega
  have hown9 := hown8.upd hu9 fun k h1 _ hS => by have := hTlt k hS; omega
  have U9 := U8.trans (hu9.mono (M' := fun k => B ≤ k) fun k _ h => hTB k h) fun _ _ h => h
  clear H8 kp8 ks8 sown8 hown8 U8 ht9 hu9
  have p0 : w9.cell? ⟨w2.heap.size, 0, none⟩ = some (.int .i64 r7.p.cl) := kp9.cell 0
  have p1 : w9.cell? ⟨w2.heap.size, 1, none⟩ = some (.int .u64 r7.p.tok) := kp9.cell 1
  have p2 : w9.cell? ⟨w2.heap.size, 2, none⟩ = some (.string r7.p.nm) := kp9.cell 2
  have p3 : w9.cell? ⟨w2.heap.size, 3, none⟩ = some (.slice r7.A1 r7.p.args.length r7.c1) := kp9.cell 3
  have p4 : w9.cell? ⟨w2.heap.size, 4, none⟩ = some (.int .i64 r7.p.how) := kp9.cell 4
  have p5 : w9.cell? ⟨w2.heap.size, 5, none⟩ = some (.slice r7.A2 r7.p.rd.length r7.c2) := kp9.cell 5
  have p6 : w9.cell? ⟨w2.heap.size, 6, none⟩ = some (.slice r7.A3 r7.p.wr.length r7.c3) := kp9.cell 6
  have q0 : w9.cell? ⟨w4.heap.size, 0, none⟩ = some (.int .i64 s4.p.cl) := ks9.cell 0
  have q1 : w9.cell? ⟨w4.heap.size, 1, none⟩ = some (.int .u64 s4.p.tok) := ks9.cell 1
  have q2 : w9.cell? ⟨w4.heap.size, 2, none⟩ = some (.string s4.p.nm) := ks9.cell 2
  have q3 : w9.cell? ⟨w4.heap.size, 3, none⟩ = some (.slice s4.A1 s4.p.args.length s4.c1) := ks9.cell 3
  have q4 : w9.cell? ⟨w4.heap.size, 4, none⟩ = some (.int .i64 s4.p.how) := ks9.cell 4
  have q5 : w9.cell? ⟨w4.heap.size, 5, none⟩ = some (.slice s4.A2 s4.p.rd.length s4.c2) := ks9.cell 5
  have q6 : w9.cell? ⟨w4.heap.size, 6, none⟩ = some (.slice s4.A3 s4.p.wr.length s4.c3) := ks9.cell 6
  go_wp2_with fail
  refine (told_any _ _ r7 s4 ok4 w9 hown9 sown9.ok hps7.out hf7).mono ?_
  rintro e w10 ⟨rfl, hu10⟩
  have P10 := P9.far hu10 (fun k hk hb => by have := hbl7 k hb; have := hSlt k hk; omega) (fun k hk hb => by
    have := hbl7 k hb
    rcases hS9 k hk with h1 | h1
    · have := hTlt k h1; omega
    · omega)
  have U10 := U9.trans (hu10.mono (M' := fun k => B ≤ k) fun k _ h => by have := hbl7 k h; omega) fun _ _ h => h
  go_wp2_with fail
  go_ret
  exact ⟨rfl, ⟨_, _, _, _, P10⟩, U10.below hB fun k hk h => by omega⟩
set_option maxRecDepth 100000 in
set_option maxHeartbeats 4000000 in
theorem does_out (h : Pair B mt sh wn g g' S S' L T w) (hB : B ≤ w.heap.size) (ha : a.r.ok (fun k => k < B) w) (hf : a.r.p.fits) : Calls Try.prog 24 #[.pointer (some ⟨g, 0, none⟩), .pointer (some ⟨g', 0, none⟩), .agg #[.int .i64 7, .int .i64 a.r.p.cl, .int .u64 a.r.p.tok, .string a.r.p.nm, .slice a.r.A1 a.r.p.args.length a.r.c1, .int .i64 a.r.p.how, .slice a.r.A2 a.r.p.rd.length a.r.c2, .slice a.r.A3 a.r.p.wr.length a.r.c3, .int .i64 a.i, .int .i64 a.cl, .int .u64 a.tok]] w (Done B mt sh wn g g' w) := by
  have hX : Below w.heap.size w (w.alloc (.cells #[.int .i64 7, .int .i64 a.r.p.cl, .int .u64 a.r.p.tok, .string a.r.p.nm, .slice a.r.A1 a.r.p.args.length a.r.c1, .int .i64 a.r.p.how, .slice a.r.A2 a.r.p.rd.length a.r.c2, .slice a.r.A3 a.r.p.wr.length a.r.c3, .int .i64 a.i, .int .i64 a.cl, .int .u64 a.tok] 42)) := (Below.refl _ _).alloc (Nat.le_refl _) _
  have P1 := h.step hX
  have ok1 := ha.below hX
  have ka := Blk.new w 42 #[.int .i64 7, .int .i64 a.r.p.cl, .int .u64 a.r.p.tok, .string a.r.p.nm, .slice a.r.A1 a.r.p.args.length a.r.c1, .int .i64 a.r.p.how, .slice a.r.A2 a.r.p.rd.length a.r.c2, .slice a.r.A3 a.r.p.wr.length a.r.c3, .int .i64 a.i, .int .i64 a.cl, .int .u64 a.tok]
  have hSlt := h.q.lt.1
  have hTlt := h.t.lt.1
  have hSB := h.newq
  have hTB := h.newt
  have U1 : Upd (fun k => B ≤ k) w (w.alloc (.cells #[.int .i64 7, .int .i64 a.r.p.cl, .int .u64 a.r.p.tok, .string a.r.p.nm, .slice a.r.A1 a.r.p.args.length a.r.c1, .int .i64 a.r.p.how, .slice a.r.A2 a.r.p.rd.length a.r.c2, .slice a.r.A3 a.r.p.wr.length a.r.c3, .int .i64 a.i, .int .i64 a.cl, .int .u64 a.tok] 42)) := Upd.of_below' hX _
  clear h ha hX
  go_enter Try.func24, Try.ntmps24
  go_upto_region 29 with fail
  generalize w.alloc (.cells #[.int .i64 7, .int .i64 a.r.p.cl, .int .u64 a.r.p.tok, .string a.r.p.nm, .slice a.r.A1 a.r.p.args.length a.r.c1, .int .i64 a.r.p.how, .slice a.r.A2 a.r.p.rd.length a.r.c2, .slice a.r.A3 a.r.p.wr.length a.r.c3, .int .i64 a.i, .int .i64 a.cl, .int .u64 a.tok] 42) = w1 at *
  have hz1 := ka.lt
  have x8 : w1.cell? ⟨w.heap.size, 8, none⟩ = some (.int .i64 a.i) := ka.cell 8
  go_wp2_with fail
  refine (outI a.i P1.q).mono ?_
  rintro e w2 ⟨r2, ok2, rfl, hc20, hown2, hq2, hu2⟩
  have hc2 := hid hc20
  have hfits := P1.fits
  have hbnd := P1.bnd.out a.i
  have H2 := P1.half hq2 (fun k h => .inl h) hu2 (by omega)
  have ka2 := ka.upd hu2 fun hS => by have := hSlt _ hS; omega
  have U2 := U1.trans (hu2.mono (M' := fun k => B ≤ k) fun k _ h => hSB k h) fun _ _ h => h
  have hY : Below w2.heap.size w2 (w2.alloc (.cells #[.int .i64 r2.p.cl, .int .u64 r2.p.tok, .string r2.p.nm, .slice r2.A1 r2.p.args.length r2.c1, .int .i64 r2.p.how, .slice r2.A2 r2.p.rd.length r2.c2, .slice r2.A3 r2.p.wr.length r2.c3] 40)) := (Below.refl _ _).alloc (Nat.le_refl _) _
  have H3 := H2.step hY
  have ka3 := ka2.below_all hY
  have own3 := hown2.below hY
  have kp3 := Blk.new w2 40 #[.int .i64 r2.p.cl, .int .u64 r2.p.tok, .string r2.p.nm, .slice r2.A1 r2.p.args.length r2.c1, .int .i64 r2.p.how, .slice r2.A2 r2.p.rd.length r2.c2, .slice r2.A3 r2.p.wr.length r2.c3]
  have hbl2 := fun k (hk : r2.blks k) => hown2.blks hk
  have U3 := U2.trans (Upd.of_below' hY _) fun _ _ h => h
  have hz2 := hu2.size
  have hz3 := hY.size
  have hk3 := kp3.lt
  clear P1 ok1 ka ka2 H2 hown2 hY hu2 hq2 U1 U2 hc20 x8
  go_upto_region 30 with fail
  generalize w2.alloc (.cells #[.int .i64 r2.p.cl, .int .u64 r2.p.tok, .string r2.p.nm, .slice r2.A1 r2.p.args.length r2.c1, .int .i64 r2.p.how, .slice r2.A2 r2.p.rd.length r2.c2, .slice r2.A3 r2.p.wr.length r2.c3] 40) = w3 at *
  have x8 : w3.cell? ⟨w.heap.size, 8, none⟩ = some (.int .i64 a.i) := ka3.cell 8
  go_wp2_with fail
  refine (routI a.i H3.t).mono ?_
  rintro e w4 ⟨s4, ok4, rfl, hc4, hown4, S4, ht4, hS4, hu4⟩
  obtain ⟨rfl, hps0, hf2⟩ := gone_same hfits hc2.out hc4
  have hps := hid hps0
  have P4 := H3.whole ht4 hS4 hu4 (by omega) hbnd
  have kp4 := kp3.upd hu4 fun hS => by have := hTlt _ hS; omega
  have own4 := own3.upd hu4 fun k h1 _ hS => by have := hTlt k hS; omega
  have U4 := U3.trans (hu4.mono (M' := fun k => B ≤ k) fun k _ h => hTB k h) fun _ _ h => h
  have hY : Below w4.heap.size w4 (w4.alloc (.cells #[.int .i64 s4.p.cl, .int .u64 s4.p.tok, .string s4.p.nm, .slice s4.A1 s4.p.args.length s4.c1, .int .i64 s4.p.how, .slice s4.A2 s4.p.rd.length s4.c2, .slice s4.A3 s4.p.wr.length s4.c3] 40)) := (Below.refl _ _).alloc (Nat.le_refl _) _
  have P5 := P4.step hY
  have own5 := own4.below hY
  have kp5 := kp4.below_all hY
  have sown5 := hown4.below hY
  have ks5 := Blk.new w4 40 #[.int .i64 s4.p.cl, .int .u64 s4.p.tok, .string s4.p.nm, .slice s4.A1 s4.p.args.length s4.c1, .int .i64 s4.p.how, .slice s4.A2 s4.p.rd.length s4.c2, .slice s4.A3 s4.p.wr.length s4.c3]
  have U5 := U4.trans (Upd.of_below' hY _) fun _ _ h => h
  have hz4 := hu4.size
  have hz5 := hY.size
  have hk5 := ks5.lt
  clear H3 P4 ka3 own3 kp3 kp4 own4 hown4 hY hu4 ht4 U3 U4 hps0 hc4 x8
  go_upto_region 31 with fail
  generalize w4.alloc (.cells #[.int .i64 s4.p.cl, .int .u64 s4.p.tok, .string s4.p.nm, .slice s4.A1 s4.p.args.length s4.c1, .int .i64 s4.p.how, .slice s4.A2 s4.p.rd.length s4.c2, .slice s4.A3 s4.p.wr.length s4.c3] 40) = w5 at *
  have p0 : w5.cell? ⟨w2.heap.size, 0, none⟩ = some (.int .i64 r2.p.cl) := kp5.cell 0
  have p1 : w5.cell? ⟨w2.heap.size, 1, none⟩ = some (.int .u64 r2.p.tok) := kp5.cell 1
  have p2 : w5.cell? ⟨w2.heap.size, 2, none⟩ = some (.string r2.p.nm) := kp5.cell 2
  have p3 : w5.cell? ⟨w2.heap.size, 3, none⟩ = some (.slice r2.A1 r2.p.args.length r2.c1) := kp5.cell 3
  have p4 : w5.cell? ⟨w2.heap.size, 4, none⟩ = some (.int .i64 r2.p.how) := kp5.cell 4
  have p5 : w5.cell? ⟨w2.heap.size, 5, none⟩ = some (.slice r2.A2 r2.p.rd.length r2.c2) := kp5.cell 5
  have p6 : w5.cell? ⟨w2.heap.size, 6, none⟩ = some (.slice r2.A3 r2.p.wr.length r2.c3) := kp5.cell 6
  have q0 : w5.cell? ⟨w4.heap.size, 0, none⟩ = some (.int .i64 s4.p.cl) := ks5.cell 0
  have q1 : w5.cell? ⟨w4.heap.size, 1, none⟩ = some (.int .u64 s4.p.tok) := ks5.cell 1
  have q2 : w5.cell? ⟨w4.heap.size, 2, none⟩ = some (.string s4.p.nm) := ks5.cell 2
  have q3 : w5.cell? ⟨w4.heap.size, 3, none⟩ = some (.slice s4.A1 s4.p.args.length s4.c1) := ks5.cell 3
  have q4 : w5.cell? ⟨w4.heap.size, 4, none⟩ = some (.int .i64 s4.p.how) := ks5.cell 4
  have q5 : w5.cell? ⟨w4.heap.size, 5, none⟩ = some (.slice s4.A2 s4.p.rd.length s4.c2) := ks5.cell 5
  have q6 : w5.cell? ⟨w4.heap.size, 6, none⟩ = some (.slice s4.A3 s4.p.wr.length s4.c3) := ks5.cell 6
  go_wp2_with fail
  refine (told_any _ _ r2 s4 ok4 w5 own5 sown5.ok hps.out hf2).mono ?_
  rintro e w6 ⟨rfl, hu6⟩
  have P6 := P5.far hu6 (fun k hk hb => by have := hbl2 k hb; have := hSlt k hk; omega) (fun k hk hb => by
    have := hbl2 k hb
    rcases hS4 k hk with h1 | h1
    · have := hTlt k h1; omega
    · omega)
  have U6 := U5.trans (hu6.mono (M' := fun k => B ≤ k) fun k _ h => by have := hbl2 k h; omega) fun _ _ h => h
  go_wp2_with fail
  go_ret
  exact ⟨rfl, ⟨_, _, _, _, P6⟩, U6.below hB fun k hk h => by omega⟩
set_option maxRecDepth 100000 in
set_option maxHeartbeats 4000000 in
theorem does_settle (h : Pair B mt sh wn g g' S S' L T w) (hB : B ≤ w.heap.size) (ha : a.r.ok (fun k => k < B) w) (hf : a.r.p.fits) : Calls Try.prog 24 #[.pointer (some ⟨g, 0, none⟩), .pointer (some ⟨g', 0, none⟩), .agg #[.int .i64 3, .int .i64 a.r.p.cl, .int .u64 a.r.p.tok, .string a.r.p.nm, .slice a.r.A1 a.r.p.args.length a.r.c1, .int .i64 a.r.p.how, .slice a.r.A2 a.r.p.rd.length a.r.c2, .slice a.r.A3 a.r.p.wr.length a.r.c3, .int .i64 a.i, .int .i64 a.cl, .int .u64 a.tok]] w (Done B mt sh wn g g' w) := by
  have hX : Below w.heap.size w (w.alloc (.cells #[.int .i64 3, .int .i64 a.r.p.cl, .int .u64 a.r.p.tok, .string a.r.p.nm, .slice a.r.A1 a.r.p.args.length a.r.c1, .int .i64 a.r.p.how, .slice a.r.A2 a.r.p.rd.length a.r.c2, .slice a.r.A3 a.r.p.wr.length a.r.c3, .int .i64 a.i, .int .i64 a.cl, .int .u64 a.tok] 42)) := (Below.refl _ _).alloc (Nat.le_refl _) _
  have P1 := h.step hX
  have ok1 := ha.below hX
  have ka := Blk.new w 42 #[.int .i64 3, .int .i64 a.r.p.cl, .int .u64 a.r.p.tok, .string a.r.p.nm, .slice a.r.A1 a.r.p.args.length a.r.c1, .int .i64 a.r.p.how, .slice a.r.A2 a.r.p.rd.length a.r.c2, .slice a.r.A3 a.r.p.wr.length a.r.c3, .int .i64 a.i, .int .i64 a.cl, .int .u64 a.tok]
  have hSlt := h.q.lt.1
  have hTlt := h.t.lt.1
  have hSB := h.newq
  have hTB := h.newt
  have U1 : Upd (fun k => B ≤ k) w (w.alloc (.cells #[.int .i64 3, .int .i64 a.r.p.cl, .int .u64 a.r.p.tok, .string a.r.p.nm, .slice a.r.A1 a.r.p.args.length a.r.c1, .int .i64 a.r.p.how, .slice a.r.A2 a.r.p.rd.length a.r.c2, .slice a.r.A3 a.r.p.wr.length a.r.c3, .int .i64 a.i, .int .i64 a.cl, .int .u64 a.tok] 42)) := Upd.of_below' hX _
  clear h ha hX
  go_enter Try.func24, Try.ntmps24
  go_upto_region 20 with fail
  generalize w.alloc (.cells #[.int .i64 3, .int .i64 a.r.p.cl, .int .u64 a.r.p.tok, .string a.r.p.nm, .slice a.r.A1 a.r.p.args.length a.r.c1, .int .i64 a.r.p.how, .slice a.r.A2 a.r.p.rd.length a.r.c2, .slice a.r.A3 a.r.p.wr.length a.r.c3, .int .i64 a.i, .int .i64 a.cl, .int .u64 a.tok] 42) = w1 at *
  have hz1 := ka.lt
  have x1 : w1.cell? ⟨w.heap.size, 1, none⟩ = some (.int .i64 a.r.p.cl) := ka.cell 1
  have x2 : w1.cell? ⟨w.heap.size, 2, none⟩ = some (.int .u64 a.r.p.tok) := ka.cell 2
  have x3 : w1.cell? ⟨w.heap.size, 3, none⟩ = some (.string a.r.p.nm) := ka.cell 3
  have x4 : w1.cell? ⟨w.heap.size, 4, none⟩ = some (.slice a.r.A1 a.r.p.args.length a.r.c1) := ka.cell 4
  have x5 : w1.cell? ⟨w.heap.size, 5, none⟩ = some (.int .i64 a.r.p.how) := ka.cell 5
  have x6 : w1.cell? ⟨w.heap.size, 6, none⟩ = some (.slice a.r.A2 a.r.p.rd.length a.r.c2) := ka.cell 6
  have x7 : w1.cell? ⟨w.heap.size, 7, none⟩ = some (.slice a.r.A3 a.r.p.wr.length a.r.c3) := ka.cell 7
  go_wp2_with fail
  refine (eplan_any _ a.r w1 ok1 hf).mono ?_
  rintro e w2 ⟨r2, ⟨hp0, rfl⟩, hown2, hb2⟩
  have hf2 : r2.p.fits := by rw [hp0]; exact hf
  have hp := hid hp0
  clear hp0 x1 x2 x3 x4 x5 x6 x7
  have hY : Below w2.heap.size w2 (w2.alloc (.cells #[.int .i64 r2.p.cl, .int .u64 r2.p.tok, .string r2.p.nm, .slice r2.A1 r2.p.args.length r2.c1, .int .i64 r2.p.how, .slice r2.A2 r2.p.rd.length r2.c2, .slice r2.A3 r2.p.wr.length r2.c3] 40)) := (Below.refl _ _).alloc (Nat.le_refl _) _
  have hb3 := hb2.trans (hY.mono hb2.size)
  have P3 := P1.step hb3
  have ok3 := ok1.below hb3
  have ka3 := ka.below_all hb3
  have own3 := hown2.below hY
  have kp3 := Blk.new w2 40 #[.int .i64 r2.p.cl, .int .u64 r2.p.tok, .string r2.p.nm, .slice r2.A1 r2.p.args.length r2.c1, .int .i64 r2.p.how, .slice r2.A2 r2.p.rd.length r2.c2, .slice r2.A3 r2.p.wr.length r2.c3]
  have hbl2 := fun k (hk : r2.blks k) => hown2.blks hk
  have U3 := U1.trans (Upd.of_below' hb3 _) fun _ _ h => h
  have hz2 := hb2.size
  have hz3 := hb3.size
  have hk3 := kp3.lt
  clear P1 ok1 ka hown2 hY hb2 hb3 U1
  go_upto_region 21 with fail
  generalize w2.alloc (.cells #[.int .i64 r2.p.cl, .int .u64 r2.p.tok, .string r2.p.nm, .slice r2.A1 r2.p.args.length r2.c1, .int .i64 r2.p.how, .slice r2.A2 r2.p.rd.length r2.c2, .slice r2.A3 r2.p.wr.length r2.c3] 40) = w3 at *
  have x8 : w3.cell? ⟨w.heap.size, 8, none⟩ = some (.int .i64 a.i) := ka3.cell 8
  have p0 : w3.cell? ⟨w2.heap.size, 0, none⟩ = some (.int .i64 r2.p.cl) := kp3.cell 0
  have p1 : w3.cell? ⟨w2.heap.size, 1, none⟩ = some (.int .u64 r2.p.tok) := kp3.cell 1
  have p2 : w3.cell? ⟨w2.heap.size, 2, none⟩ = some (.string r2.p.nm) := kp3.cell 2
  have p3 : w3.cell? ⟨w2.heap.size, 3, none⟩ = some (.slice r2.A1 r2.p.args.length r2.c1) := kp3.cell 3
  have p4 : w3.cell? ⟨w2.heap.size, 4, none⟩ = some (.int .i64 r2.p.how) := kp3.cell 4
  have p5 : w3.cell? ⟨w2.heap.size, 5, none⟩ = some (.slice r2.A2 r2.p.rd.length r2.c2) := kp3.cell 5
  have p6 : w3.cell? ⟨w2.heap.size, 6, none⟩ = some (.slice r2.A3 r2.p.wr.length r2.c3) := kp3.cell 6
  go_wp2_with fail
  refine (settle_any _ a.i r2 P3.q own3.ok hf2).mono ?_
  rintro e w4 ⟨S4, rfl, hq4, hS4, hu4⟩
  have H4 := P3.half hq4 hS4 hu4 (by omega)
  have ka4 := ka3.upd hu4 fun hS => by have := hSlt _ hS; omega
  have kp4 := kp3.upd hu4 fun hS => by have := hSlt _ hS; omega
  have ok4 : a.r.ok (fun k => k < B) w4 := ok3.keep fun k hk hl => hu4.block k hl fun hS => by have := hSB k hS; omega
  have own4 := own3.upd hu4 fun k h1 _ hS => by have := hSlt k hS; omega
  have U4 := U3.trans (hu4.mono (M' := fun k => B ≤ k) fun k _ h => hSB k h) fun _ _ h => h
  have hz4 := hu4.size
  clear x8 p0 p1 p2 p3 p4 p5 p6 P3 ok3 ka3 own3 kp3 U3 hq4 hu4
  have p0 : w4.cell? ⟨w2.heap.size, 0, none⟩ = some (.int .i64 r2.p.cl) := kp4.cell 0
  have p1 : w4.cell? ⟨w2.heap.size, 1, none⟩ = some (.int .u64 r2.p.tok) := kp4.cell 1
  have p2 : w4.cell? ⟨w2.heap.size, 2, none⟩ = some (.string r2.p.nm) := kp4.cell 2
  have p3 : w4.cell? ⟨w2.heap.size, 3, none⟩ = some (.slice r2.A1 r2.p.args.length r2.c1) := kp4.cell 3
  have p4 : w4.cell? ⟨w2.heap.size, 4, none⟩ = some (.int .i64 r2.p.how) := kp4.cell 4
  have p5 : w4.cell? ⟨w2.heap.size, 5, none⟩ = some (.slice r2.A2 r2.p.rd.length r2.c2) := kp4.cell 5
  have p6 : w4.cell? ⟨w2.heap.size, 6, none⟩ = some (.slice r2.A3 r2.p.wr.length r2.c3) := kp4.cell 6
  go_wp2_with fail
  refine (spoil_any _ r2 w4 own4 hf2).mono ?_
  rintro e w6 ⟨rfl, hu6⟩
  have H6 := H4.far hu6 (fun k hk hb => by
    have := hbl2 k hb
    rcases hS4 k hk with h1 | h1
    · have := hSlt k h1; omega
    · omega) (fun k hk hb => by have := hbl2 k hb; have := hTlt k hk; omega)
  have ka6 := ka4.upd hu6 fun hb => by have := hbl2 _ hb; omega
  have ok6 : a.r.ok (fun k => k < B) w6 := ok4.keep fun k hk hl => hu6.block k hl fun hb => by have := hbl2 k hb; omega
  have U6 := U4.trans (hu6.mono (M' := fun k => B ≤ k) fun k _ h => by have := hbl2 k h; omega) fun _ _ h => h
  have hz6 := hu6.size
  clear p0 p1 p2 p3 p4 p5 p6 H4 ka4 kp4 ok4 own4 U4 hu6
  go_wp2_with fail
  have x1 : w6.cell? ⟨w.heap.size, 1, none⟩ = some (.int .i64 a.r.p.cl) := ka6.cell 1
  have x2 : w6.cell? ⟨w.heap.size, 2, none⟩ = some (.int .u64 a.r.p.tok) := ka6.cell 2
  have x3 : w6.cell? ⟨w.heap.size, 3, none⟩ = some (.string a.r.p.nm) := ka6.cell 3
  have x4 : w6.cell? ⟨w.heap.size, 4, none⟩ = some (.slice a.r.A1 a.r.p.args.length a.r.c1) := ka6.cell 4
  have x5 : w6.cell? ⟨w.heap.size, 5, none⟩ = some (.int .i64 a.r.p.how) := ka6.cell 5
  have x6 : w6.cell? ⟨w.heap.size, 6, none⟩ = some (.slice a.r.A2 a.r.p.rd.length a.r.c2) := ka6.cell 6
  have x7 : w6.cell? ⟨w.heap.size, 7, none⟩ = some (.slice a.r.A3 a.r.p.wr.length a.r.c3) := ka6.cell 7
  have x8 : w6.cell? ⟨w.heap.size, 8, none⟩ = some (.int .i64 a.i) := ka6.cell 8
  have H6d := H6.step (Below.refl _ w6).drew
  have ok6d := ok6.below (Below.refl _ w6).drew
  have hcode : Hid (settleCode L a.i r2.p = settleCode L a.i a.r.p) := hid (by rw [hp.out])
  rw [hcode.out]
  go_region_held3 (fun w' => w'.cell? ⟨w.heap.size, 1, none⟩ = some (.int .i64 a.r.p.cl) ∧ w'.cell? ⟨w.heap.size, 2, none⟩ = some (.int .u64 a.r.p.tok) ∧ w'.cell? ⟨w.heap.size, 3, none⟩ = some (.string a.r.p.nm) ∧ w'.cell? ⟨w.heap.size, 4, none⟩ = some (.slice a.r.A1 a.r.p.args.length a.r.c1) ∧ w'.cell? ⟨w.heap.size, 5, none⟩ = some (.int .i64 a.r.p.how) ∧ w'.cell? ⟨w.heap.size, 6, none⟩ = some (.slice a.r.A2 a.r.p.rd.length a.r.c2) ∧ w'.cell? ⟨w.heap.size, 7, none⟩ = some (.slice a.r.A3 a.r.p.wr.length a.r.c3) ∧ w'.cell? ⟨w.heap.size, 8, none⟩ = some (.int .i64 a.i)) (first | exact ⟨x1, x2, x3, x4, x5, x6, x7, x8⟩ | exact ⟨y1, y2, y3, y4, y5, y6, y7, y8⟩)
    (first
      | (go_at_call 12; refine (num_any _ _).mono ?_; rintro e w' ⟨rfl, rfl⟩)
      | (go_at_call 43
         refine (rsettle_any _ a.i a.r H6d.t ok6d (fun k hk hS => by have := hTB k hS; omega) hf).mono ?_
         rintro e w7 ⟨rfl, S7, ht7, hS7, hu7⟩
         have ka7 : Blk w7 w.heap.size _ _ := Blk.upd (w := w6.drew) ka6 hu7 fun hS => by have := hTlt _ hS; omega
         have y1 : w7.cell? ⟨w.heap.size, 1, none⟩ = some (.int .i64 a.r.p.cl) := ka7.cell 1
         have y2 : w7.cell? ⟨w.heap.size, 2, none⟩ = some (.int .u64 a.r.p.tok) := ka7.cell 2
         have y3 : w7.cell? ⟨w.heap.size, 3, none⟩ = some (.string a.r.p.nm) := ka7.cell 3
         have y4 : w7.cell? ⟨w.heap.size, 4, none⟩ = some (.slice a.r.A1 a.r.p.args.length a.r.c1) := ka7.cell 4
         have y5 : w7.cell? ⟨w.heap.size, 5, none⟩ = some (.int .i64 a.r.p.how) := ka7.cell 5
         have y6 : w7.cell? ⟨w.heap.size, 6, none⟩ = some (.slice a.r.A2 a.r.p.rd.length a.r.c2) := ka7.cell 6
         have y7 : w7.cell? ⟨w.heap.size, 7, none⟩ = some (.slice a.r.A3 a.r.p.wr.length a.r.c3) := ka7.cell 7
         have y8 : w7.cell? ⟨w.heap.size, 8, none⟩ = some (.int .i64 a.i) := ka7.cell 8
         clear ka7))
  all_goals
    go_wp2_with fail
    go_ret
    have hq7 := H6d.whole (by rw [hp.out]; exact ht7) hS7 hu7 (by show B ≤ w6.heap.size; omega) (by rw [hp.out]; exact H6d.bnd.settle _ _)
    refine ⟨by simp, ⟨_, _, _, _, hq7⟩, (U6.trans (Upd.trans (Upd.of_below' (Below.refl _ w6).drew (fun k => B ≤ k)) (hu7.mono (M' := fun k => B ≤ k) fun k _ h => hTB k h) fun _ _ h => h) fun _ _ h => h).below hB fun k hk h => by omega⟩
end

end Go.Proofs.Ytppcjaljhahdnaa

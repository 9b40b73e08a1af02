/- queue: Settle: a plan that waits gets its footprint. -/
import Derived.Test.YtppcjaljhahdnaaQTold
import Derived.Deep.RegionLaw
import Derived.Deep.RegionHeld3
import Derived.BigRegion
import Derived.Deep.DeepCutAuto
namespace Go.Proofs.Ytppcjaljhahdnaa
open Go.RowKit
set_option linter.unusedVariables false
set_option linter.unusedSimpArgs false

/-- a plan that waits gets its footprint -/
def setP (a b : Pl) : Pl := { a with how := b.how, rd := b.rd, wr := b.wr }
def settleCode (L : List Pl) (i : Int) (p : Pl) : Int := if 0 ≤ i ∧ i < L.length then (if reqEq (L[i.toNat]?.getD p) p = true then 0 else 102) else 7
def settleL (L : List Pl) (i : Int) (p : Pl) : List Pl := if 0 ≤ i ∧ i < L.length ∧ reqEq (L[i.toNat]?.getD p) p = true then L.set i.toNat (setP (L[i.toNat]?.getD p) p) else L
def RP.how (r : RP) (h : Int) : RP := { r with p := { r.p with how := h } }
def RP.rds (r q : RP) : RP := { r with p := { r.p with rd := q.p.rd }, A2 := q.A2, c2 := q.c2 }
def RP.wrs (r q : RP) : RP := { r with p := { r.p with wr := q.p.wr }, A3 := q.A3, c3 := q.c3 }
def RP.sets (r q : RP) : RP := ((r.how q.p.how).rds q).wrs q
theorem RP.sets_p (r q : RP) : (r.sets q).p = setP r.p q.p := rfl
theorem pcells_setAt (rs : List RP) (n : Nat) (h : n < rs.length) (r' : RP) (j : Nat) (v : Value) (hj : j < 7) (hc : rs[n].cells.set j v = r'.cells) : (pcells rs).set (n * 7 + j) v = pcells (rs.set n r') := by
  have := pcells_set (rs.take n) (rs.drop (n + 1)) rs[n] r' j v hc hj
  rw [List.getElem_cons_drop, List.take_append_drop, List.length_take, Nat.min_eq_left (by omega)] at this
  rw [this, List.set_eq_take_append_cons_drop, if_pos h]
theorem row_setAt {w : World} {base g c : Nat} {rs : List RP} {n : Nat} (h : w.ownsRow base 40 7 (.slice (some ⟨g, 0, none⟩) rs.length c) rs.length (pcells rs)) (hn : n < rs.length) {r' : RP} (j : Nat) (hj : j < 7) (v : Value) (hc : rs[n].cells.set j v = r'.cells) :
    (w.setCell ⟨g, n * 7 + j, none⟩ v).ownsRow base 40 7 (.slice (some ⟨g, 0, none⟩) (rs.set n r').length c) (rs.set n r').length (pcells (rs.set n r')) := by
  have := (h.stored (n * 7 + j) v).1
  rwa [pcells_setAt rs n hn r' j v hj hc, ← List.length_set (i := n) (a := r')] at this
theorem row_sets {w : World} {base g c : Nat} {rs : List RP} {n : Nat} (h : w.ownsRow base 40 7 (.slice (some ⟨g, 0, none⟩) rs.length c) rs.length (pcells rs)) (hn : n < rs.length) (q : RP) :
    (((w.setCell ⟨g, n * 7 + 4, none⟩ (.int .i64 q.p.how)).setCell ⟨g, n * 7 + 5, none⟩ (.slice q.A2 q.p.rd.length q.c2)).setCell ⟨g, n * 7 + 6, none⟩ (.slice q.A3 q.p.wr.length q.c3)).ownsRow base 40 7 (.slice (some ⟨g, 0, none⟩) (rs.set n (rs[n].sets q)).length c) (rs.set n (rs[n].sets q)).length (pcells (rs.set n (rs[n].sets q))) := by
  have h1 := row_setAt h hn (r' := rs[n].how q.p.how) 4 (by omega) (.int .i64 q.p.how) rfl
  have h2 := row_setAt h1 (n := n) (by simpa using hn) (r' := (rs[n].how q.p.how).rds q) 5 (by omega) (.slice q.A2 q.p.rd.length q.c2) (by simp; rfl)
  have h3 := row_setAt h2 (n := n) (by simpa using hn) (r' := rs[n].sets q) 6 (by omega) (.slice q.A3 q.p.wr.length q.c3) (by simp; rfl)
  simpa only [List.set_set] using h3
theorem plans_set (rs : List RP) (n : Nat) (r : RP) : plans (rs.set n r) = (plans rs).set n r.p := by simp [plans, List.map_set]
theorem cnt_set (x : Int) (L : List Pl) (n : Nat) (h : n < L.length) (p : Pl) (hp : p.cl = L[n].cl) : cnt x (L.set n p) = cnt x L := by
  have h1 := cnt_out x L n h
  have h2 := cnt_out x (L.set n p) n (by simpa using h)
  rw [h1, h2]
  simp only [List.getElem_set_self, hp]
  congr 2
  rw [List.take_set_of_le (Nat.le_refl _), List.drop_set_of_lt (by omega)]

theorem QIn.settled {S : Nat → Prop} {w : World} {g mo ms gr n B : Nat} {mt sh wn : Int} {c : Nat} {rs : List RP} {of : List (Int × Int)} {tk : List (Int × (Value × List Int))} {cur : Array Value} (q : QIn S w g mo ms mt sh wn (some ⟨gr, 0, none⟩) c rs of tk) (hgb : Blk w gr 40 cur) (hn : n < rs.length) (q5 : RP) (ho : q5.own B w) (hB : ∀ k, S k → k < B) (hf : q5.p.fits) :
    QIn (fun k => S k ∨ B ≤ k ∧ k < w.heap.size) (((w.setCell ⟨gr, n * 7 + 4, none⟩ (.int .i64 q5.p.how)).setCell ⟨gr, n * 7 + 5, none⟩ (.slice q5.A2 q5.p.rd.length q5.c2)).setCell ⟨gr, n * 7 + 6, none⟩ (.slice q5.A3 q5.p.wr.length q5.c3)) g mo ms mt sh wn (some ⟨gr, 0, none⟩) c (rs.set n (rs[n].sets q5)) of tk ∧ Upd (fun k => k = gr) w (((w.setCell ⟨gr, n * 7 + 4, none⟩ (.int .i64 q5.p.how)).setCell ⟨gr, n * 7 + 5, none⟩ (.slice q5.A2 q5.p.rd.length q5.c2)).setCell ⟨gr, n * 7 + 6, none⟩ (.slice q5.A3 q5.p.wr.length q5.c3)) := by
  have hgS : S gr := q.pls.row.2 gr rfl
  have hu : Upd (fun k => k = gr) w (((w.setCell ⟨gr, n * 7 + 4, none⟩ (.int .i64 q5.p.how)).setCell ⟨gr, n * 7 + 5, none⟩ (.slice q5.A2 q5.p.rd.length q5.c2)).setCell ⟨gr, n * 7 + 6, none⟩ (.slice q5.A3 q5.p.wr.length q5.c3)) := (((Upd.refl (fun k => k = gr) w).setCell (p := ⟨gr, n * 7 + 4, none⟩) (fun _ => rfl) _).setCell (p := ⟨gr, n * 7 + 5, none⟩) (fun _ => rfl) _).setCell (p := ⟨gr, n * 7 + 6, none⟩) (fun _ => rfl) _
  have hrow := row_sets q.pls.row.1 hn q5
  have ho5 : q5.own B (((w.setCell ⟨gr, n * 7 + 4, none⟩ (.int .i64 q5.p.how)).setCell ⟨gr, n * 7 + 5, none⟩ (.slice q5.A2 q5.p.rd.length q5.c2)).setCell ⟨gr, n * 7 + 6, none⟩ (.slice q5.A3 q5.p.wr.length q5.c3)) := ho.upd hu fun k h1 h2 h3 => by have := hB gr hgS; omega
  have hsz : (((w.setCell ⟨gr, n * 7 + 4, none⟩ (.int .i64 q5.p.how)).setCell ⟨gr, n * 7 + 5, none⟩ (.slice q5.A2 q5.p.rd.length q5.c2)).setCell ⟨gr, n * 7 + 6, none⟩ (.slice q5.A3 q5.p.wr.length q5.c3)).heap.size = w.heap.size := by simp
  obtain ⟨r1, r2, r3⟩ := q.rest hu fun k h => .inr (.inr ⟨cur, h ▸ hgb⟩)
  have hgg : g ≠ gr := q.blk.ne_ hgb (by decide)
  have hblk := q.blk.upd hu hgg
  have hofm := q.ofm.upd hu (q.ofm.ne_blk hgb)
  generalize ((w.setCell ⟨gr, n * 7 + 4, none⟩ (.int .i64 q5.p.how)).setCell ⟨gr, n * 7 + 5, none⟩ (.slice q5.A2 q5.p.rd.length q5.c2)).setCell ⟨gr, n * 7 + 6, none⟩ (.slice q5.A3 q5.p.wr.length q5.c3) = w' at *
  have hS' : ∀ k, S k → S k ∨ B ≤ k ∧ k < w.heap.size := fun k h => .inl h
  have h5S : q5.ownS (fun k => S k ∨ B ≤ k ∧ k < w.heap.size) w' := ho5.ownS fun k h1 h2 => .inr ⟨h1, by omega⟩
  have hmem : ∀ r ∈ rs.set n (rs[n].sets q5), r ∈ rs ∨ r = rs[n].sets q5 := fun r hr => List.mem_or_eq_of_mem_set hr
  have hn0 := List.getElem_mem hn
  refine ⟨⟨by rw [List.length_set]; exact hblk, hofm, r1, ⟨⟨hrow, fun b hb => .inl (q.pls.row.2 b (by simpa [Value.ownBlock] using hb))⟩, fun r hr => ?_⟩, fun t ht => ⟨(r3 t ht).1, fun b hb => .inl ((r3 t ht).2 b hb)⟩, q.apart, ⟨.inl q.inS.1, .inl q.inS.2.1, .inl q.inS.2.2⟩, q.ne, fun k hk => ?_, q.once, fun x => ?_, q.mt1, q.wn1, by rw [List.length_set]; exact q.len, q.tlen, fun r hr => ?_⟩, hu⟩
  · rcases hmem r hr with h | rfl
    · exact ⟨(r2 r h).args.more' hS', (r2 r h).rd.more' hS', (r2 r h).wr.more' hS'⟩
    · exact ⟨(r2 _ hn0).args.more' hS', h5S.rd, h5S.wr⟩
  · rcases hk with hk | hk
    · have := q.lt k hk; omega
    · omega
  · rw [q.cnt x, plans_set, cnt_set x (plans rs) n (by simpa [plans] using hn) _ (by simp [plans]; rfl)]
  · rcases hmem r hr with h | rfl
    · exact q.fits r h
    · exact ⟨(q.fits _ hn0).args, hf.rd, hf.wr⟩

section
variable {S : Nat → Prop} {w : World} {g : Nat} {mt sh wn : Int} {L : List Pl} {T : Int → List Int}
/-- what Settle leaves -/
def SettlePost (S : Nat → Prop) (w : World) (g : Nat) (mt sh wn : Int) (L : List Pl) (T : Int → List Int) (i : Int) (p : Pl) (e : Ending) (w' : World) : Prop :=
  ∃ S', e = .returned (.int .i64 (settleCode L i p)) ∧ QAt S' w' g mt sh wn (settleL L i p) T ∧ (∀ k, S' k → S k ∨ w.heap.size ≤ k) ∧ Upd S w w'
set_option maxRecDepth 100000 in
set_option maxHeartbeats 2000000 in
theorem settle_no (i : Int) (r : RP) (h : QAt S w g mt sh wn L T) (hi : i < 0 ∨ (L.length : Int) ≤ i) : Calls Try.prog 29 #[.pointer (some ⟨g, 0, none⟩), .int .i64 i, .agg #[.int .i64 r.p.cl, .int .u64 r.p.tok, .string r.p.nm, .slice r.A1 r.p.args.length r.c1, .int .i64 r.p.how, .slice r.A2 r.p.rd.length r.c2, .slice r.A3 r.p.wr.length r.c3]] w (SettlePost S w g mt sh wn L T i r.p) := by
  have hc : settleCode L i r.p = 7 := by unfold settleCode; rw [if_neg (by omega)]
  have hL : settleL L i r.p = L := by unfold settleL; rw [if_neg (by omega)]
  unfold SettlePost
  rw [hc, hL]
  clear hc hL
  have hB : Below w.heap.size w (w.alloc (.cells #[.int .i64 r.p.cl, .int .u64 r.p.tok, .string r.p.nm, .slice r.A1 r.p.args.length r.c1, .int .i64 r.p.how, .slice r.A2 r.p.rd.length r.c2, .slice r.A3 r.p.wr.length r.c3] 40)) := (Below.refl _ _).alloc (Nat.le_refl _) _
  have h1 := h.below hB
  obtain ⟨mo, ms, A, c, rs, of, tk, q, rfl, hT⟩ := id h1
  obtain ⟨c0, c1, c2, c3, c4, c5⟩ := q.cells
  have hlen : (plans rs).length = rs.length := by simp [plans]
  rw [hlen] at hi
  have h1 := hid h1
  clear q hT h hlen
  go_enter Try.func29, Try.ntmps29
  by_cases h0 : i < 0
  · have tt : decide (i < 0) = true := by simpa using h0
    clear hi h0
    go_wp2_with fail
    go_ret
    exact ⟨S, rfl, h1.out, fun k hk => .inl hk, Upd.of_below' hB _⟩
  · have tt : decide (i < 0) = false := by simpa using h0
    have t2 : decide ((rs.length : Int) ≤ i) = true := by simp; omega
    clear hi h0
    go_wp2_with fail
    go_ret
    exact ⟨S, rfl, h1.out, fun k hk => .inl hk, Upd.of_below' hB _⟩

set_option maxRecDepth 100000 in
set_option maxHeartbeats 4000000 in
theorem settle_yes (S0 : Nat → Prop) (n : Nat) (r : RP) (h : QAt S w g mt sh wn L T) (hn : n < L.length) (hrp : r.ok S0 w) (hfit : r.p.fits) : Calls Try.prog 29 #[.pointer (some ⟨g, 0, none⟩), .int .i64 n, .agg #[.int .i64 r.p.cl, .int .u64 r.p.tok, .string r.p.nm, .slice r.A1 r.p.args.length r.c1, .int .i64 r.p.how, .slice r.A2 r.p.rd.length r.c2, .slice r.A3 r.p.wr.length r.c3]] w (SettlePost S w g mt sh wn L T n r.p) := by
  have hB : Below w.heap.size w (w.alloc (.cells #[.int .i64 r.p.cl, .int .u64 r.p.tok, .string r.p.nm, .slice r.A1 r.p.args.length r.c1, .int .i64 r.p.how, .slice r.A2 r.p.rd.length r.c2, .slice r.A3 r.p.wr.length r.c3] 40)) := (Below.refl _ _).alloc (Nat.le_refl _) _
  have h1 := h.below hB
  have hr1 := hrp.below hB
  have kb1 := Blk.new w 40 #[.int .i64 r.p.cl, .int .u64 r.p.tok, .string r.p.nm, .slice r.A1 r.p.args.length r.c1, .int .i64 r.p.how, .slice r.A2 r.p.rd.length r.c2, .slice r.A3 r.p.wr.length r.c3]
  obtain ⟨hSlt0, _⟩ := h.lt
  obtain ⟨mo, ms, A, c, rs, of, tk, q, rfl, hT⟩ := id h1
  have hn' : n < rs.length := by simpa [plans] using hn
  have hget : (plans rs)[n]?.getD r.p = rs[n].p := by simp [plans, hn']
  have hin : (0 : Int) ≤ n ∧ (n : Int) < (plans rs).length := by omega
  have hcode : settleCode (plans rs) n r.p = if reqEq rs[n].p r.p = true then 0 else 102 := by unfold settleCode; rw [if_pos hin, Int.toNat_natCast, hget]
  have hLL : settleL (plans rs) n r.p = if reqEq rs[n].p r.p = true then (plans rs).set n (setP rs[n].p r.p) else plans rs := by
    unfold settleL
    rw [Int.toNat_natCast, hget]
    by_cases he : reqEq rs[n].p r.p = true
    · rw [if_pos ⟨hin.1, hin.2, he⟩, if_pos he]
    · rw [if_neg fun h => he h.2.2, if_neg he]
  unfold SettlePost
  rw [hcode, hLL]
  clear hcode hLL hget hin
  obtain ⟨c0, c1, c2, c3, c4, c5⟩ := q.cells
  have hfn := q.fits _ (List.getElem_mem hn')
  obtain ⟨gr, cur, rfl, hgr⟩ := own_formS q.pls.row.1 (by omega)
  obtain ⟨b, o, hA, hSr, hb, r0, a0, a1, a2, a3, a4, a5, a6⟩ := q.pls.ok'.at_ hn'
  simp only [Option.some.injEq, Addr.mk.injEq, and_true] at hA
  obtain ⟨rfl, rfl⟩ := hA
  rw [Nat.zero_add] at a0 a1 a2 a3 a4 a5 a6
  have i1 : (n : Int) < (rs.length : Int) := by omega
  have i0 : (0 : Int) ≤ (n : Int) := by omega
  have hq := hid q
  have hQ1 := hid h1
  have hTT := hid hT
  have tt1 : decide ((n : Int) < 0) = false := decide_eq_false (by omega)
  have tt2 : decide ((rs.length : Int) ≤ (n : Int)) = false := decide_eq_false (by omega)
  have tt3 : decide (rs.length ≤ n) = false := decide_eq_false (by omega)
  have hgg : g ≠ gr := q.blk.ne_ hgr (by decide)
  have hg1 := q.blk.lt
  clear q h hrp hn h1 hT
  go_enter Try.func29, Try.ntmps29
  go_upto_region 5 with fail
  generalize w.alloc (.cells #[.int .i64 r.p.cl, .int .u64 r.p.tok, .string r.p.nm, .slice r.A1 r.p.args.length r.c1, .int .i64 r.p.how, .slice r.A2 r.p.rd.length r.c2, .slice r.A3 r.p.wr.length r.c3] 40) = W1 at *
  have x0 : W1.cell? ⟨w.heap.size, 0, none⟩ = some (.int .i64 r.p.cl) := kb1.cell 0
  have x1 : W1.cell? ⟨w.heap.size, 1, none⟩ = some (.int .u64 r.p.tok) := kb1.cell 1
  have x2 : W1.cell? ⟨w.heap.size, 2, none⟩ = some (.string r.p.nm) := kb1.cell 2
  have x3 : W1.cell? ⟨w.heap.size, 3, none⟩ = some (.slice r.A1 r.p.args.length r.c1) := kb1.cell 3
  have x4 : W1.cell? ⟨w.heap.size, 4, none⟩ = some (.int .i64 r.p.how) := kb1.cell 4
  have x5 : W1.cell? ⟨w.heap.size, 5, none⟩ = some (.slice r.A2 r.p.rd.length r.c2) := kb1.cell 5
  have x6 : W1.cell? ⟨w.heap.size, 6, none⟩ = some (.slice r.A3 r.p.wr.length r.c3) := kb1.cell 6
  have oe := fun W' (hb : Below W1.heap.size W1 W') => oequal_any _ _ rs[n] r W' (r0.below hb) (hr1.below hb) hfn hfit
  have oe := hid (oe W1.drew (Below.refl _ _).drew)
  go_still_tail 10, (by kernel_rfl)
  change wpList _ _ _ _ _ W1.drew
  go_wp2_with fail
  refine oe.out.mono ?_
  rintro e W2 ⟨rfl, hbd⟩
  have hb2 : Below W1.heap.size W1 W2 := ((Below.refl _ W1).drew).trans hbd
  clear hbd
  cases hre0 : reqEq rs[n].p r.p with
  | false =>
    go_wp2_with fail
    all_goals
     go_ret
     refine ⟨rfl, S, ?_, fun k hk => .inl hk, (Upd.of_below' hB _).trans (Upd.of_below' hb2 _) fun _ _ h => h⟩
     exact hQ1.out.below hb2
  | true =>
    have hre := hid hre0
    clear hre0
    have b1 := kb1.below_all hb2
    have y0 : W2.cell? ⟨w.heap.size, 0, none⟩ = some (.int .i64 r.p.cl) := b1.cell 0
    have y1 : W2.cell? ⟨w.heap.size, 1, none⟩ = some (.int .u64 r.p.tok) := b1.cell 1
    have y2 : W2.cell? ⟨w.heap.size, 2, none⟩ = some (.string r.p.nm) := b1.cell 2
    have y3 : W2.cell? ⟨w.heap.size, 3, none⟩ = some (.slice r.A1 r.p.args.length r.c1) := b1.cell 3
    have y4 : W2.cell? ⟨w.heap.size, 4, none⟩ = some (.int .i64 r.p.how) := b1.cell 4
    have y5 : W2.cell? ⟨w.heap.size, 5, none⟩ = some (.slice r.A2 r.p.rd.length r.c2) := b1.cell 5
    have y6 : W2.cell? ⟨w.heap.size, 6, none⟩ = some (.slice r.A3 r.p.wr.length r.c3) := b1.cell 6
    go_wp2_with fail
    refine (own_any _ r W2 (hr1.below hb2) hfit).mono ?_
    rintro e W3 ⟨r5, ⟨hp0, rfl⟩, hown5, hb3⟩
    have hp5 := hid hp0
    clear hp0
    have b2 := b1.below_all hb3
    have hz3 := b2.lt
    have z0 := b2.cell 0
    have z1 := b2.cell 1
    have z2 := b2.cell 2
    have z3 := b2.cell 3
    have z4 := b2.cell 4
    have z5 := b2.cell 5
    have z6 := b2.cell 6
    have qz := fun j => b2.frozen j
    simp at z0 z1 z2 z3 z4 z5 z6
    clear y0 y1 y2 y3 y4 y5 y6 x0 x1 x2 x3 x4 x5 x6
    go_upto_region 8 with fail
    have hu34 : Upd (fun k => k = w.heap.size) W3 (((((((W3.setCell ⟨w.heap.size, 0, none⟩ (.int .i64 r5.p.cl)).setCell ⟨w.heap.size, 1, none⟩ (.int .u64 r5.p.tok)).setCell ⟨w.heap.size, 2, none⟩ (.string r5.p.nm)).setCell ⟨w.heap.size, 3, none⟩ (.slice r5.A1 r5.p.args.length r5.c1)).setCell ⟨w.heap.size, 4, none⟩ (.int .i64 r5.p.how)).setCell ⟨w.heap.size, 5, none⟩ (.slice r5.A2 r5.p.rd.length r5.c2)).setCell ⟨w.heap.size, 6, none⟩ (.slice r5.A3 r5.p.wr.length r5.c3)) := by
      exact (((((((Upd.refl (fun k => k = w.heap.size) W3).setCell (p := ⟨w.heap.size, 0, none⟩) (fun _ => rfl) _).setCell (p := ⟨w.heap.size, 1, none⟩) (fun _ => rfl) _).setCell (p := ⟨w.heap.size, 2, none⟩) (fun _ => rfl) _).setCell (p := ⟨w.heap.size, 3, none⟩) (fun _ => rfl) _).setCell (p := ⟨w.heap.size, 4, none⟩) (fun _ => rfl) _).setCell (p := ⟨w.heap.size, 5, none⟩) (fun _ => rfl) _).setCell (p := ⟨w.heap.size, 6, none⟩) (fun _ => rfl) _
    have b4 : Blk (((((((W3.setCell ⟨w.heap.size, 0, none⟩ (.int .i64 r5.p.cl)).setCell ⟨w.heap.size, 1, none⟩ (.int .u64 r5.p.tok)).setCell ⟨w.heap.size, 2, none⟩ (.string r5.p.nm)).setCell ⟨w.heap.size, 3, none⟩ (.slice r5.A1 r5.p.args.length r5.c1)).setCell ⟨w.heap.size, 4, none⟩ (.int .i64 r5.p.how)).setCell ⟨w.heap.size, 5, none⟩ (.slice r5.A2 r5.p.rd.length r5.c2)).setCell ⟨w.heap.size, 6, none⟩ (.slice r5.A3 r5.p.wr.length r5.c3)) w.heap.size 40 #[.int .i64 r5.p.cl, .int .u64 r5.p.tok, .string r5.p.nm, .slice r5.A1 r5.p.args.length r5.c1, .int .i64 r5.p.how, .slice r5.A2 r5.p.rd.length r5.c2, .slice r5.A3 r5.p.wr.length r5.c3] := by
      exact (((((((b2.set_ 0 (.int .i64 r5.p.cl)).set_ 1 (.int .u64 r5.p.tok)).set_ 2 (.string r5.p.nm)).set_ 3 (.slice r5.A1 r5.p.args.length r5.c1)).set_ 4 (.int .i64 r5.p.how)).set_ 5 (.slice r5.A2 r5.p.rd.length r5.c2)).set_ 6 (.slice r5.A3 r5.p.wr.length r5.c3))
    clear z0 z1 z2 z3 z4 z5 z6 qz b2 b1
    generalize (((((((W3.setCell ⟨w.heap.size, 0, none⟩ (.int .i64 r5.p.cl)).setCell ⟨w.heap.size, 1, none⟩ (.int .u64 r5.p.tok)).setCell ⟨w.heap.size, 2, none⟩ (.string r5.p.nm)).setCell ⟨w.heap.size, 3, none⟩ (.slice r5.A1 r5.p.args.length r5.c1)).setCell ⟨w.heap.size, 4, none⟩ (.int .i64 r5.p.how)).setCell ⟨w.heap.size, 5, none⟩ (.slice r5.A2 r5.p.rd.length r5.c2)).setCell ⟨w.heap.size, 6, none⟩ (.slice r5.A3 r5.p.wr.length r5.c3)) = W4 at *
    have hz1 := kb1.lt
    have hsz2 := hb2.size
    have hsz3 := hb3.size
    have hsz4 := hu34.size
    have hB02 := hB.trans (hb2.mono hB.size)
    have hB03 := hB02.trans (hb3.mono hB02.size)
    have hB04 : Below w.heap.size w W4 := hB03.trans (hu34.below (B := w.heap.size) hB03.size fun k hk h => by omega)
    have hown4 : r5.own (w.heap.size + 1) W4 := (hown5.upd hu34 fun k h1 h2 h3 => by omega).base (by omega)
    have hu14 : Upd (fun k => w.heap.size ≤ k) W1 W4 := ((Upd.of_below' hb2 _).trans (Upd.of_below' hb3 _) fun _ _ h => h).trans hu34 fun k _ h => by omega
    have q4 := hq.out.far hu14 fun k hk => by have := hSlt0 k hk; omega
    clear hu34 hu14 hown5 hB02 hB03 hb3 r0 hr1 kb1 oe c0 c1 c2 c3 c4 c5 a0 a1 a2 a3 a4 a5 a6 hgr
    obtain ⟨c0, c1, c2, c3, c4, c5⟩ := q4.cells
    obtain ⟨gr', cur', hgr', hgb⟩ := own_formS q4.pls.row.1 (by omega)
    simp only [Option.some.injEq, Addr.mk.injEq, and_true] at hgr'
    subst hgr'
    obtain ⟨b', o', hA', _, hb', _, a0, a1, a2, a3, a4, a5, a6⟩ := q4.pls.ok'.at_ hn'
    simp only [Option.some.injEq, Addr.mk.injEq, and_true] at hA'
    obtain ⟨rfl, rfl⟩ := hA'
    rw [Nat.zero_add] at a0 a1 a2 a3 a4 a5 a6
    have x4 : W4.cell? ⟨w.heap.size, 4, none⟩ = some (.int .i64 r5.p.how) := b4.cell 4
    have x5 : W4.cell? ⟨w.heap.size, 5, none⟩ = some (.slice r5.A2 r5.p.rd.length r5.c2) := b4.cell 5
    have x6 : W4.cell? ⟨w.heap.size, 6, none⟩ = some (.slice r5.A3 r5.p.wr.length r5.c3) := b4.cell 6
    have qr := fun j => hgb.frozen j
    have hgr0 : gr < w.heap.size := hSlt0 gr hSr
    have hne1 : gr ≠ w.heap.size := by omega
    have hq4 := hid q4
    have hrow := hid (row_sets q4.pls.row.1 hn' r5)
    clear q4 a0 a1 a2 a3 c0 c1 c2 c4 c5
    go_region
    all_goals (go_wp2_with fail)
    all_goals
     go_ret
     obtain ⟨hqi, hui⟩ := hq4.out.settled hgb hn' r5 hown4 (fun k hk => by have := hSlt0 k hk; omega) (by rw [hp5.out]; exact hfit)
     refine ⟨rfl, _, QAt.below ⟨_, _, _, _, _, _, _, hqi, ?_, hTT.out⟩ (Below.refl _ _).drew, ?_, ?_⟩
     · rw [plans_set, RP.sets_p, hp5.out]
     · rintro k (h | h)
       · exact .inl h
       · exact .inr (by omega)
     · exact ((Upd.of_below' hB04 _).trans hui fun k _ h => h ▸ hSr).drew
theorem settle_any (S0 : Nat → Prop) (i : Int) (r : RP) (h : QAt S w g mt sh wn L T) (hrp : r.ok S0 w) (hfit : r.p.fits) : Calls Try.prog 29 #[.pointer (some ⟨g, 0, none⟩), .int .i64 i, .agg #[.int .i64 r.p.cl, .int .u64 r.p.tok, .string r.p.nm, .slice r.A1 r.p.args.length r.c1, .int .i64 r.p.how, .slice r.A2 r.p.rd.length r.c2, .slice r.A3 r.p.wr.length r.c3]] w (SettlePost S w g mt sh wn L T i r.p) := by
  by_cases hi : 0 ≤ i ∧ i < (L.length : Int)
  · obtain ⟨n, rfl⟩ : ∃ n : Nat, i = (n : Int) := ⟨i.toNat, by omega⟩
    exact settle_yes S0 n r h (by omega) hrp hfit
  · exact settle_no i r h (by omega)
end

end Go.Proofs.Ytppcjaljhahdnaa

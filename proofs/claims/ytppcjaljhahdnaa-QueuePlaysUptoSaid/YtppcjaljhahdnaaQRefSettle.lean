/- The document's queue: Settle. -/
import Derived.Test.YtppcjaljhahdnaaQRefAct
import Derived.BigRegion
namespace Go.Proofs.Ytppcjaljhahdnaa
open Go.RowKit
set_option linter.unusedVariables false
set_option linter.unusedSimpArgs false

def RP.cl_ (r q : RP) : RP := { r with p := { r.p with cl := q.p.cl } }
def RP.tok_ (r q : RP) : RP := { r with p := { r.p with tok := q.p.tok } }
def RP.nm_ (r q : RP) : RP := { r with p := { r.p with nm := q.p.nm } }
def RP.args_ (r q : RP) : RP := { r with p := { r.p with args := q.p.args }, A1 := q.A1, c1 := q.c1 }
def RP.hw_ (r q : RP) : RP := r.how q.p.how
def RP.req_ (r q : RP) : RP := (((r.cl_ q).tok_ q).nm_ q).args_ q
theorem RP.req_sets (r q : RP) : q.req_ r = r.sets q := rfl
theorem row_full {w : World} {base g c : Nat} {rs : List RP} {n : Nat} (h : w.ownsRow base 40 7 (.slice (some ⟨g, 0, none⟩) rs.length c) rs.length (pcells rs)) (hn : n < rs.length) (q : RP) :
    ((((((((w.setCell ⟨g, n * 7 + 0, none⟩ (.int .i64 q.p.cl)).setCell ⟨g, n * 7 + 1, none⟩ (.int .u64 q.p.tok)).setCell ⟨g, n * 7 + 2, none⟩ (.string q.p.nm)).setCell ⟨g, n * 7 + 3, none⟩ (.slice q.A1 q.p.args.length q.c1)).setCell ⟨g, n * 7 + 4, none⟩ (.int .i64 q.p.how)).setCell ⟨g, n * 7 + 5, none⟩ (.slice q.A2 q.p.rd.length q.c2)).setCell ⟨g, n * 7 + 6, none⟩ (.slice q.A3 q.p.wr.length q.c3))).ownsRow base 40 7 (.slice (some ⟨g, 0, none⟩) (rs.set n q).length c) (rs.set n q).length (pcells (rs.set n q)) := by
  have h1 := row_setAt h (n := n) hn (r' := (rs[n].cl_ q)) 0 (by omega) (.int .i64 q.p.cl) (by rfl)
  have h2 := row_setAt h1 (n := n) (by simpa using hn) (r' := ((rs[n].cl_ q).tok_ q)) 1 (by omega) (.int .u64 q.p.tok) (by simp; rfl)
  have h3 := row_setAt h2 (n := n) (by simpa using hn) (r' := (((rs[n].cl_ q).tok_ q).nm_ q)) 2 (by omega) (.string q.p.nm) (by simp; rfl)
  have h4 := row_setAt h3 (n := n) (by simpa using hn) (r' := ((((rs[n].cl_ q).tok_ q).nm_ q).args_ q)) 3 (by omega) (.slice q.A1 q.p.args.length q.c1) (by simp; rfl)
  have h5 := row_setAt h4 (n := n) (by simpa using hn) (r' := (((((rs[n].cl_ q).tok_ q).nm_ q).args_ q).hw_ q)) 4 (by omega) (.int .i64 q.p.how) (by simp; rfl)
  have h6 := row_setAt h5 (n := n) (by simpa using hn) (r' := ((((((rs[n].cl_ q).tok_ q).nm_ q).args_ q).hw_ q).rds q)) 5 (by omega) (.slice q.A2 q.p.rd.length q.c2) (by simp; rfl)
  have h7 := row_setAt h6 (n := n) (by simpa using hn) (r' := q) 6 (by omega) (.slice q.A3 q.p.wr.length q.c3) (by simp; rfl)
  simp only [List.set_set] at h7
  exact h7
theorem row_req {w : World} {base g c : Nat} {rs : List RP} {n : Nat} (h : w.ownsRow base 40 7 (.slice (some ⟨g, 0, none⟩) rs.length c) rs.length (pcells rs)) (hn : n < rs.length) (q : RP) :
    (((((w.setCell ⟨g, n * 7 + 0, none⟩ (.int .i64 q.p.cl)).setCell ⟨g, n * 7 + 1, none⟩ (.int .u64 q.p.tok)).setCell ⟨g, n * 7 + 2, none⟩ (.string q.p.nm)).setCell ⟨g, n * 7 + 3, none⟩ (.slice q.A1 q.p.args.length q.c1))).ownsRow base 40 7 (.slice (some ⟨g, 0, none⟩) (rs.set n (rs[n].req_ q)).length c) (rs.set n (rs[n].req_ q)).length (pcells (rs.set n (rs[n].req_ q))) := by
  have h1 := row_setAt h (n := n) hn (r' := (rs[n].cl_ q)) 0 (by omega) (.int .i64 q.p.cl) (by rfl)
  have h2 := row_setAt h1 (n := n) (by simpa using hn) (r' := ((rs[n].cl_ q).tok_ q)) 1 (by omega) (.int .u64 q.p.tok) (by simp; rfl)
  have h3 := row_setAt h2 (n := n) (by simpa using hn) (r' := (((rs[n].cl_ q).tok_ q).nm_ q)) 2 (by omega) (.string q.p.nm) (by simp; rfl)
  have h4 := row_setAt h3 (n := n) (by simpa using hn) (r' := ((((rs[n].cl_ q).tok_ q).nm_ q).args_ q)) 3 (by omega) (.slice q.A1 q.p.args.length q.c1) (by simp; rfl)
  simp only [List.set_set] at h4
  exact h4

section
variable {S : Nat → Prop} {w : World} {g : Nat} {mt sh wn : Int} {L : List Pl} {T : Int → List Int}
theorem RIn.settled {w' : World} {bt gr n B : Nat} {c : Nat} {rs : List RP} {tv : Nat → Value} {cur : Array Value} (q : RIn S w g bt mt sh wn (some ⟨gr, 0, none⟩) c rs tv T) (hgb : Blk w gr 40 cur) (hn : n < rs.length) (q5 : RP) (hu : Upd (fun k => k = gr) w w') (ho5 : q5.own B w') (hB : ∀ k, S k → k < B) (hf : q5.p.fits)
    (hrow : w'.ownsRow 0 40 7 (.slice (some ⟨gr, 0, none⟩) (rs.set n (rs[n].sets q5)).length c) (rs.set n (rs[n].sets q5)).length (pcells (rs.set n (rs[n].sets q5)))) :
    RIn (fun k => S k ∨ B ≤ k ∧ k < w'.heap.size) w' g bt mt sh wn (some ⟨gr, 0, none⟩) c (rs.set n (rs[n].sets q5)) tv T := by
  have hS' : ∀ k, S k → S k ∨ B ≤ k ∧ k < w'.heap.size := fun k h => .inl h
  have h5S : q5.ownS (fun k => S k ∨ B ≤ k ∧ k < w'.heap.size) w' := ho5.ownS fun k h1 h2 => .inr ⟨h1, by omega⟩
  have hmem : ∀ r ∈ rs.set n (rs[n].sets q5), r ∈ rs ∨ r = rs[n].sets q5 := fun r hr => List.mem_or_eq_of_mem_set hr
  have hn0 := List.getElem_mem hn
  have hk : ∀ (e : TypeId) b cs, e ≠ 40 → Blk w b e cs → w'.heap[b]? = w.heap[b]? := fun e b cs he hb' => hu.block b hb'.lt fun h => hb'.ne_ hgb he h
  have r2 : ∀ r ∈ rs, r.ownS S w' := fun r hr => ⟨(q.pls.ok r hr).args.keepT fun b cs hb => hk _ b cs (by decide) hb, (q.pls.ok r hr).rd.keepT fun b cs hb => hk _ b cs (by decide) hb, (q.pls.ok r hr).wr.keepT fun b cs hb => hk _ b cs (by decide) hb⟩
  obtain ⟨cs, hbt, hc⟩ := q.tks
  refine ⟨by rw [List.length_set]; exact q.blk.upd hu (q.blk.ne_ hgb (by decide)), ⟨cs, hbt.upd hu (hbt.ne_ hgb (by decide)), hc⟩, ⟨⟨hrow, fun b hb => .inl (q.pls.row.2 b (by simpa [Value.ownBlock] using hb))⟩, fun r hr => ?_⟩, fun k h => ⟨(q.tok k h).1.keep fun b cs _ hb' => hk _ b cs (by decide) hb', fun b hb' => .inl ((q.tok k h).2 b hb')⟩, q.out, ⟨.inl q.inS.1, .inl q.inS.2⟩, fun k hk => ?_, q.mt1, q.wn1, by rw [List.length_set]; exact q.len, q.tlen, fun r hr => ?_⟩
  · rcases hmem r hr with h | rfl
    · exact ⟨(r2 r h).args.more' hS', (r2 r h).rd.more' hS', (r2 r h).wr.more' hS'⟩
    · exact ⟨(r2 _ hn0).args.more' hS', h5S.rd, h5S.wr⟩
  · rcases hk with hk | hk
    · have := q.lt k hk; have := hu.size; omega
    · omega
  · rcases hmem r hr with h | rfl
    · exact q.fits r h
    · exact ⟨(q.fits _ hn0).args, hf.rd, hf.wr⟩

/-- what Settle leaves -/
def RSettlePost (S : Nat → Prop) (w : World) (g : Nat) (mt sh wn : Int) (L : List Pl) (T : Int → List Int) (i : Int) (p : Pl) (e : Ending) (w' : World) : Prop :=
  e = .returned (.int .i64 (settleCode L i p)) ∧ RGone S w g mt sh wn (settleL L i p) T w'
set_option maxRecDepth 100000 in
set_option maxHeartbeats 2000000 in
theorem rsettle_no (i : Int) (r : RP) (h : RAt S w g mt sh wn L T) (hi : i < 0 ∨ (L.length : Int) ≤ i) : Calls Try.prog 43 #[.pointer (some ⟨g, 0, none⟩), .int .i64 i, .agg #[.int .i64 r.p.cl, .int .u64 r.p.tok, .string r.p.nm, .slice r.A1 r.p.args.length r.c1, .int .i64 r.p.how, .slice r.A2 r.p.rd.length r.c2, .slice r.A3 r.p.wr.length r.c3]] w (RSettlePost S w g mt sh wn L T i r.p) := by
  have hc : settleCode L i r.p = 7 := by unfold settleCode; rw [if_neg (by omega)]
  have hL : settleL L i r.p = L := by unfold settleL; rw [if_neg (by omega)]
  unfold RSettlePost
  rw [hc, hL]
  clear hc hL
  have hB : Below w.heap.size w (w.alloc (.cells #[.int .i64 r.p.cl, .int .u64 r.p.tok, .string r.p.nm, .slice r.A1 r.p.args.length r.c1, .int .i64 r.p.how, .slice r.A2 r.p.rd.length r.c2, .slice r.A3 r.p.wr.length r.c3] 40)) := (Below.refl _ _).alloc (Nat.le_refl _) _
  have h1 := h.below hB
  obtain ⟨bt, A, c, rs, tv, q, rfl⟩ := id h1
  obtain ⟨c0, c1, c2, c3, c4⟩ := q.cells
  have hlen : (plans rs).length = rs.length := by simp [plans]
  rw [hlen] at hi
  have hQ1 := hid h1
  have hfin : Hid (RGone S w g mt sh wn (plans rs) T (w.alloc (.cells #[.int .i64 r.p.cl, .int .u64 r.p.tok, .string r.p.nm, .slice r.A1 r.p.args.length r.c1, .int .i64 r.p.how, .slice r.A2 r.p.rd.length r.c2, .slice r.A3 r.p.wr.length r.c3] 40))) := hid ⟨S, h1, fun k hk => .inl hk, Upd.of_below' hB _⟩
  clear q h hlen h1
  go_enter Try.func43, Try.ntmps43
  by_cases h0 : i < 0
  · have tt : decide (i < 0) = true := by simpa using h0
    clear hi h0
    go_wp2_with fail
    go_ret
    exact ⟨rfl, hfin.out⟩
  · have tt : decide (i < 0) = false := by simpa using h0
    have t2 : decide ((rs.length : Int) ≤ i) = true := by simp; omega
    clear hi h0
    go_wp2_with fail
    go_ret
    exact ⟨rfl, hfin.out⟩

/-- behind the store of the plan's copy -/
def SetMid (W : World) (gr n c : Nat) (rs : List RP) (p : Pl) (wx : World) : Prop :=
  ∃ r6 : RP, r6.p = p ∧ r6.own W.heap.size wx ∧ wx.ownsRow 0 40 7 (.slice (some ⟨gr, 0, none⟩) (rs.set n r6).length c) (rs.set n r6).length (pcells (rs.set n r6)) ∧ Upd (fun k => k = gr) W wx
set_option maxRecDepth 100000 in
set_option maxHeartbeats 4000000 in
theorem rsettle_yes (S0 : Nat → Prop) (n : Nat) (r : RP) (h : RAt S w g mt sh wn L T) (hn : n < L.length) (hrp : r.ok S0 w) (hd : ∀ k, S0 k → ¬ S k) (hfit : r.p.fits) : Calls Try.prog 43 #[.pointer (some ⟨g, 0, none⟩), .int .i64 n, .agg #[.int .i64 r.p.cl, .int .u64 r.p.tok, .string r.p.nm, .slice r.A1 r.p.args.length r.c1, .int .i64 r.p.how, .slice r.A2 r.p.rd.length r.c2, .slice r.A3 r.p.wr.length r.c3]] w (RSettlePost S w g mt sh wn L T n r.p) := by
  have hB : Below w.heap.size w (w.alloc (.cells #[.int .i64 r.p.cl, .int .u64 r.p.tok, .string r.p.nm, .slice r.A1 r.p.args.length r.c1, .int .i64 r.p.how, .slice r.A2 r.p.rd.length r.c2, .slice r.A3 r.p.wr.length r.c3] 40)) := (Below.refl _ _).alloc (Nat.le_refl _) _
  have h1 := h.below hB
  have hr1 := hrp.below hB
  have kb1 := Blk.new w 40 #[.int .i64 r.p.cl, .int .u64 r.p.tok, .string r.p.nm, .slice r.A1 r.p.args.length r.c1, .int .i64 r.p.how, .slice r.A2 r.p.rd.length r.c2, .slice r.A3 r.p.wr.length r.c3]
  obtain ⟨hSlt0, hSg0⟩ := h.lt
  obtain ⟨bt, A, c, rs, tv, q, rfl⟩ := id h1
  have hn' : n < rs.length := by simpa [plans] using hn
  have hget : (plans rs)[n]?.getD r.p = rs[n].p := by simp [plans, hn']
  have hin : (0 : Int) ≤ n ∧ (n : Int) < (plans rs).length := by omega
  have hcode : settleCode (plans rs) n r.p = if reqEq rs[n].p r.p = true then 0 else 102 := by unfold settleCode; rw [if_pos hin, Int.toNat_natCast, hget]
  have hLL : settleL (plans rs) n r.p = if reqEq rs[n].p r.p = true then (plans rs).set n (setP rs[n].p r.p) else plans rs := by
    unfold settleL
    rw [Int.toNat_natCast, hget]
    by_cases he : reqEq rs[n].p r.p = true
    · rw [if_pos ⟨hin.1, hin.2, he⟩, if_pos he]
    · rw [if_neg fun h => he h.2.2, if_neg he]
  unfold RSettlePost
  rw [hcode, hLL]
  clear hcode hLL hget hin
  obtain ⟨c0, c1, c2, c3, c4⟩ := q.cells
  have hfn := q.fits _ (List.getElem_mem hn')
  obtain ⟨b, o, rfl, hSr, hb, r0, a0, a1, a2, a3, a4, a5, a6⟩ := q.pls.ok'.at_ hn'
  have i1 : (n : Int) < (rs.length : Int) := by omega
  have i0 : (0 : Int) ≤ (n : Int) := by omega
  have hq := hid q
  have hQ1 := hid h1
  have tt1 : decide ((n : Int) < 0) = false := decide_eq_false (by omega)
  have tt2 : decide ((rs.length : Int) ≤ (n : Int)) = false := decide_eq_false (by omega)
  have tt3 : decide (rs.length ≤ n) = false := decide_eq_false (by omega)
  have hg1 := q.blk.lt
  have hl9 : rs.length ≤ 1000000000 := by have := q.len; have := q.mt1; omega
  clear q h hrp hn h1
  go_enter Try.func43, Try.ntmps43
  go_upto_region 3 with fail
  generalize w.alloc (.cells #[.int .i64 r.p.cl, .int .u64 r.p.tok, .string r.p.nm, .slice r.A1 r.p.args.length r.c1, .int .i64 r.p.how, .slice r.A2 r.p.rd.length r.c2, .slice r.A3 r.p.wr.length r.c3] 40) = W1 at *
  have x0 : W1.cell? ⟨w.heap.size, 0, none⟩ = some (.int .i64 r.p.cl) := kb1.cell 0
  have x1 : W1.cell? ⟨w.heap.size, 1, none⟩ = some (.int .u64 r.p.tok) := kb1.cell 1
  have x2 : W1.cell? ⟨w.heap.size, 2, none⟩ = some (.string r.p.nm) := kb1.cell 2
  have x3 : W1.cell? ⟨w.heap.size, 3, none⟩ = some (.slice r.A1 r.p.args.length r.c1) := kb1.cell 3
  have x4 : W1.cell? ⟨w.heap.size, 4, none⟩ = some (.int .i64 r.p.how) := kb1.cell 4
  have x5 : W1.cell? ⟨w.heap.size, 5, none⟩ = some (.slice r.A2 r.p.rd.length r.c2) := kb1.cell 5
  have x6 : W1.cell? ⟨w.heap.size, 6, none⟩ = some (.slice r.A3 r.p.wr.length r.c3) := kb1.cell 6
  have oe := fun W' (hb : Below W1.heap.size W1 W') => requalG_any _ _ rs[n] r W' (r0.below hb) (hr1.below hb) hfn hfit
  have oe := hid (oe W1.drew (Below.refl _ _).drew)
  go_still_tail 10, (by kernel_rfl)
  change wpList _ _ _ _ _ W1.drew
  go_wp2_with fail
  refine oe.out.mono ?_
  rintro e W2 ⟨rfl, hbd⟩
  have hb2 : Below W1.heap.size W1 W2 := ((Below.refl _ W1).drew).trans hbd
  clear hbd x0 x1 x2 x3 x4 x5 x6 oe
  have hB2 := hB.trans (hb2.mono hB.size)
  cases hre0 : reqEq rs[n].p r.p with
  | false =>
    have hfin : Hid (RGone S w g mt sh wn (plans rs) T W2) := hid ⟨S, hQ1.out.below hb2, fun k hk => .inl hk, Upd.of_below' hB2 _⟩
    go_wp2_with fail
    all_goals
     go_ret
     exact ⟨rfl, hfin.out⟩
  | true =>
    have hre := hid hre0
    clear hre0
    have q2 := hq.out.far (M := Nil) (.of_below' hb2 _) fun _ _ => id
    have kb2 := kb1.below_all hb2
    have hr2 := hr1.below hb2
    have hg2 := q2.blk.lt
    clear c0 c1 c2 c3 c4 a0 a1 a2 a3 a4 a5 a6 hr1 kb1 r0 hQ1 hq
    obtain ⟨c0, c1, c2, c3, c4⟩ := q2.cells
    obtain ⟨b', o', hA', _, hb', _, a0, a1, a2, a3, a4, a5, a6⟩ := q2.pls.ok'.at_ hn'
    simp only [Option.some.injEq, Addr.mk.injEq, and_true] at hA'
    obtain ⟨rfl, rfl⟩ := hA'
    have hrd2 := q2.pls.row.rd
    have hz2 : w.heap.size < W2.heap.size := kb2.lt
    have hq2 := hid q2
    clear q2 hb2
    go_upto_region 6 with fail
    have hB3 : Below W2.heap.size W2 (W2.alloc (.cells #[.int .i64 rs[n].p.cl, .int .u64 rs[n].p.tok, .string rs[n].p.nm, .slice rs[n].A1 rs[n].p.args.length rs[n].c1] 35)) := (Below.refl _ _).alloc (Nat.le_refl _) _
    have kt3 := Blk.new W2 35 #[.int .i64 rs[n].p.cl, .int .u64 rs[n].p.tok, .string rs[n].p.nm, .slice rs[n].A1 rs[n].p.args.length rs[n].c1]
    have hz3 := kt3.lt
    generalize W2.alloc (.cells #[.int .i64 rs[n].p.cl, .int .u64 rs[n].p.tok, .string rs[n].p.nm, .slice rs[n].A1 rs[n].p.args.length rs[n].c1] 35) = W3 at *
    have q3 := hq2.out.far (M := Nil) (.of_below' hB3 _) fun _ _ => id
    have hrd3 := hrd2.below_all hB3
    have kb3 := kb2.below_all hB3
    have hr3 := hr2.below hB3
    have hB03 := hB2.trans (hB3.mono hB2.size)
    have qg := fun j => q3.blk.frozen j
    have g3 : W3.cell? ⟨g, 3, none⟩ = some (.slice (some ⟨b, o, none⟩) rs.length c) := q3.cells.2.2.2.1
    have hg3 := q3.blk.lt
    have hq3 := hid q3
    obtain ⟨ip, hip, hp0, hp1, hp2⟩ := info_parts info_cloneP_any
    clear q3 kb2 hr2 hB3 hB2 hq2 hrd2 c0 c1 c2 c3 c4 a0 a1 a2 a3 a4 a5 a6
    go_wp2_with (
      at_builtin
      refine wpList_copy_rd W3 rfl (.tmp 40) (.tmp 44) 65 rfl 40 ip _ 7 112 Try.underlying65 hip hp0 hp1 hp2 rfl (by omega) W3.heap.size rfl rfl _ _ rs.length c (pcells rs) rfl hrd3 (pcells_one _) (by simp only [maxLen]; omega) (by omega) ?_
      intro A4 c4 W4 hown4 hb4
      have g4 : W4.cell? ⟨g, 3, none⟩ = some (.slice (some ⟨b, o, none⟩) rs.length c) := (hb4.cell (p := ⟨g, 3, none⟩) hg3).trans g3
      have qg4 : W4.frozen? ⟨g, 3, none⟩ = false := (hb4.frozen (p := ⟨g, 3, none⟩) hg3).trans (qg 3))
    clear g4 qg4
    have hgs : g < w.heap.size := hSlt0 g hSg0
    obtain ⟨gr, cur, rfl, hgb4⟩ := own_formS hown4 (by omega)
    obtain ⟨hgr1, hgr2⟩ := hown4.lt gr rfl
    obtain ⟨q5, hu5⟩ := hq3.out.rowed hb4 hown4 rfl (fun r hr => hr) (Nat.le_refl _)
    have hsz5 : (W4.setCell ⟨g, 3, none⟩ (.slice (some ⟨gr, 0, none⟩) rs.length c4)).heap.size = W4.heap.size := by simp
    clear hown4 hgb4 qg hrd3 g3 hq3
    generalize W4.setCell ⟨g, 3, none⟩ (.slice (some ⟨gr, 0, none⟩) rs.length c4) = W5 at *
    have kb5 := kb3.upd hu5 (by omega)
    have kt5 := kt3.upd hu5 (by omega)
    have hr5 : r.ok S0 W5 := hr3.keep fun k hk hl => hu5.block k hl fun e => hd k hk (e ▸ hSg0)
    have hgg : g ≠ gr := by omega
    obtain ⟨gr', cur', hgr', hgb5⟩ := own_formS q5.pls.row.1 (by omega)
    simp only [Option.some.injEq, Addr.mk.injEq, and_true] at hgr'
    subst hgr'
    obtain ⟨b', o', hA', _, hb5', _, a0, a1, a2, a3, a4, a5, a6⟩ := q5.pls.ok'.at_ hn'
    simp only [Option.some.injEq, Addr.mk.injEq, and_true] at hA'
    obtain ⟨rfl, rfl⟩ := hA'
    rw [Nat.zero_add] at a0 a1 a2 a3 a4 a5 a6
    have g5 : W5.cell? ⟨g, 3, none⟩ = some (.slice (some ⟨gr, 0, none⟩) rs.length c4) := q5.cells.2.2.2.1
    have hg5 := q5.blk.lt
    have hrow5 := hid q5.pls.row.1
    have hq5 := hid q5
    have hkb5 := kb5
    have x0 : W5.cell? ⟨w.heap.size, 0, none⟩ = some (.int .i64 r.p.cl) := kb5.cell 0
    have x1 : W5.cell? ⟨w.heap.size, 1, none⟩ = some (.int .u64 r.p.tok) := kb5.cell 1
    have x2 : W5.cell? ⟨w.heap.size, 2, none⟩ = some (.string r.p.nm) := kb5.cell 2
    have x3 : W5.cell? ⟨w.heap.size, 3, none⟩ = some (.slice r.A1 r.p.args.length r.c1) := kb5.cell 3
    have x4 : W5.cell? ⟨w.heap.size, 4, none⟩ = some (.int .i64 r.p.how) := kb5.cell 4
    have x5 : W5.cell? ⟨w.heap.size, 5, none⟩ = some (.slice r.A2 r.p.rd.length r.c2) := kb5.cell 5
    have x6 : W5.cell? ⟨w.heap.size, 6, none⟩ = some (.slice r.A3 r.p.wr.length r.c3) := kb5.cell 6
    clear q5 kb3 kt3 hr3
    go_cut [] (fun wx => SetMid W5 gr n c4 rs r.p wx)
    case first =>
      go_region_law
        (go_simp; go_at_call 15; refine (eplan_any S0 r _ ?_ hfit).mono ?_; (exact ⟨hr5.args, hr5.rd, hr5.wr⟩); rintro e W6 ⟨r6, ⟨hp60, rfl⟩, hown6, hb6⟩
         have hb6' : Below W5.heap.size W5 W6 := ((Below.refl _ W5).drew).trans hb6
         have g6 : W6.cell? ⟨g, 3, none⟩ = some (.slice (some ⟨gr, 0, none⟩) rs.length c4) := (hb6'.cell (p := ⟨g, 3, none⟩) hg5).trans g5
         have e0 := (hb6'.cell (p := ⟨gr, n * 7, none⟩) hb5').trans a0
         have e1 := (hb6'.cell (p := ⟨gr, n * 7 + 1, none⟩) hb5').trans a1
         have e2 := (hb6'.cell (p := ⟨gr, n * 7 + 2, none⟩) hb5').trans a2
         have e3 := (hb6'.cell (p := ⟨gr, n * 7 + 3, none⟩) hb5').trans a3
         have e4 := (hb6'.cell (p := ⟨gr, n * 7 + 4, none⟩) hb5').trans a4
         have e5 := (hb6'.cell (p := ⟨gr, n * 7 + 5, none⟩) hb5').trans a5
         have e6 := (hb6'.cell (p := ⟨gr, n * 7 + 6, none⟩) hb5').trans a6
         have qr := fun j => (hgb5.below_all hb6').frozen j
         have hp6 := hid hp60
         clear hp60)
      all_goals
        go_wp2_with fail
        go_meet
        refine ⟨r6, hp6.out, ?_, ?_, ?_⟩
        · refine RP.own.upd (M := fun k => k = gr) (w := W6) hown6 ?_ fun k h1 _ h3 => by have : W5.heap.size ≤ k := h1; omega
          iterate 7 (refine Upd.setCell ?_ (by intro _; rfl) _)
          exact Upd.refl _ _
        · exact row_full (own_below hrow5.out hb6') hn' r6
        · iterate 7 (refine Upd.setCell ?_ (by intro _; rfl) _)
          exact Upd.of_below' hb6' _
    case rest =>
      obtain ⟨r6, hp60, hown6, hrow6, hu6⟩ := hcut
      have hp6 := hid hp60
      clear hp60
      have kt6 := kt5.upd hu6 (by omega)
      have g6 : wc.cell? ⟨g, 3, none⟩ = some (.slice (some ⟨gr, 0, none⟩) rs.length c4) := hu6.cell g5 hgg
      have hlenS : (rs.set n r6).length = rs.length := List.length_set
      have hn6 : n < (rs.set n r6).length := by omega
      have y0 : wc.cell? ⟨gr, n * 7, none⟩ = some (.int .i64 r6.p.cl) := by
        rw [hrow6.cellAt _ (by omega)]
        exact (pcells_at _ n 0 hn6 (by omega)).trans (by simp; rfl)
      have y1 : wc.cell? ⟨gr, n * 7 + 1, none⟩ = some (.int .u64 r6.p.tok) := by
        rw [hrow6.cellAt _ (by omega)]
        exact (pcells_at _ n 1 hn6 (by omega)).trans (by simp; rfl)
      have y2 : wc.cell? ⟨gr, n * 7 + 2, none⟩ = some (.string r6.p.nm) := by
        rw [hrow6.cellAt _ (by omega)]
        exact (pcells_at _ n 2 hn6 (by omega)).trans (by simp; rfl)
      have y3 : wc.cell? ⟨gr, n * 7 + 3, none⟩ = some (.slice r6.A1 r6.p.args.length r6.c1) := by
        rw [hrow6.cellAt _ (by omega)]
        exact (pcells_at _ n 3 hn6 (by omega)).trans (by simp; rfl)
      have t0 : wc.cell? ⟨W2.heap.size, 0, none⟩ = some (.int .i64 rs[n].p.cl) := kt6.cell 0
      have t1 : wc.cell? ⟨W2.heap.size, 1, none⟩ = some (.int .u64 rs[n].p.tok) := kt6.cell 1
      have t2 : wc.cell? ⟨W2.heap.size, 2, none⟩ = some (.string rs[n].p.nm) := kt6.cell 2
      have t3 : wc.cell? ⟨W2.heap.size, 3, none⟩ = some (.slice rs[n].A1 rs[n].p.args.length rs[n].c1) := kt6.cell 3
      have qr := fun j => hrow6.frozenAt j
      have hrow80 := row_req hrow6 hn6 rs[n]
      simp only [List.set_set, List.getElem_set_self, RP.req_sets] at hrow80
      have hrow8 := hid hrow80
      clear hrow80 hrow6
      have hlen6 := hid hlenS
      go_upto_region 8 with fail
      go_region
      all_goals (go_wp2_with fail)
      all_goals
        go_ret
        have hu8 : Upd (fun k => k = gr) W5 (((((wc.setCell ⟨gr, n * 7, none⟩ (.int .i64 rs[n].p.cl)).setCell ⟨gr, n * 7 + 1, none⟩ (.int .u64 rs[n].p.tok)).setCell ⟨gr, n * 7 + 2, none⟩ (.string rs[n].p.nm)).setCell ⟨gr, n * 7 + 3, none⟩ (.slice rs[n].A1 rs[n].p.args.length rs[n].c1))) := by
          iterate 4 (refine Upd.setCell ?_ (by intro _; rfl) _)
          exact hu6
        have ho8 : r6.own W5.heap.size (((((wc.setCell ⟨gr, n * 7, none⟩ (.int .i64 rs[n].p.cl)).setCell ⟨gr, n * 7 + 1, none⟩ (.int .u64 rs[n].p.tok)).setCell ⟨gr, n * 7 + 2, none⟩ (.string rs[n].p.nm)).setCell ⟨gr, n * 7 + 3, none⟩ (.slice rs[n].A1 rs[n].p.args.length rs[n].c1))) := by
          refine RP.own.upd (M := fun k => k = gr) (w := wc) hown6 ?_ fun k h1 _ h3 => by omega
          iterate 4 (refine Upd.setCell ?_ (by intro _; rfl) _)
          exact Upd.refl _ _
        have hq8 := hq5.out.settled hgb5 hn' r6 hu8 ho8 (fun k hk => hq5.out.lt k hk) (by rw [hp6.out]; exact hfit) hrow8.out
        refine ⟨rfl, _, RAt.below ⟨_, _, _, _, _, hq8, ?_⟩ (Below.refl _ _).drew, ?_, ?_⟩
        · rw [plans_set, RP.sets_p, hp6.out]
        · have hs3 := hB03.size
          have hs5 := hu5.size
          rintro k ((h | h) | h)
          · exact .inl h
          · exact .inr (by omega)
          · exact .inr (by omega)
        · have hs3 := hB03.size
          exact (((Upd.of_below' hB03 S).trans hu5 fun k _ h => h ▸ hSg0).trans hu8 fun k hk h => by omega).drew
theorem rsettle_any (S0 : Nat → Prop) (i : Int) (r : RP) (h : RAt S w g mt sh wn L T) (hrp : r.ok S0 w) (hd : ∀ k, S0 k → ¬ S k) (hfit : r.p.fits) : Calls Try.prog 43 #[.pointer (some ⟨g, 0, none⟩), .int .i64 i, .agg #[.int .i64 r.p.cl, .int .u64 r.p.tok, .string r.p.nm, .slice r.A1 r.p.args.length r.c1, .int .i64 r.p.how, .slice r.A2 r.p.rd.length r.c2, .slice r.A3 r.p.wr.length r.c3]] w (RSettlePost S w g mt sh wn L T i r.p) := by
  by_cases hi : 0 ≤ i ∧ i < (L.length : Int)
  · obtain ⟨n, rfl⟩ : ∃ n : Nat, i = (n : Int) := ⟨i.toNat, by omega⟩
    exact rsettle_yes S0 n r h (by omega) hrp hd hfit
  · exact rsettle_no i r h (by omega)
end

end Go.Proofs.Ytppcjaljhahdnaa

/- The document's queue: Submit. -/
import Derived.Test.YtppcjaljhahdnaaQRefSettle
import Derived.Deep.RegionLaw
import Derived.Deep.DeepCutAuto
namespace Go.Proofs.Ytppcjaljhahdnaa
open Go.RowKit
set_option linter.unusedVariables false
set_option linter.unusedSimpArgs false

section
variable {S : Nat → Prop} {w w' : World} {g bt : Nat} {mt sh wn : Int} {A : Option Addr} {c : Nat} {rs : List RP} {tv : Nat → Value} {T : Int → List Int}
/-- the row of plans and the queue's own cells are new -/
theorem RIn.push {M : Nat → Prop} {S' : Nat → Prop} {A' : Option Addr} {c' : Nat} {r : RP} (q : RIn S w g bt mt sh wn A c rs tv T) (hu : Upd M w w') (hM : ∀ k, M k → k = g ∨ ∃ cs, Blk w k 40 cs)
    (hS : ∀ k, S k → S' k) (hl : ∀ k, S' k → k < w'.heap.size)
    (hb : Blk w' g 76 #[.int .i64 mt, .int .i64 sh, .int .i64 wn, .slice A' (rs.length + 1) c', .slice (some ⟨bt, 0, none⟩) 64 64])
    (hrow : OwnS S' w' 40 7 (.slice A' (rs.length + 1) c') (rs.length + 1) (pcells rs ++ r.cells)) (hr : r.ownS S' w') (hf : r.p.fits) (hlen : (rs.length : Int) + 1 ≤ mt) :
    RIn S' w' g bt mt sh wn A' c' (rs ++ [r]) tv T := by
  have hk : ∀ (e : TypeId) b cs, e ≠ 40 → e ≠ 76 → Blk w b e cs → w'.heap[b]? = w.heap[b]? := fun e b cs h1 h2 hb' => hu.block b hb'.lt fun h => by
    rcases hM b h with rfl | ⟨cs', hb2⟩
    · exact hb'.ne_ q.blk h2 rfl
    · exact hb'.ne_ hb2 h1 rfl
  have hl1 : (rs ++ [r]).length = rs.length + 1 := by simp
  have hpc : pcells (rs ++ [r]) = pcells rs ++ r.cells := by rw [pcells_app]; simp [pcells]
  obtain ⟨cs, hbt, hc⟩ := q.tks
  refine ⟨by rw [hl1]; exact hb, ⟨cs, (hk _ _ _ (by decide) (by decide) hbt).trans hbt, hc⟩, ⟨by rw [hl1, hpc]; exact hrow, fun x hx => ?_⟩, fun k h => ⟨(q.tok k h).1.keep fun b cs _ hb' => hk _ b cs (by decide) (by decide) hb', fun b hb' => hS b ((q.tok k h).2 b hb')⟩, q.out, ⟨hS _ q.inS.1, hS _ q.inS.2⟩, hl, q.mt1, q.wn1, by rw [hl1]; simpa using hlen, q.tlen, fun x hx => ?_⟩
  · rcases List.mem_append.1 hx with hx | hx
    · exact ⟨((q.pls.ok x hx).args.keepT fun b cs hb' => hk _ b cs (by decide) (by decide) hb').more' hS, ((q.pls.ok x hx).rd.keepT fun b cs hb' => hk _ b cs (by decide) (by decide) hb').more' hS, ((q.pls.ok x hx).wr.keepT fun b cs hb' => hk _ b cs (by decide) (by decide) hb').more' hS⟩
    · obtain rfl := List.mem_singleton.1 hx
      exact hr
  · rcases List.mem_append.1 hx with hx | hx
    · exact q.fits x hx
    · obtain rfl := List.mem_singleton.1 hx
      exact hf
/-- a client's tokens are new -/
theorem RIn.tokens {w1 : World} {k0 n : Nat} {A' : Option Addr} {c' : Nat} {ys : List Int} {T' : Int → List Int} (q : RIn S w g bt mt sh wn A c rs tv T) (hk0 : k0 < 64) (hb : Below w.heap.size w w1) (hrow : w1.ownsRow w.heap.size 32 1 (.slice A' n c') n (ys.map (.int .u64))) (hn : n = ys.length)
    (hT : ∀ x, T' x = if x = (k0 : Int) then ys else T x) (hy : (ys.length : Int) ≤ wn) :
    RIn (fun k => S k ∨ w.heap.size ≤ k ∧ k < w1.heap.size) (w1.setCell ⟨bt, k0, none⟩ (.slice A' n c')) g bt mt sh wn A c rs (fun k => if k = k0 then .slice A' n c' else tv k) T' ∧ Upd (fun k => k = bt) w (w1.setCell ⟨bt, k0, none⟩ (.slice A' n c')) := by
  have hbtl := q.lt _ q.inS.2
  have hu : Upd (fun k => k = bt) w (w1.setCell ⟨bt, k0, none⟩ (.slice A' n c')) := (Upd.of_below' hb (fun k => k = bt)).setCell (p := ⟨bt, k0, none⟩) (fun _ => rfl) _
  have hrow2 := ownsRow_setCell_below hrow (a := ⟨bt, k0, none⟩) hbtl (.slice A' n c')
  obtain ⟨cs, hbt, hc⟩ := q.tks
  have hbt2 := (hbt.below_all hb).set_ k0 (.slice A' n c')
  have hsz : (w1.setCell ⟨bt, k0, none⟩ (.slice A' n c')).heap.size = w1.heap.size := by simp
  generalize w1.setCell ⟨bt, k0, none⟩ (.slice A' n c') = w' at *
  have hS' : ∀ k, S k → S k ∨ w.heap.size ≤ k ∧ k < w1.heap.size := fun k h => .inl h
  have hk : ∀ (e : TypeId) b cs', e ≠ 61 → Blk w b e cs' → w'.heap[b]? = w.heap[b]? := fun e b cs' he hb' => hu.block b hb'.lt fun h => hb'.ne_ hbt he h
  refine ⟨⟨(hk _ _ _ (by decide) q.blk).trans q.blk, ⟨_, hbt2, fun k hk64 => ?_⟩, ⟨(q.pls.row.keepT fun b cs hb' => hk _ b cs (by decide) hb').more' hS', fun x hx => ⟨((q.pls.ok x hx).args.keepT fun b cs hb' => hk _ b cs (by decide) hb').more' hS', ((q.pls.ok x hx).rd.keepT fun b cs hb' => hk _ b cs (by decide) hb').more' hS', ((q.pls.ok x hx).wr.keepT fun b cs hb' => hk _ b cs (by decide) hb').more' hS'⟩⟩, fun k hk64 => ?_, fun x hx => ?_, ⟨.inl q.inS.1, .inl q.inS.2⟩, fun k h => ?_, q.mt1, q.wn1, q.len, fun x => ?_, q.fits⟩, hu⟩
  · have hk1 : k0 < cs.size := by
      have := hc k0 hk0
      exact (Array.getElem?_eq_some_iff.1 this).1
    by_cases e : k = k0
    · subst e; simp [hk1]
    · rw [if_neg e, Array.getElem?_setIfInBounds_ne (fun h => e h.symm)]; exact hc k hk64
  · by_cases e : k = k0
    · subst e
      rw [if_pos rfl, hT, if_pos rfl]
      exact ⟨TokAt.of_own hn hrow2, fun b hb' => .inr (by have := hrow.lt b hb'; exact this)⟩
    · rw [if_neg e, hT, if_neg (by omega)]
      exact ⟨(q.tok k hk64).1.keep fun b cs _ hb' => hk _ b cs (by decide) hb', fun b hb' => .inl ((q.tok k hk64).2 b hb')⟩
  · rw [hT]
    by_cases e : x = (k0 : Int)
    · subst e
      unfold subBad at hx
      have := of_decide_eq_true hx
      omega
    · rw [if_neg e]; exact q.out x hx
  · rcases h with h | h
    · have := q.lt k h; have := hb.size; omega
    · omega
  · rw [hT]
    split
    · exact hy
    · exact q.tlen x
end
/-- behind the append of the plan -/
def SubMidR (S : Nat → Prop) (w : World) (g bt : Nat) (mt sh wn : Int) (rs : List RP) (tv : Nat → Value) (T : Int → List Int) (r : RP) (wx : World) : Prop :=
  ∃ S' A' c' r', RIn S' wx g bt mt sh wn A' c' (rs ++ [r']) tv T ∧ r'.p = r.p ∧ (∀ k, S' k → S k ∨ w.heap.size ≤ k) ∧ (∀ k, S k → S' k) ∧ Upd S w wx ∧ Blk wx w.heap.size 40 #[.int .i64 r.p.cl, .int .u64 r.p.tok, .string r.p.nm, .slice r.A1 r.p.args.length r.c1, .int .i64 r.p.how, .slice r.A2 r.p.rd.length r.c2, .slice r.A3 r.p.wr.length r.c3]
/-- a list of tokens of one's own -/
def TokMid (W : World) (ys : List Int) (v : Value) (wx : World) : Prop :=
  ∃ A' c', v = .slice A' ys.length c' ∧ wx.ownsRow W.heap.size 32 1 (.slice A' ys.length c') ys.length (ys.map (.int .u64)) ∧ Below W.heap.size W wx
def lenOf (v : Value) : Nat := match v with
  | .slice _ n _ => n
  | _ => 0
/-- what the document's Submit leaves -/
def RSubPost (S : Nat → Prop) (w : World) (g : Nat) (mt sh wn : Int) (L : List Pl) (T : Int → List Int) (p : Pl) (e : Ending) (w' : World) : Prop :=
  e = .returned (.int .i64 (subCode mt sh L T p)) ∧ RGone S w g mt sh wn (subL mt sh L T p) (subT mt sh wn L T p) w'
section
variable {S : Nat → Prop} {w : World} {g : Nat} {mt sh wn : Int} {L : List Pl} {T : Int → List Int}
set_option maxHeartbeats 1000000 in
theorem rsubmit_bad (r : RP) (h : RAt S w g mt sh wn L T) (hb : subBad r.p.cl = true) : Calls Try.prog 39 #[.pointer (some ⟨g, 0, none⟩), .agg #[.int .i64 r.p.cl, .int .u64 r.p.tok, .string r.p.nm, .slice r.A1 r.p.args.length r.c1, .int .i64 r.p.how, .slice r.A2 r.p.rd.length r.c2, .slice r.A3 r.p.wr.length r.c3]] w (RSubPost S w g mt sh wn L T r.p) := by
  have hc : subCode mt sh L T r.p = 2 := by unfold subCode; rw [if_pos hb]
  unfold RSubPost subL subT
  rw [hc]
  clear hc
  have hB : Below w.heap.size w (w.alloc (.cells #[.int .i64 r.p.cl, .int .u64 r.p.tok, .string r.p.nm, .slice r.A1 r.p.args.length r.c1, .int .i64 r.p.how, .slice r.A2 r.p.rd.length r.c2, .slice r.A3 r.p.wr.length r.c3] 40)) := (Below.refl _ _).alloc (Nat.le_refl _) _
  have hfin : Hid (RGone S w g mt sh wn L T (w.alloc (.cells #[.int .i64 r.p.cl, .int .u64 r.p.tok, .string r.p.nm, .slice r.A1 r.p.args.length r.c1, .int .i64 r.p.how, .slice r.A2 r.p.rd.length r.c2, .slice r.A3 r.p.wr.length r.c3] 40))) := hid ⟨S, h.below hB, fun k hk => .inl hk, Upd.of_below' hB _⟩
  have hb := of_decide_eq_true hb
  clear h
  by_cases h1 : r.p.cl < 0
  · clear hb
    go_enter Try.func39, Try.ntmps39
    go_wp2_with fail
    go_ret
    exact ⟨rfl, hfin.out⟩
  · have h2 : 64 ≤ r.p.cl := by omega
    clear hb
    go_enter Try.func39, Try.ntmps39
    go_wp2_with fail
    go_ret
    exact ⟨rfl, hfin.out⟩
set_option maxRecDepth 100000 in
set_option maxHeartbeats 4000000 in
theorem rsubmit_ok (S0 : Nat → Prop) (r : RP) (h : RAt S w g mt sh wn L T) (hb : subBad r.p.cl = false) (hrp : r.ok S0 w) (hfit : r.p.fits) (hbd : (cnt r.p.cl L : Int) ≤ sh) : Calls Try.prog 39 #[.pointer (some ⟨g, 0, none⟩), .agg #[.int .i64 r.p.cl, .int .u64 r.p.tok, .string r.p.nm, .slice r.A1 r.p.args.length r.c1, .int .i64 r.p.how, .slice r.A2 r.p.rd.length r.c2, .slice r.A3 r.p.wr.length r.c3]] w (RSubPost S w g mt sh wn L T r.p) := by
  have hB : Below w.heap.size w (w.alloc (.cells #[.int .i64 r.p.cl, .int .u64 r.p.tok, .string r.p.nm, .slice r.A1 r.p.args.length r.c1, .int .i64 r.p.how, .slice r.A2 r.p.rd.length r.c2, .slice r.A3 r.p.wr.length r.c3] 40)) := (Below.refl _ _).alloc (Nat.le_refl _) _
  have h1 := h.below hB
  have hr1 := hrp.below hB
  have kb1 := Blk.new w 40 #[.int .i64 r.p.cl, .int .u64 r.p.tok, .string r.p.nm, .slice r.A1 r.p.args.length r.c1, .int .i64 r.p.how, .slice r.A2 r.p.rd.length r.c2, .slice r.A3 r.p.wr.length r.c3]
  obtain ⟨hSlt0, hSg0⟩ := h.lt
  obtain ⟨bt, A, c, rs, tv, q, rfl⟩ := id h1
  have hx : 0 ≤ r.p.cl ∧ r.p.cl < 64 := by unfold subBad at hb; simp at hb; omega
  obtain ⟨k0, hk00⟩ : ∃ k : Nat, r.p.cl = (k : Int) := ⟨r.p.cl.toNat, by omega⟩
  have hk0 := hid hk00
  have hk64 : k0 < 64 := by omega
  have hb0 := hid hb
  have t0 := q.tcell hk64
  have ht := (q.tok k0 hk64).1
  have hn := q.tlen k0
  have hw := q.wn1
  obtain ⟨xs, hxs0⟩ : ∃ xs, xs = T (k0 : Int) := ⟨_, rfl⟩
  rw [← hxs0] at ht hn
  have hxs := hid hxs0
  obtain ⟨A', c', hv0, hc1, hc2⟩ := ht.form
  rw [hv0] at ht t0
  have hv := hid hv0
  have hrd := ht.rd
  obtain ⟨c0, c1, c2, c3, c4⟩ := q.cells
  have hl1 := q.len
  have hl2 := q.mt1
  have hlenP0 : (plans rs).length = rs.length := by simp [plans]
  have hbd0 := hbd
  rw [hk00] at hbd
  have hcle := cnt_le (k0 : Int) (plans rs)
  rw [hlenP0] at hcle
  have hSbt := q.inS.2
  have hbtl := q.lt _ q.inS.2
  have hgl1 := q.blk.lt
  have hq := hid q
  have hQ1 := hid h1
  have hlenP := hid hlenP0
  clear hlenP0
  have d0 : decide ((k0 : Int) < 0) = false := by simp
  have d1 : decide (64 ≤ (k0 : Int)) = false := by simp; omega
  have d2 : decide (64 ≤ k0) = false := by simp; omega
  have i1 : (k0 : Int) < 64 := by omega
  have hkb := hid kb1
  have x0 : (w.alloc (.cells #[.int .i64 r.p.cl, .int .u64 r.p.tok, .string r.p.nm, .slice r.A1 r.p.args.length r.c1, .int .i64 r.p.how, .slice r.A2 r.p.rd.length r.c2, .slice r.A3 r.p.wr.length r.c3] 40)).cell? ⟨w.heap.size, 0, none⟩ = some (.int .i64 (k0 : Int)) := by rw [← hk00]; exact kb1.cell 0
  have x1 : (w.alloc (.cells #[.int .i64 r.p.cl, .int .u64 r.p.tok, .string r.p.nm, .slice r.A1 r.p.args.length r.c1, .int .i64 r.p.how, .slice r.A2 r.p.rd.length r.c2, .slice r.A3 r.p.wr.length r.c3] 40)).cell? ⟨w.heap.size, 1, none⟩ = some (.int .u64 r.p.tok) := kb1.cell 1
  clear q h hrp h1 hb hk00 hx hxs0 hv0 ht kb1
  go_enter Try.func39, Try.ntmps39
  go_upto_region 1 with fail
  generalize w.alloc (.cells #[.int .i64 r.p.cl, .int .u64 r.p.tok, .string r.p.nm, .slice r.A1 r.p.args.length r.c1, .int .i64 r.p.how, .slice r.A2 r.p.rd.length r.c2, .slice r.A3 r.p.wr.length r.c3] 40) = W1 at *
  go_wp2_with fail
  go_loopw [6] (fun i wr => ∃ k n : Nat, k ≤ xs.length ∧ i = .int .i64 k ∧ wr = W1.drewN n ∧ ∀ j (h : j < xs.length), j < k → xs[j] ≠ r.p.tok) (fun i _ => xs.length - (intOf i).toNat)
  case atStart => exact ⟨0, 0, Nat.zero_le _, rfl, rfl, fun j _ hj => absurd hj (by omega)⟩
  case round =>
    obtain ⟨k, n, hk, rfl, rfl, hne00⟩ := hrel
    have hne0 := hid hne00
    clear hne00
    by_cases hlt : k < xs.length
    · obtain ⟨b1, o1, rfl, _, hb1, hcc⟩ := hrd.at_ hlt
      have e1 := hcc k (.int .u64 xs[k]) (by simp [hlt])
      have j1 : (k : Int) < (xs.length : Int) := by omega
      clear hcc hrd
      by_cases hx : xs[k] = r.p.tok
      · have tt : (xs[k] == r.p.tok) = true := by simpa using hx
        have hmem : r.p.tok ∈ xs := hx ▸ List.getElem_mem hlt
        have hcd : Hid (subCode mt sh (plans rs) T r.p = 100) := hid (by unfold subCode; rw [if_neg (by rw [hb0.out]; simp), hk0.out, ← hxs.out, if_pos hmem])
        clear hx hmem
        go_wp2_with fail
        go_quiet (fail)
        have hbz : Below W1.heap.size W1 ((W1.drewN n).drewN nq) := below_drewN (below_drewN (Below.refl _ _) _) _
        have hfin : Hid (RGone S w g mt sh wn (plans rs) T ((W1.drewN n).drewN nq)) := hid ⟨S, hQ1.out.below hbz, fun k hk => .inl hk, Upd.of_below' (hB.trans (hbz.mono hB.size)) _⟩
        clear hbz
        go_wp2_with fail
        go_ret
        unfold RSubPost subL subT
        rw [hcd.out]
        exact ⟨rfl, hfin.out⟩
      · have tt : (xs[k] == r.p.tok) = false := by simpa using hx
        have hx := hid hx
        go_wp2_with fail
        go_quiet (fail)
        go_wp2_with fail
        go_roundw
        case rel =>
          refine ⟨k + 1, n + nq, by omega, by go_num, rfl, fun j h hj => ?_⟩
          rcases Nat.lt_or_ge j k with e | e
          · exact hne0.out j h e
          · obtain rfl : j = k := by omega
            exact hx.out
        case measure => simp [intOf]; omega
    · obtain rfl : k = xs.length := by omega
      have hnm : Hid (¬ r.p.tok ∈ xs) := hid fun hm => by
        obtain ⟨j, hj, e⟩ := List.getElem_of_mem hm
        exact hne0.out j hj hj e
      clear hne0
      by_cases hfull : (rs.length : Int) = mt
      · have tt : decide (mt ≤ (rs.length : Int)) = true := decide_eq_true (by omega)
        have hcd : Hid (subCode mt sh (plans rs) T r.p = 5) := hid (by unfold subCode; rw [if_neg (by rw [hb0.out]; simp), hk0.out, ← hxs.out, if_neg hnm.out, if_pos (by rw [hlenP.out]; exact hfull)])
        clear hfull
        go_wp2_with fail
        go_quiet (fail)
        have hbz : Below W1.heap.size W1 ((W1.drewN n).drewN nq) := below_drewN (below_drewN (Below.refl _ _) _) _
        have hfin : Hid (RGone S w g mt sh wn (plans rs) T ((W1.drewN n).drewN nq)) := hid ⟨S, hQ1.out.below hbz, fun k hk => .inl hk, Upd.of_below' (hB.trans (hbz.mono hB.size)) _⟩
        clear hbz
        go_wp2_with fail
        go_ret
        unfold RSubPost subL subT
        rw [hcd.out]
        exact ⟨rfl, hfin.out⟩
      · have tt : decide (mt ≤ (rs.length : Int)) = false := decide_eq_false (by omega)
        have hroom : (rs.length : Int) + 1 ≤ mt := by omega
        have hful := hid hfull
        clear hfull
        go_wp2_with fail
        go_quiet (fail)
        have hbz : Below W1.heap.size W1 ((W1.drewN n).drewN nq) := below_drewN (below_drewN (Below.refl _ _) _) _
        generalize (W1.drewN n).drewN nq = W2 at *
        have hq2 := hid (hq.out.far (M := Nil) (.of_below' hbz _) fun _ _ => id)
        have hQ2 := hQ1.out.below hbz
        have hof0 := fun (m : Nat) => rof_any (k0 : Int) (hQ2.below (w' := W2.drewN m) (below_drewN (Below.refl _ _) _))
        have hof := hid hof0
        clear hof0 hrd c0 c1 c2 c3 c4 t0 x0 x1
        obtain ⟨c0, c1, c2, c3, c4⟩ := hq2.out.cells
        have hQ2 := hid hQ2
        by_cases hshr : (cnt (k0 : Int) (plans rs) : Int) = sh
        · have ts : decide (sh ≤ (cnt (k0 : Int) (plans rs) : Int)) = true := decide_eq_true (by omega)
          have hcd : Hid (subCode mt sh (plans rs) T r.p = 101) := hid (by unfold subCode; rw [if_neg (by rw [hb0.out]; simp), hk0.out, ← hxs.out, if_neg hnm.out, if_neg (by rw [hlenP.out]; exact hful.out), if_pos hshr])
          clear hshr
          go_wp2_with fail
          go_quiet ((go_at_call 47; exact Calls.quiet_of_same (hof.out _)))
          have hbz2 : Below W1.heap.size W1 (W2.drewN nq) := below_drewN hbz _
          have hfin : Hid (RGone S w g mt sh wn (plans rs) T (W2.drewN nq)) := hid ⟨S, hQ1.out.below hbz2, fun k hk => .inl hk, Upd.of_below' (hB.trans (hbz2.mono hB.size)) _⟩
          clear hbz hbz2
          go_wp2_with fail
          go_ret
          unfold RSubPost subL subT
          rw [hcd.out]
          exact ⟨rfl, hfin.out⟩
        · have ts : decide (sh ≤ (cnt (k0 : Int) (plans rs) : Int)) = false := decide_eq_false (by omega)
          have hcd : Hid (subCode mt sh (plans rs) T r.p = 0) := hid (by unfold subCode; rw [if_neg (by rw [hb0.out]; simp), hk0.out, ← hxs.out, if_neg hnm.out, if_neg (by rw [hlenP.out]; exact hful.out), if_neg hshr])
          clear hshr
          go_wp2_with fail
          go_quiet ((go_at_call 47; exact Calls.quiet_of_same (hof.out _)))
          have hbz2 : Below W1.heap.size W1 (W2.drewN nq) := below_drewN hbz _
          clear hq2 hQ2 hof hbz c0 c1 c2 c3 c4
          generalize W2.drewN nq = W2 at *
          have q2 := hq.out.far (M := Nil) (.of_below' hbz2 _) fun _ _ => id
          have hB2 : Below w.heap.size w W2 := hB.trans (hbz2.mono hB.size)
          have kb2 := hkb.out.below_all hbz2
          have hr2 := hr1.below hbz2
          obtain ⟨ip, hip, hp0, hp1, hp2⟩ := info_parts info_cloneP_any
          obtain ⟨c0, c1, c2, c3, c4⟩ := q2.cells
          have e0 : W2.cell? ⟨w.heap.size, 0, none⟩ = some (.int .i64 r.p.cl) := kb2.cell 0
          have e1 : W2.cell? ⟨w.heap.size, 1, none⟩ = some (.int .u64 r.p.tok) := kb2.cell 1
          have e2 : W2.cell? ⟨w.heap.size, 2, none⟩ = some (.string r.p.nm) := kb2.cell 2
          have e3 : W2.cell? ⟨w.heap.size, 3, none⟩ = some (.slice r.A1 r.p.args.length r.c1) := kb2.cell 3
          have e4 : W2.cell? ⟨w.heap.size, 4, none⟩ = some (.int .i64 r.p.how) := kb2.cell 4
          have e5 : W2.cell? ⟨w.heap.size, 5, none⟩ = some (.slice r.A2 r.p.rd.length r.c2) := kb2.cell 5
          have e6 : W2.cell? ⟨w.heap.size, 6, none⟩ = some (.slice r.A3 r.p.wr.length r.c3) := kb2.cell 6
          have hgl := q2.blk.lt
          have hbl := kb2.lt
          have qf := fun j => q2.blk.frozen j
          have hrow0 := q2.pls.row.1
          have hne0 : ∀ k, (Value.slice A rs.length c).ownBlock = some k → k ≠ g ∧ k ≠ w.heap.size ∧ S k ∧ k < W2.heap.size := fun k hk => by
            have hSk := q2.pls.row.2 k hk
            have hlt := hSlt0 k hSk
            refine ⟨?_, by omega, hSk, q2.lt k hSk⟩
            rcases q2.pls.row.1.2 with ⟨h0, _⟩ | ⟨gr, cap, cur, hvv, _, hbb, _⟩
            · rw [h0] at hk; simp [Value.ownBlock] at hk
            · rw [hvv] at hk
              have : gr = k := by simpa [Value.ownBlock] using hk
              subst this
              exact (q2.blk.ne_ (t' := 40) (cs' := cur) hbb (by decide)).symm
          have hne := hid hne0
          have hq2 := hid q2
          have hkb2 := hid kb2
          have hl9 : rs.length ≤ 1024 := by omega
          clear q2 kb2 hr1 hne0 hbz2 hkb hq
          go_upto_region 13 with fail
          go_cut [] (fun wx => SubMidR S w g bt mt sh wn rs tv T r wx)
          case first =>
            go_region_law
              (first
                | (go_simp; go_at_call 15; refine (eplan_any S0 r _ ?_ hfit).mono ?_; (exact ⟨hr2.args, hr2.rd, hr2.wr⟩); rintro e w1 ⟨r', ⟨hpe0, rfl⟩, hown1, hb1⟩; have hpe := hid hpe0; clear hpe0; have hq1 : Below W2.heap.size W2 w1 := ((Below.refl _ W2).drew).trans hb1; have hk1 := (hq1.cell (p := ⟨g, 3, none⟩) hgl).trans c3; have hz1 : g < w1.heap.size := Nat.lt_of_lt_of_le hgl hq1.size)
                | (refine step_append_rd _ rfl (.tmp 65) (.tmp 68) 65 rfl 0 40 ip _ 7 112 Try.underlying65 hip hp0 hp1 hp2 rfl (by omega) (.slice A rs.length c) rs.length (pcells rs) rfl ?_ (fun b => b = w1.heap.size) (some ⟨w1.heap.size, 0, none⟩) 1 1 r'.cells rfl ?_ ?_ ?_ ?_ ?_ (rs.length + 1) rfl (pcells rs ++ r'.cells) rfl ?_
                   go_must (
                     · exact (own_below (w := W2.drew) hrow0 hb1).alloc _
                     · exact Rd.new w1 40 7 1 r'.cells.toArray _ rfl rfl
                     · exact cells_one r'
                     · simp only [maxLen]; omega
                     · omega
                     · exact Nat.zero_le _
                     intro A2 c2' w2 hown2 hg2 hat2
                     have hu2 : Upd (fun k => (Value.slice A rs.length c).ownBlock = some k) W2 w2 := ((Upd.of_below' hq1 _).alloc _).grown hg2 fun k hk _ => hk
                     have hk2 : w2.cell? ⟨g, 3, none⟩ = some (.slice A rs.length c) := hu2.cell c3 fun hm => (hne.out g hm).1 rfl
                     have hb2' := hq2.out.blk.upd hu2 fun hm => (hne.out g hm).1 rfl
                     have hf2' := fun j => hb2'.frozen j
                     have hb2 := hid hb2'
                     clear hb2')))
            all_goals
              go_wp2_with fail
              go_meet
              have q2 := hq2.out
              have hz1' := hq1.size
              have hzw := hg2.size
              simp at hzw
              have hzs := hB2.size
              have hg1 : Upd (fun k => (Value.slice A rs.length c).ownBlock = some k ∨ k = g) (w1.alloc (.cells #[.int .i64 r'.p.cl, .int .u64 r'.p.tok, .string r'.p.nm, .slice r'.A1 r'.p.args.length r'.c1, .int .i64 r'.p.how, .slice r'.A2 r'.p.rd.length r'.c2, .slice r'.A3 r'.p.wr.length r'.c3] 40)) (w2.setCell ⟨g, 3, none⟩ (.slice A2 (rs.length + 1) c2')) := ((Upd.refl _ _).grown hg2 fun k hk _ => .inl hk).setCell (p := ⟨g, 3, none⟩) (fun _ => .inr rfl) _
              have hu3 : Upd (fun k => (Value.slice A rs.length c).ownBlock = some k ∨ k = g) W2 (w2.setCell ⟨g, 3, none⟩ (.slice A2 (rs.length + 1) c2')) := (hu2.mono fun k _ h => .inl h).setCell (p := ⟨g, 3, none⟩) (fun _ => .inr rfl) _
              have hSg := q2.inS.1
              refine ⟨fun k => S k ∨ w.heap.size ≤ k ∧ k < w2.heap.size, A2, c2', r', q2.push hu3 ?_ (fun k h => .inl h) ?_ (hb2.out.set_ 3 _) ?_ ?_ (by rw [hpe.out]; exact hfit) hroom, hpe.out, ?_, fun k h => .inl h, ?_, ?_⟩
              · rintro k (h | h)
                · refine .inr ?_
                  rcases q2.pls.row.1.2 with ⟨h0, _⟩ | ⟨gr, cap, cur, hvv, _, hbb, _⟩
                  · rw [h0] at h; simp [Value.ownBlock] at h
                  · rw [hvv] at h
                    have : gr = k := by simpa [Value.ownBlock] using h
                    exact ⟨cur, this ▸ hbb⟩
                · exact .inl h
              · rintro k (h | h)
                · have := q2.lt k h; simp; omega
                · simpa using h.2
              · refine OwnS.keepT (w := w2) ⟨hown2, fun b hb => ?_⟩ fun b cs hb => Below.heap_setCell _ _ _ _ fun e => hb2.out.ne_ hb (by decide) e.symm
                have hlt := (hown2.lt b hb).2
                rcases hat2 with h | h
                · rw [h] at hb; exact .inl (hne.out b hb).2.2.1
                · rw [h] at hb; injection hb with hb; simp at hb; exact .inr ⟨by omega, hlt⟩
              · refine RP.own.ownS (base := W2.heap.size) ?_ (fun k h1 h2 => .inr ⟨by omega, by simpa using h2⟩)
                refine RP.own.upd (w := w1.alloc (.cells #[.int .i64 r'.p.cl, .int .u64 r'.p.tok, .string r'.p.nm, .slice r'.A1 r'.p.args.length r'.c1, .int .i64 r'.p.how, .slice r'.A2 r'.p.rd.length r'.c2, .slice r'.A3 r'.p.wr.length r'.c3] 40)) ⟨?_, ?_, ?_⟩ hg1 ?_
                · exact hown1.args.alloc _
                · exact hown1.rd.alloc _
                · exact hown1.wr.alloc _
                · rintro k h1 _ (h | h)
                  · have := (hne.out k h).2.2.2; omega
                  · omega
              · rintro k (h | h)
                · exact .inl h
                · exact .inr h.1
              · refine (Upd.of_below' hB2 _).trans (hu3.mono (M' := S) fun k _ h => ?_) fun k _ h => h
                rcases h with h | rfl
                · exact (hne.out k h).2.2.1
                · exact hSg
              · exact hkb2.out.upd hu3 (by rintro (h | h); exact (hne.out _ h).2.1 rfl; exact absurd h (by have := hSlt0 g hSg0; omega))
          case rest =>
            obtain ⟨S3, A3, c3', r', q3, hpe0, hS3, hS4, hu3, kb3⟩ := hcut
            obtain ⟨W3, rfl⟩ : ∃ W3 : World, W3 = wc := ⟨_, rfl⟩
            have hpe := hid hpe0
            clear hpe0
            have t3 : W3.cell? ⟨bt, k0, none⟩ = some (.slice A' xs.length c') := by rw [← hv.out]; exact q3.tcell hk64
            have htk : TokAt W3 (.slice A' xs.length c') xs := by
              have := (q3.tok k0 hk64).1
              rw [hv.out, ← hxs.out] at this
              exact this
            have hrd3 := htk.rd
            obtain ⟨c0, c1, c2, c3, c4⟩ := q3.cells
            have x1 : W3.cell? ⟨w.heap.size, 1, none⟩ = some (.int .u64 r.p.tok) := kb3.cell 1
            have hbl3 := kb3.lt
            have hgl3 := q3.blk.lt
            have hbtl3 := q3.lt _ q3.inS.2
            obtain ⟨iu, hiu, hu0, hu1, hu2⟩ := info_parts info_u64
            have hq3 := hid q3
            have hu3' := hid hu3
            have hkb3 := hid kb3
            clear q3 htk hu3 kb3 c0 c1 c3 e0 e1 e2 e3 e4 e5 e6 hrow0 qf hr2
            go_upto_region 14 with fail
            go_cut [7] (fun v wx => TokMid W3 (xs ++ [r.p.tok]) v wx)
            case first =>
              go_region_law
                (first
                  | (refine step_append_rd (w2.alloc (.cells #[.int .u64 r.p.tok] 32)) rfl (.tmp 80) (.tmp 84) 61 rfl W3.heap.size 32 iu _ 1 8 Try.underlying61 hiu hu0 hu1 hu2 rfl (by omega) (.slice A2 xs.length c2) xs.length (xs.map (.int .u64)) rfl ?_ (fun k => k = w2.heap.size) (some ⟨w2.heap.size, 0, none⟩) 1 1 [.int .u64 r.p.tok] rfl ?_ ?_ ?_ ?_ ?_ (xs.length + 1) rfl (xs.map (.int .u64) ++ [.int .u64 r.p.tok]) rfl ?_
                     go_must (
                       · exact hown2.alloc _
                       · exact Rd.new w2 32 1 1 #[.int .u64 r.p.tok] w2.heap.size rfl rfl
                       · exact nums_one [r.p.tok]
                       · simp only [maxLen]; omega
                       · omega
                       · have := hb2.out.size; simp <;> omega
                       intro A3' c3 w3 hown3 hg3 hat3
                       have hb3 : Below W3.heap.size W3 w3 := (hb2.out.alloc hb2.out.size _).grown hg3 (by have := hb2.out.size; simp <;> omega) fun k hk => (hown2.lt k hk).1
                       have hb3 := hid hb3))
                  | (refine step_append_rd w2 rfl (.tmp 80) (.tmp 84) 61 rfl W3.heap.size 32 iu _ 1 8 Try.underlying61 hiu hu0 hu1 hu2 rfl (by omega) (.slice A2 xs.length c2) xs.length (xs.map (.int .u64)) rfl ?_ (fun k => k = (W3.heap.size + 1)) (some ⟨(W3.heap.size + 1), 0, none⟩) 1 1 [.int .u64 r.p.tok] rfl ?_ ?_ ?_ ?_ ?_ (xs.length + 1) rfl (xs.map (.int .u64) ++ [.int .u64 r.p.tok]) rfl ?_
                     go_must (
                       · exact hown2
                       · exact hT
                       · exact nums_one [r.p.tok]
                       · simp only [maxLen]; omega
                       · omega
                       · have := hb2.out.size; simp <;> omega
                       intro A3' c3 w3 hown3 hg3 hat3
                       have hb3 : Below W3.heap.size W3 w3 := hb2.out.grown hg3 (by have := hb2.out.size; simp <;> omega) fun k hk => (hown2.lt k hk).1
                       have hb3 := hid hb3))
                  | (refine step_append_rd w2 rfl (.tmp 80) (.tmp 84) 61 rfl W3.heap.size 32 iu _ 1 8 Try.underlying61 hiu hu0 hu1 hu2 rfl (by omega) (.slice A2 xs.length c2) xs.length (xs.map (.int .u64)) rfl ?_ (fun k => k = W3.heap.size) (some ⟨W3.heap.size, 0, none⟩) 1 1 [.int .u64 r.p.tok] rfl ?_ ?_ ?_ ?_ ?_ (xs.length + 1) rfl (xs.map (.int .u64) ++ [.int .u64 r.p.tok]) rfl ?_
                     go_must (
                       · exact hown2
                       · exact hT
                       · exact nums_one [r.p.tok]
                       · simp only [maxLen]; omega
                       · omega
                       · have := hb2.out.size; simp <;> omega
                       intro A3' c3 w3 hown3 hg3 hat3
                       have hb3 : Below W3.heap.size W3 w3 := hb2.out.grown hg3 (by have := hb2.out.size; simp <;> omega) fun k hk => (hown2.lt k hk).1
                       have hb3 := hid hb3))
                  | (refine step_append_rd (W3.alloc (.cells #[] 32)).drew rfl (.tmp 72) (.tmp 79) 61 rfl W3.heap.size 32 iu _ 1 8 Try.underlying61 hiu hu0 hu1 hu2 rfl (by omega) (.slice (some ⟨W3.heap.size, 0, none⟩) 0 0) 0 [] rfl ?_ (fun k => k < W3.heap.size) A' xs.length c' (xs.map (.int .u64)) rfl ?_ ?_ ?_ ?_ ?_ xs.length (Nat.zero_add _) (xs.map (.int .u64)) rfl ?_
                     go_must (
                       · exact World.ownsRow.drew (own_empty W3 32 1)
                       · exact (hrd3.alloc _).drew
                       · exact nums_one _
                       · simp only [maxLen]; omega
                       · omega
                       · simp <;> omega
                       intro A2 c2 w2 hown2 hg2' hat2
                       have hb2' : Below W3.heap.size W3 w2 := (((Below.refl _ W3).alloc (Nat.le_refl _) _).drew).grown hg2' (by simp <;> omega) fun k hk => by simp [Value.ownBlock] at hk; omega
                       have y1 : w2.cell? ⟨w.heap.size, 1, none⟩ = some (.int .u64 r.p.tok) := (hb2'.cell (p := ⟨w.heap.size, 1, none⟩) hbl3).trans x1
                       have hb2 := hid hb2'
                       clear hg2' hb2'))
                  | (refine step_append_rd ((W3.alloc (.cells #[] 32)).alloc (.cells #[.int .u64 r.p.tok] 32)).drew rfl (.tmp 72) (.tmp 79) 61 rfl W3.heap.size 32 iu _ 1 8 Try.underlying61 hiu hu0 hu1 hu2 rfl (by omega) (.slice (some ⟨W3.heap.size, 0, none⟩) 0 0) 0 [] rfl ?_ (fun k => k < W3.heap.size) A' xs.length c' (xs.map (.int .u64)) rfl ?_ ?_ ?_ ?_ ?_ xs.length (Nat.zero_add _) (xs.map (.int .u64)) rfl ?_
                     go_must (
                       · exact World.ownsRow.drew ((own_empty W3 32 1).alloc _)
                       · exact ((hrd3.alloc _).alloc _).drew
                       · exact nums_one _
                       · simp only [maxLen]; omega
                       · omega
                       · simp <;> omega
                       intro A2 c2 w2 hown2 hg2' hat2
                       have hb2' : Below W3.heap.size W3 w2 := ((((Below.refl W3.heap.size W3).alloc (Nat.le_refl _) _).alloc (by simp) _).drew).grown hg2' (by simp <;> omega) fun k hk => by simp [Value.ownBlock] at hk; omega
                       have y1 : w2.cell? ⟨w.heap.size, 1, none⟩ = some (.int .u64 r.p.tok) := (hb2'.cell (p := ⟨w.heap.size, 1, none⟩) hbl3).trans x1
                       have hb2 := hid hb2'
                       have hT : Rd (fun k => k = W3.heap.size + 1) w2 1 (some ⟨W3.heap.size + 1, 0, none⟩) 1 [.int .u64 r.p.tok] := (Rd.new (W3.alloc (.cells #[] 32)) 32 1 1 #[.int .u64 r.p.tok] (W3.heap.size + 1) (by simp) rfl).drew.keep fun k hk hl => hg2'.block k hl (by subst hk; simp [Value.ownBlock])
                       clear hg2' hb2'))
                  | (refine step_append_rd ((W3.alloc (.cells #[.int .u64 r.p.tok] 32)).alloc (.cells #[] 32)).drew rfl (.tmp 72) (.tmp 79) 61 rfl W3.heap.size 32 iu _ 1 8 Try.underlying61 hiu hu0 hu1 hu2 rfl (by omega) (.slice (some ⟨(W3.heap.size + 1), 0, none⟩) 0 0) 0 [] rfl ?_ (fun k => k < W3.heap.size) A' xs.length c' (xs.map (.int .u64)) rfl ?_ ?_ ?_ ?_ ?_ xs.length (Nat.zero_add _) (xs.map (.int .u64)) rfl ?_
                     go_must (
                       · exact World.ownsRow.drew (own_base (Nat.le_succ _) (by simpa using own_empty (W3.alloc (.cells #[.int .u64 r.p.tok] 32)) 32 1))
                       · exact ((hrd3.alloc _).alloc _).drew
                       · exact nums_one _
                       · simp only [maxLen]; omega
                       · omega
                       · simp <;> omega
                       intro A2 c2 w2 hown2 hg2' hat2
                       have hb2' : Below W3.heap.size W3 w2 := ((((Below.refl W3.heap.size W3).alloc (Nat.le_refl _) _).alloc (by simp) _).drew).grown hg2' (by simp <;> omega) fun k hk => by simp [Value.ownBlock] at hk; omega
                       have y1 : w2.cell? ⟨w.heap.size, 1, none⟩ = some (.int .u64 r.p.tok) := (hb2'.cell (p := ⟨w.heap.size, 1, none⟩) hbl3).trans x1
                       have hb2 := hid hb2'
                       have hT : Rd (fun k => k = W3.heap.size) w2 1 (some ⟨W3.heap.size, 0, none⟩) 1 [.int .u64 r.p.tok] := ((Rd.new W3 32 1 1 #[.int .u64 r.p.tok] W3.heap.size rfl rfl).alloc _).drew.keep fun k hk hl => hg2'.block k hl (by subst hk; simp [Value.ownBlock])
                       clear hg2' hb2')))
              all_goals
                go_wp2_with fail
                go_meet
                refine ⟨A3', c3, by simp, ?_, hb3.out⟩
                simpa using hown3
            case rest =>
              obtain ⟨W4, rfl⟩ : ∃ W4 : World, W4 = wc := ⟨_, rfl⟩
              obtain ⟨ys, hys0⟩ : ∃ ys, ys = xs ++ [r.p.tok] := ⟨_, rfl⟩
              rw [← hys0] at hcut
              have hyl : ys.length = xs.length + 1 := by rw [hys0]; simp
              have hys := hid hys0
              have hylen := hid hyl
              clear hys0 hyl hrd3
              have qbt0 : ∀ j, W3.frozen? ⟨bt, j, none⟩ = false := by
                obtain ⟨cs, hbt, _⟩ := hq3.out.tks
                exact fun j => hbt.frozen j
              have qbt := hid qbt0
              clear qbt0
              have hys9 : ys.length ≤ 1000 := by rw [hylen.out]; omega
              go_wp2_with fail
              go_loopw [7] (fun v wr => ∃ j : Nat, j ≤ ys.length ∧ TokMid W3 (ys.drop j) v wr ∧ (j = 0 ∨ j + wn.toNat ≤ ys.length)) (fun v _ => lenOf v)
              case atStart => exact ⟨0, Nat.zero_le _, by rw [List.drop_zero]; exact hcut, .inl rfl⟩
              case round =>
                clear hcut
                obtain ⟨j, hj, ⟨A5, c5, rfl, hrow5, hb5⟩, hj2⟩ := hrel
                obtain ⟨zs, hz0⟩ : ∃ zs, zs = ys.drop j := ⟨_, rfl⟩
                have hzl0 : zs.length = ys.length - j := by rw [hz0]; simp
                rw [← hz0] at hrow5 ⊢
                have hz := hid hz0
                have hzl := hid hzl0
                have hzle : zs.length + j ≤ ys.length := by omega
                have hzge : ys.length ≤ zs.length + j := by omega
                have c2' : wr.cell? ⟨g, 2, none⟩ = some (.int .i64 wn) := (hb5.cell (p := ⟨g, 2, none⟩) hgl3).trans c2
                have c4' : wr.cell? ⟨g, 4, none⟩ = some (.slice (some ⟨bt, 0, none⟩) 64 64) := (hb5.cell (p := ⟨g, 4, none⟩) hgl3).trans c4
                have t4 : wr.cell? ⟨bt, k0, none⟩ = some (.slice A' xs.length c') := (hb5.cell (p := ⟨bt, k0, none⟩) hbtl3).trans t3
                have q4 : wr.frozen? ⟨bt, k0, none⟩ = false := (hb5.frozen (p := ⟨bt, k0, none⟩) hbtl3).trans (qbt.out k0)
                clear hz0 hzl0 c2 c4 t3
                by_cases hgt : wn < (zs.length : Int)
                · have dT : decide (wn < (zs.length : Int)) = true := decide_eq_true hgt
                  obtain ⟨g5, cur5, rfl, hg5⟩ := own_formS hrow5 (by omega)
                  have hrd5 := (Rd.of_own' hrow5).all
                  have hcap : zs.length ≤ c5 := by obtain ⟨_, _, hq, h1, _⟩ := own_form hrow5; simp at hq; omega
                  have i5 : (1 : Int) ≤ (zs.length : Int) := by omega
                  have i6 : 1 ≤ zs.length := by omega
                  have i7 : 1 ≤ c5 := by omega
                  have hsz5 := hb5.size
                  have hB5 := hid hb5
                  have hrel1 : ∀ A6 c6 w6, w6.ownsRow wr.heap.size 32 1 (.slice A6 (zs.length - 1) c6) (zs.length - 1) ((zs.drop 1).map (.int .u64)) → Below wr.heap.size wr w6 → ∃ j : Nat, j ≤ ys.length ∧ TokMid W3 (ys.drop j) (.slice A6 (zs.length - 1) c6) w6 ∧ (j = 0 ∨ j + wn.toNat ≤ ys.length) := by
                    intro A6 c6 w6 ho hb6
                    have e : ys.drop (j + 1) = zs.drop 1 := by rw [hz.out, List.drop_drop]
                    have el : (ys.drop (j + 1)).length = zs.length - 1 := by rw [e]; simp
                    refine ⟨j + 1, by omega, ⟨A6, c6, by rw [el], ?_, hb5.trans (hb6.mono hsz5)⟩, .inr (by omega)⟩
                    rw [el, e]
                    exact own_base hsz5 ho
                  have hrel1 := hid hrel1
                  clear hg5 hrow5 hj2
                  by_cases hc1 : c5 = 1
                  · obtain rfl := hc1
                    have i8 : zs.length ≤ 1 := hcap
                    have hrz : Rd (fun k => k < wr.heap.size) wr 1 (some ⟨g5, 0, none⟩) 0 ((zs.drop 1).map (.int .u64)) := ⟨by rw [List.drop_eq_nil_of_le i8]; rfl, fun h => absurd h (by omega)⟩
                    have i9 : zs.length - 1 = 0 := by omega
                    have i9 := hid i9
                    go_wp2_with (
                      at_builtin
                      refine wpList_copy_rd wr rfl (.tmp 93) (.tmp 95) 61 rfl 32 iu _ 1 8 Try.underlying61 hiu hu0 hu1 hu2 rfl (by omega) wr.heap.size rfl rfl _ _ 0 0 ((zs.drop 1).map (.int .u64)) rfl hrz (nums_one _) (by simp only [maxLen]; omega) (by omega) ?_
                      intro A6 c6 w6 hown6 hb6)
                    go_roundw
                    case rel => exact by have := hrel1.out A6 c6 w6 (by rw [i9.out]; exact hown6) hb6; rw [i9.out] at this; exact this
                    case measure => simp [lenOf]; omega
                  · have hrz : Rd (fun k => k < wr.heap.size) wr 1 (some ⟨g5, 1, none⟩) (zs.length - 1) ((zs.drop 1).map (.int .u64)) := by
                      refine ⟨by simp, fun h => ⟨g5, 1, rfl, ?_⟩⟩
                      obtain ⟨b', o', e, h1, h2, h3⟩ := hrd5.2 (by omega)
                      simp only [Option.some.injEq, Addr.mk.injEq, and_true] at e
                      obtain ⟨rfl, rfl⟩ := e
                      refine ⟨h1, h2, fun i u hu => ?_⟩
                      have := h3 (1 + i) u (by rw [List.map_drop, List.getElem?_drop] at hu; exact hu)
                      rwa [Nat.zero_add] at this
                    go_wp2_with (
                      at_builtin
                      refine wpList_copy_rd wr rfl (.tmp 93) (.tmp 95) 61 rfl 32 iu _ 1 8 Try.underlying61 hiu hu0 hu1 hu2 rfl (by omega) wr.heap.size rfl rfl _ _ (zs.length - 1) (c5 - 1) ((zs.drop 1).map (.int .u64)) rfl hrz (nums_one _) (by simp only [maxLen]; omega) (by omega) ?_
                      intro A6 c6 w6 hown6 hb6)
                    go_roundw
                    case rel => exact hrel1.out A6 c6 w6 hown6 hb6
                    case measure => simp [lenOf]; omega
                · have dF : decide (wn < (zs.length : Int)) = false := decide_eq_false hgt
                  have hT' : ∀ x, subTok wn T r.p x = if x = (k0 : Int) then zs else T x := by
                    intro x
                    unfold subTok
                    rw [hk0.out, ← hxs.out, ← hys.out, hz.out]
                    congr 2
                    have := hylen.out
                    omega
                  obtain ⟨q5, hu5⟩ := hq3.out.tokens hk64 hb5 hrow5 rfl hT' (by omega)
                  have hfin : Hid (RGone S w g mt sh wn (plans rs ++ [r.p]) (subTok wn T r.p) (wr.setCell ⟨bt, k0, none⟩ (.slice A5 zs.length c5))) := hid (by
                    refine ⟨_, ⟨_, _, _, _, _, q5, by simp [plans, hpe.out]⟩, ?_, hu3'.out.trans hu5 fun k _ h => h ▸ hSbt⟩
                    have := hu3'.out.size
                    rintro k (h | h)
                    · exact hS3 k h
                    · exact .inr (by omega))
                  clear q5 hu5 hT'
                  go_wp2_with fail
                  go_ret
                  unfold RSubPost subL subT
                  rw [hcd.out]
                  exact ⟨rfl, hfin.out⟩
theorem rsubmit_any (S0 : Nat → Prop) (r : RP) (h : RAt S w g mt sh wn L T) (hrp : r.ok S0 w) (hfit : r.p.fits) (hbd : (cnt r.p.cl L : Int) ≤ sh) : Calls Try.prog 39 #[.pointer (some ⟨g, 0, none⟩), .agg #[.int .i64 r.p.cl, .int .u64 r.p.tok, .string r.p.nm, .slice r.A1 r.p.args.length r.c1, .int .i64 r.p.how, .slice r.A2 r.p.rd.length r.c2, .slice r.A3 r.p.wr.length r.c3]] w (RSubPost S w g mt sh wn L T r.p) := by
  cases hb : subBad r.p.cl with
  | true => exact rsubmit_bad r h hb
  | false => exact rsubmit_ok S0 r h hb hrp hfit hbd
end

end Go.Proofs.Ytppcjaljhahdnaa

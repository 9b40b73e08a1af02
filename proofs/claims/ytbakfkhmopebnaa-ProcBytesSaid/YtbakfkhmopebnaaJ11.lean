/- Texts of the proof, joined: KRFind, KRCheck, KPut4, KLive, KRTake, KRCount. -/
import Derived.Test.YtbakfkhmopebnaaJ10
import Derived.Test.YtbakfkhmopebnaaJ06
import Derived.Test.YtbakfkhmopebnaaJ08
namespace Go.Proofs.Ytbakfkhmopebnaa
open Go.RowKit
set_option linter.unusedVariables false
set_option linter.unusedSimpArgs false

theorem info_boolR : (Try.prog.info? 4).map (fun i => (i.zero, i.size, i.bytes)) = some (some (.bool false), 1, 1) := by kernel_rfl
theorem make_ints (N : Nat) (hN : N ≤ 256) (w : World) : (Instr.makeSlice 22 (.int .i64 (N : Int)) (.int .i64 (N : Int))).run Try.prog w = .ok (.slice (some ⟨w.heap.size, 0, none⟩) N N) (w.alloc (.cells (madeCells #[.int .i64 0] N) 3)) := by
  obtain ⟨i0, hi0, hz0, hz1, hz2⟩ := info_parts info_int
  have h := run_makeSlice (P := Try.prog) w 22 3 i0 _ Try.underlying22 hi0 hz0 .i64 .i64 (N : Int) (N : Int) (by omega) (Int.le_refl _) (by simp only [Int.toNat_natCast]; rw [hz1]; omega) (by rw [hz2]; omega) (by omega)
  simp only [Int.toNat_natCast, hz1, Nat.mul_one] at h
  exact h
theorem make_bools (N : Nat) (hN : N ≤ 256) (w : World) : (Instr.makeSlice 103 (.int .i64 (N : Int)) (.int .i64 (N : Int))).run Try.prog w = .ok (.slice (some ⟨w.heap.size, 0, none⟩) N N) (w.alloc (.cells (madeCells #[.bool false] N) 4)) := by
  obtain ⟨i0, hi0, hz0, hz1, hz2⟩ := info_parts info_boolR
  have h := run_makeSlice (P := Try.prog) w 103 4 i0 _ Try.underlying103 hi0 hz0 .i64 .i64 (N : Int) (N : Int) (by omega) (Int.le_refl _) (by simp only [Int.toNat_natCast]; rw [hz1]; omega) (by rw [hz2]; omega) (by omega)
  simp only [Int.toNat_natCast, hz1, Nat.mul_one] at h
  exact h
theorem made_at (z : Value) (n i : Nat) (h : i < n) : (madeCells #[z] n)[i]? = some z := by
  have := congrArg (fun l => l[i]?) (toList_madeCells_one z n)
  simp only [List.getElem?_replicate, h, if_true] at this
  simpa using this
def leftB (w : World) (g n : Nat) : Nat := (List.range n).countP fun i => match w.cell? ⟨g, i, none⟩ with | some (.bool b) => !b | _ => true
theorem DkAt.left {w : World} {g h n : Nat} {c : Ck} {cs ls : Array Value} (k : DkAt w g h n c cs ls) : leftB w h n = c.left n := by
  unfold leftB Ck.left
  refine List.countP_congr fun i hi => ?_
  rw [k.clk (List.mem_range.1 hi)]
theorem DkAt.own {w : World} {g h n base : Nat} {c : Ck} {cs ls : Array Value} (k : DkAt w g h n c cs ls) (hg : base ≤ g) (hn : n ≤ 256) : w.ownsRow base 3 1 (.slice (some ⟨g, 0, none⟩) n n) n ((List.range n).map fun i => .int .i64 (c.dep i)) := by
  refine ⟨by simp, .inr ⟨g, n, cs, rfl, hg, k.a, Nat.le_refl _, by simp only [maxLen]; omega, by rw [k.sa]; omega, ?_⟩⟩
  apply List.ext_getElem?
  intro j
  by_cases hj : j < n
  · rw [List.getElem?_take_of_lt (by omega), Array.getElem?_toList, k.dep j hj, List.getElem?_map, List.getElem?_range hj]; rfl
  · rw [List.getElem?_take_eq_none (by omega), List.getElem?_eq_none (by simp; omega)]
theorem lookAt_leads {code : List Is} {dep : Nat → Int} {i : Nat} (h : ¬ (dep i < takes (code.getD i is0).op ∨ 32 < dep i - takes (code.getD i is0).op + lays (code.getD i is0).op)) : lookAt code dep i = leads code.length i (dep i - takes (code.getD i is0).op + lays (code.getD i is0).op) (nexts i (code.getD i is0)) dep := if_neg h
theorem leads_drop {n at_ : Nat} {d : Int} {l : List Nat} {q : Nat} {dep : Nat → Int} (h : q < l.length) : leads n at_ d (l.drop q) dep = match leadTo n at_ d dep l[q] with | .inl dep' => leads n at_ d (l.drop (q + 1)) dep' | .inr e => .inr e := by
  rw [List.drop_eq_getElem_cons h]; rfl
set_option maxRecDepth 100000 in
set_option maxHeartbeats 4000000 in
theorem rfind_any (p : Pr) (S : Nat → Prop) (A1 A2 : Option Addr) (c1 c2 : Nat) (w : World) (hp : PrIn S w A1 A2 p) (hf : p.form.1 = 0) : Calls Try.prog 39 #[.agg #[.int .i64 p.args, .slice A1 p.cs.length c1, .slice A2 p.code.length c2]] w (FindPost p w) := by
  have hmi := hid make_ints
  have hmb := hid make_bools
  have hfm := hid (form_ok hf)
  have hn := hid hfm.out.2.2.2.2.2.1
  have hn0 := hid hfm.out.2.2.2.2.1
  have hP := hid hp
  have kp0 := Blk.new w 29 #[.int .i64 p.args, .slice A1 p.cs.length c1, .slice A2 p.code.length c2]
  have hB0 : Below w.heap.size w (w.alloc (.cells #[.int .i64 p.args, .slice A1 p.cs.length c1, .slice A2 p.code.length c2] 29)) := (Below.refl _ _).alloc (Nat.le_refl _) _
  have kp := hid kp0
  have hB := hid hB0
  have hz1 : Hid ((w.alloc (.cells #[.int .i64 p.args, .slice A1 p.cs.length c1, .slice A2 p.code.length c2] 29)).heap.size = w.heap.size + 1) := hid (by simp)
  clear kp0 hB0 hp hf
  have hn9 : (p.code.length : Int) ≤ 256 := by have := hn.out; omega
  go_enter Try.func39, Try.ntmps39
  go_upto_region 1 with fail
  generalize w.alloc (.cells #[.int .i64 p.args, .slice A1 p.cs.length c1, .slice A2 p.code.length c2] 29) = w1 at *
  have p0 := kp.out.cell 0
  have p1 := kp.out.cell 1
  have p2 := kp.out.cell 2
  simp only [List.getElem?_toArray, List.getElem?_cons_zero, List.getElem?_cons_succ] at p0 p1 p2
  have hmk := hmi.out p.code.length hn.out w1
  have kd0 := Blk.new w1 3 (madeCells #[.int .i64 0] p.code.length)
  have hB2 := hid (hB.out.alloc hB.out.size (.cells (madeCells #[.int .i64 0] p.code.length) 3))
  have kd := hid kd0
  have kp2 := hid (kp.out.alloc (.cells (madeCells #[.int .i64 0] p.code.length) 3))
  have hz2 : Hid ((w1.alloc (.cells (madeCells #[.int .i64 0] p.code.length) 3)).heap.size = w1.heap.size + 1) := hid (by simp)
  clear kd0
  go_upto_region 2 with fail
  generalize w1.alloc (.cells (madeCells #[.int .i64 0] p.code.length) 3) = w2 at *
  clear hmk p0 p1 p2
  have p0 := kp2.out.cell 0
  have p1 := kp2.out.cell 1
  have p2 := kp2.out.cell 2
  simp only [List.getElem?_toArray, List.getElem?_cons_zero, List.getElem?_cons_succ] at p0 p1 p2
  have hmk := hmb.out p.code.length hn.out w2
  have kl0 := Blk.new w2 4 (madeCells #[.bool false] p.code.length)
  have hB3 := hid (hB2.out.alloc hB2.out.size (.cells (madeCells #[.bool false] p.code.length) 4))
  have kl := hid kl0
  have kp3 := hid (kp2.out.alloc (.cells (madeCells #[.bool false] p.code.length) 4))
  have kd3 := hid (kd.out.alloc (.cells (madeCells #[.bool false] p.code.length) 4))
  clear kl0
  go_upto_region 3 with fail
  generalize w2.alloc (.cells (madeCells #[.bool false] p.code.length) 4) = w3 at *
  clear hmk p0 p1 p2
  have K0 : Hid (DkAt w3 w1.heap.size w2.heap.size p.code.length ⟨fun _ => 0, fun _ => false⟩ (madeCells #[.int .i64 0] p.code.length) (madeCells #[.bool false] p.code.length)) := hid ⟨kd3.out, kl.out, size_madeCells _ _, size_madeCells _ _, fun i hi => made_at _ _ _ hi, fun i hi => made_at _ _ _ hi⟩
  have hgg : Hid (w.heap.size < w1.heap.size ∧ w1.heap.size < w2.heap.size) := hid (by have := hz1.out; have := hz2.out; omega)
  clear kd kl kd3 kp2 hz1 hz2
  obtain ⟨g, hg⟩ : ∃ g, g = w1.heap.size := ⟨_, rfl⟩
  obtain ⟨h, hh⟩ : ∃ h, h = w2.heap.size := ⟨_, rfl⟩
  rw [← hg, ← hh] at K0 hgg
  rw [← hg, ← hh]
  clear hg hh
  go_wp2_with fail
  go_loopw [7] (fun v wr => ∃ (k : Nat) (cs ls : Array Value), v = .int .i64 k ∧ 1 ≤ k ∧ k ≤ p.code.length ∧ DkAt wr g h p.code.length ⟨fun i => if i = 0 then 0 else if i < k then -1 else 0, fun _ => false⟩ cs ls ∧ Upd (fun b => b = g) w3 wr) (fun v _ => p.code.length - (intOf v).toNat)
  case atStart => exact ⟨1, _, _, rfl, Nat.le_refl _, hn0.out, K0.out.congr (fun i _ => by
    by_cases e : i = 0
    · simp [e]
    · simp only [e, if_false]; rw [if_neg (by omega)]) (fun _ _ => rfl), Upd.refl _ _⟩
  case round =>
    clear K0
    obtain ⟨k, cs, ls, rfl, hk1, hk, K, U⟩ := hrel
    by_cases hlt : k < p.code.length
    · have i1 : (k : Int) < (p.code.length : Int) := by omega
      have i0 : (0 : Int) ≤ (k : Int) := by omega
      have x1 := K.cdep (i := k) hlt
      have fz : ∀ q, wr.frozen? ⟨g, q, none⟩ = false := fun q => K.a.frozen q
      have hw : IntKind.i64.wrap ((k : Int) + 1) = (k : Int) + 1 := IntWalk.i64_in _ (by omega)
      have hnx : Hid (DkAt (wr.setCell ⟨g, k, none⟩ (.int .i64 (-1))) g h p.code.length ⟨fun i => if i = 0 then 0 else if i < k + 1 then -1 else 0, fun _ => false⟩ (cs.setIfInBounds k (.int .i64 (-1))) ls ∧ Upd (fun b => b = g) w3 (wr.setCell ⟨g, k, none⟩ (.int .i64 (-1)))) := hid ⟨(K.setDep hlt (-1)).congr (fun i _ => by
        unfold setN
        by_cases e : i = k
        · subst e; simp; omega
        · simp only [e, if_false]
          by_cases h0 : i = 0
          · simp [h0]
          · simp only [h0, if_false]
            by_cases h : i < k
            · rw [if_pos h, if_pos (by omega)]
            · rw [if_neg h, if_neg (by omega)]) (fun _ _ => rfl), U.setCell (p := ⟨g, k, none⟩) (fun _ => rfl) _⟩
      clear K U
      go_wp2_with fail
      go_roundw
      case rel => exact ⟨k + 1, _, _, by go_num, by omega, hlt, hnx.out⟩
      case measure => simp [intOf]; omega
    · obtain rfl : k = p.code.length := by omega
      have K1 := hid (K.congr (c' := ck0) (fun i hi => by
        unfold ck0
        by_cases e : i = 0
        · simp [e]
        · simp [e, hi]) (fun _ _ => rfl))
      have kp4 := hid (kp3.out.upd U (fun e => by have := hgg.out; omega))
      have hB4 := hid (hB3.out.trans (U.below hB3.out.size fun j hj e => by have := hgg.out; omega))
      clear K U
      go_wp2_with fail
      go_loopw [8] (fun _ wx => ∃ (c : Ck) (cs ls : Array Value), DkAt wx g h p.code.length c cs ls ∧ CkI p.code c ∧ p.find = runC p.code c ∧ Blk wx w.heap.size 29 #[.int .i64 p.args, .slice A1 p.cs.length c1, .slice A2 p.code.length c2] ∧ Below w.heap.size w wx) (fun _ wx => leftB wx h p.code.length)
      case atStart => exact ⟨ck0, _, _, K1.out, CkI.new _, rfl, kp4.out, hB4.out⟩
      case round =>
        clear K1 kp4 hB4
        obtain ⟨c, cs, ls, K0, I0, hfi0, kp0, hB0'⟩ := hrel
        have K := hid K0
        have I := hid I0
        have hfi := hid hfi0
        have kpr := hid kp0
        have hBr := hid hB0'
        have hle := rleast_any K0 I0.rng hn.out
        clear K0 I0 hfi0 kp0 hB0'
        cases hl : leastD c p.code.length 0 with
        | none =>
          rw [hl] at hle
          have hle := hid hle
          have hres : Hid (p.find = .inl c.dep) := hid (hfi.out.trans (runC_none hl))
          clear hl
          go_wp2_with fail
          refine hle.out.mono ?_
          rintro e w8 ⟨rfl, hw8⟩
          obtain rfl := hw8.symm
          simp only [leastI]
          have hown := hid (K.out.own (base := w.heap.size) (by have := hgg.out; omega) hn.out)
          go_wp2_with fail
          go_ret3
          refine ⟨hBr.out, ?_⟩
          rw [hres.out]
          exact ⟨_, rfl, hown.out⟩
        | some i =>
          rw [hl] at hle
          have hle := hid hle
          obtain ⟨hi, hdu⟩ := leastD_lt hl
          have hln := hid hl
          have hdu := hid (due_lk hdu)
          have hil := hid hi
          have hrange : 0 ≤ c.dep i ∧ c.dep i ≤ 32 := by
            rcases I.out.rng i with h | h
            · exact absurd h hdu.out.1
            · exact h
          have hin0 : 0 ≤ (p.code.getD i is0).n := by
            rw [List.getD_eq_getElem?_getD, List.getElem?_eq_getElem hi]
            exact (hfm.out.2.2.2.2.2.2 _ (List.getElem_mem hi)).2.1
          have j1 : (i : Int) < (p.code.length : Int) := by omega
          have j0 : (0 : Int) ≤ (i : Int) := by omega
          have j9 : decide ((i : Int) < 0) = false := decide_eq_false (by omega)
          have x1 := K.out.cdep hi
          have x2 := K.out.clk hi
          have fz : ∀ q, wr.frozen? ⟨h, q, none⟩ = false := fun q => K.out.b.frozen q
          have K5 := hid (K.out.setLk hi true)
          have U5 : Hid (Upd (fun b => b = g ∨ b = h) wr (wr.setCell ⟨h, i, none⟩ (.bool true))) := hid ((Upd.refl _ wr).setCell (p := ⟨h, i, none⟩) (fun _ => .inr rfl) _)
          go_wp2_with fail
          refine hle.out.mono ?_
          rintro e w8 ⟨rfl, hw8⟩
          obtain rfl := hw8.symm
          simp only [leastI]
          go_upto_region 11 with fail
          generalize hW5 : wr.setCell ⟨h, i, none⟩ (.bool true) = w5 at *
          clear hW5 x1 x2 fz hle
          have hB5 := hid (hBr.out.trans (U5.out.below hBr.out.size fun j hj e => by have := hgg.out; omega))
          have kp5 := hid (kpr.out.upd U5.out (fun e => by have := hgg.out; omega))
          have HP2 : Hid (∀ W, Below w.heap.size w W → PrIn (fun b => b < w.heap.size) W A1 A2 p) := hid fun W hb => ⟨hP.out.c.all.below hb fun b hb => hb, hP.out.i.all.below hb fun b hb => hb, hP.out.t, hP.out.l⟩
          have hnx := hid (fun W (hb : Below w.heap.size w W) => rnexts_any p _ A1 A2 c1 c2 W (HP2.out W hb) i hi hin0)
          have hlk : Hid (lookAt p.code c.dep i = let ii := p.code.getD i is0; let d := c.dep i - takes ii.op + lays ii.op; if c.dep i < takes ii.op ∨ 32 < d then .inr (55, i) else leads p.code.length i d (nexts i ii) c.dep) := hid rfl
          obtain ⟨b, o, hA, hbl, a0, a1⟩ := (HP2.out w5 hB5.out).i.ins_at hi
          have hgi : p.code.getD i is0 = p.code[i]'hi := by rw [List.getD_eq_getElem?_getD, List.getElem?_eq_getElem hi]; rfl
          rw [hgi] at hlk hnx hin0
          subst hA
          generalize p.code[i]'hi = ii at *
          clear hgi hi
          have p0 := kp5.out.cell 0
          have p1 := kp5.out.cell 1
          have p2 := kp5.out.cell 2
          simp only [List.getElem?_toArray, List.getElem?_cons_zero, List.getElem?_cons_succ] at p0 p1 p2
          have x3 := K5.out.cdep hil.out
          have htk := hid (rtakes_any ii.op)
          have hrt := takes_range ii.op
          have hrl := lays_range ii.op
          obtain ⟨dv, hdv⟩ : ∃ dv, dv = c.dep i := ⟨_, rfl⟩
          simp only [← hdv] at hlk hrange x3
          clear hdv
          generalize takes ii.op = tk at *
          generalize lays ii.op = ly at *
          have hw1 : IntKind.i64.wrap (dv - tk) = dv - tk := IntWalk.i64_in _ (by omega)
          have hw2 : IntKind.i64.wrap (dv - tk + ly) = dv - tk + ly := IntWalk.i64_in _ (by omega)
          go_wp2_with fail
          refine (htk.out w5).mono ?_
          rintro e w6 ⟨rfl, hw6⟩
          obtain rfl := hw6.symm
          clear htk a0 a1
          by_cases hlow : dv < tk
          · have t1 : decide (dv < tk) = true := decide_eq_true hlow
            have hres : Hid (p.find = .inr (55, i)) := hid (hfi.out.trans (runC_bad hln.out (hlk.out.trans (if_pos (.inl hlow)))))
            clear hlk hlow
            go_wp2_with fail
            go_ret3
            refine ⟨hB5.out, ?_⟩
            rw [hres.out]
            rfl
          have t1 : decide (dv < tk) = false := decide_eq_false hlow
          by_cases hhi : 32 < dv - tk + ly
          · have t2 : decide (32 < dv - tk + ly) = true := decide_eq_true hhi
            have hres : Hid (p.find = .inr (55, i)) := hid (hfi.out.trans (runC_bad hln.out (hlk.out.trans (if_pos (.inr hhi)))))
            clear hlk hlow hhi
            go_wp2_with fail
            go_ret3
            refine ⟨hB5.out, ?_⟩
            rw [hres.out]
            rfl
          have t2 : decide (32 < dv - tk + ly) = false := decide_eq_false hhi
          have hlk2 : Hid (lookAt p.code c.dep i = leads p.code.length i (dv - tk + ly) (nexts i ii) c.dep) := hid (hlk.out.trans (if_neg (by omega)))
          have hd32 : Hid (0 ≤ dv - tk + ly ∧ dv - tk + ly ≤ 32) := hid (by omega)
          clear hlk hlow hhi
          go_wp2_with fail
          refine (hnx.out w5 hB5.out).mono ?_
          rintro e w6 ⟨hb60, A, cc, rfl, hrd0⟩
          have K6 := hid (K5.out.below hb60)
          have kp6 := hid (kp5.out.below_all hb60)
          have hB6 := hid (hB5.out.trans (hb60.mono hB5.out.size))
          have hrd := hid hrd0
          have hg5 : Hid (g < w5.heap.size) := hid K5.out.a.lt
          have hll : (nexts i ii).length ≤ 2 := by unfold nexts; split; · simp
                                                   split; · simp
                                                   split <;> simp
          clear hb60 hrd0 p0 p1 p2 x3 hnx
          generalize nexts i ii = l at *
          generalize dv - tk + ly = d at *
          have hll2 : (l.length : Int) ≤ 2 := by omega
          clear hll hw1 hw2 t1
          obtain ⟨wo, hwo⟩ : ∃ wo, wo = wr := ⟨_, rfl⟩
          have HWO := hid hwo
          have HLB : Hid (leftB wo h p.code.length = c.left p.code.length) := hid (by rw [hwo]; exact K.out.left)
          clear hwo
          go_wp2_with fail
          go_loopw [13] (fun v wy => ∃ (q : Nat) (dep' : Nat → Int) (cs ls : Array Value), v = .int .i64 q ∧ q ≤ l.length ∧ DkAt wy g h p.code.length ⟨dep', setN c.lk i true⟩ cs ls ∧ DepR dep' ∧ lookAt p.code c.dep i = leads p.code.length i d (l.drop q) dep' ∧ Upd (fun b => b = g) w6 wy) (fun v _ => l.length - (intOf v).toNat)
          case atStart => exact ⟨0, c.dep, _, _, rfl, Nat.zero_le _, K6.out, I.out.rng, by rw [List.drop_zero]; exact hlk2.out, Upd.refl _ _⟩
          case round =>
            clear K6 hlk2
            obtain ⟨q, dep', cs7, ls7, rfl, hq, K70, hr70, hlk70, U70⟩ := hrel
            have K7 := hid K70
            have hr7 := hid hr70
            have hlk7 := hid hlk70
            have hB7 := hid (hB6.out.trans (U70.below hB6.out.size fun j hj e => by have := hgg.out; omega))
            have kp7 := hid (kp6.out.upd U70 (fun e => by have := hgg.out; omega))
            have hrd7 := hid (hrd.out.upd U70 (fun b hb e => by have := hg5.out; omega))
            have U7 := hid U70
            clear K70 hr70 hlk70 U70
            have p0 := kp7.out.cell 0
            have p1 := kp7.out.cell 1
            have p2 := kp7.out.cell 2
            simp only [List.getElem?_toArray, List.getElem?_cons_zero, List.getElem?_cons_succ] at p0 p1 p2
            by_cases hlt : q < l.length
            · have q1 : (q : Int) < (l.length : Int) := by omega
              have q0 : (0 : Int) ≤ (q : Int) := by omega
              have hwq : IntKind.i64.wrap ((q : Int) + 1) = (q : Int) + 1 := IntWalk.i64_in _ (by omega)
              obtain ⟨bl, ol, hAl, _, hbll, hcl⟩ := Rd.at_ hrd7.out hlt
              have y0 := hcl q (.int .i64 (l[q] : Nat)) (by rw [List.getElem?_map, List.getElem?_eq_getElem hlt]; rfl)
              have hstep := hid (leads_drop (n := p.code.length) (at_ := i) (d := d) (dep := dep') hlt)
              subst hAl
              clear hcl
              generalize l[q] = tg at *
              have p2' : ∀ n, (wr.drewN n).cell? ⟨w.heap.size, 2, none⟩ = some (.slice (some ⟨b, o, none⟩) p.code.length c2) := fun _ => p2
              have y0' : ∀ n, (wr.drewN n).cell? ⟨bl, ol + q, none⟩ = some (.int .i64 (tg : Nat)) := fun _ => y0
              by_cases hbig : p.code.length ≤ tg
              · have t1 : decide ((p.code.length : Int) ≤ (tg : Int)) = true := decide_eq_true (by omega)
                have t1' : decide (p.code.length ≤ tg) = true := decide_eq_true hbig
                have hres : Hid (p.find = .inr (57, i)) := hid (hfi.out.trans (runC_bad hln.out (hlk7.out.trans (hstep.out.trans (by unfold leadTo; rw [if_pos hbig])))))
                clear hbig
                go_upto_region 19 with fail
                go_quiet (fail)
                go_wp2_with fail
                go_ret3
                refine ⟨below_drewN hB7.out _, ?_⟩
                rw [hres.out]
                rfl
              have t1 : decide ((p.code.length : Int) ≤ (tg : Int)) = false := decide_eq_false (by omega)
              have t1' : decide (p.code.length ≤ tg) = false := decide_eq_false hbig
              have g1 : (tg : Int) < (p.code.length : Int) := by omega
              have g0 : (0 : Int) ≤ (tg : Int) := by omega
              have htl : Hid (tg < p.code.length) := hid (by omega)
              have hl2 : Hid (leadTo p.code.length i d dep' tg = if dep' tg = -1 then .inl (setN dep' tg d) else if dep' tg = d then .inl dep' else .inr (56, i)) := hid (by unfold leadTo; rw [if_neg hbig])
              have hrtg := hr7.out tg
              clear hbig
              go_upto_region 19 with fail
              go_quiet (fail)
              have K8 := hid (K7.out.below (below_drewN (Below.refl _ wr) nq))
              have hB8 := hid (below_drewN hB7.out nq)
              have U8 := hid (U7.out.drewN nq)
              clear p0 p1 p2 y0
              have p2 := p2' nq
              have y0 := y0' nq
              clear p2' y0'
              generalize wr.drewN nq = w9 at *
              have x4 : w9.cell? ⟨g, tg, none⟩ = some (.int .i64 (dep' tg)) := K8.out.cdep htl.out
              have fz : ∀ z, w9.frozen? ⟨g, z, none⟩ = false := fun z => K8.out.a.frozen z
              have Kn := hid (K8.out.setDep htl.out d)
              have Un : Hid (Upd (fun b => b = g) w6 (w9.setCell ⟨g, tg, none⟩ (.int .i64 d))) := hid (U8.out.setCell (p := ⟨g, tg, none⟩) (fun _ => rfl) _)
              generalize hdt : dep' tg = dt at *
              by_cases h1 : dt = -1
              · have u1 : decide (0 ≤ dt) = false := decide_eq_false (by omega)
                have hfin : Hid (DkAt (w9.setCell ⟨g, tg, none⟩ (.int .i64 d)) g h p.code.length ⟨setN dep' tg d, setN c.lk i true⟩ (cs7.setIfInBounds tg (.int .i64 d)) ls7 ∧ DepR (setN dep' tg d) ∧ lookAt p.code c.dep i = leads p.code.length i d (l.drop (q + 1)) (setN dep' tg d) ∧ Upd (fun b => b = g) w6 (w9.setCell ⟨g, tg, none⟩ (.int .i64 d))) := hid ⟨Kn.out, (leadTo_ok hd32.out hr7.out (hl2.out.trans (if_pos h1))).2.2.2, hlk7.out.trans (hstep.out.trans (by rw [hl2.out, if_pos h1])), Un.out⟩
                clear h1 hrtg hdt
                go_wp2_with fail
                go_roundw
                case rel => exact ⟨q + 1, _, _, _, by go_num, hlt, hfin.out⟩
                case measure => simp [intOf]; omega
              · have u1 : decide (0 ≤ dt) = true := decide_eq_true (by omega)
                by_cases h2 : dt = d
                · have u2 : (dt == d) = true := by simpa using h2
                  have u3 : (dt != d) = false := by simpa using h2
                  have hse : setN dep' tg d = dep' := by
                    funext j
                    unfold setN
                    split
                    · rename_i e; rw [e, hdt, h2]
                    · rfl
                  have hfin : Hid (DkAt (w9.setCell ⟨g, tg, none⟩ (.int .i64 d)) g h p.code.length ⟨dep', setN c.lk i true⟩ (cs7.setIfInBounds tg (.int .i64 d)) ls7 ∧ DepR dep' ∧ lookAt p.code c.dep i = leads p.code.length i d (l.drop (q + 1)) dep' ∧ Upd (fun b => b = g) w6 (w9.setCell ⟨g, tg, none⟩ (.int .i64 d))) := hid ⟨by have := Kn.out; simp only [hse] at this; exact this, hr7.out, hlk7.out.trans (hstep.out.trans (by rw [hl2.out, if_neg h1, if_pos h2])), Un.out⟩
                  clear h1 h2 hrtg hdt hse
                  go_wp2_with fail
                  go_roundw
                  case rel => exact ⟨q + 1, _, _, _, by go_num, hlt, hfin.out⟩
                  case measure => simp [intOf]; omega
                · have u2 : (dt == d) = false := by simpa using h2
                  have u3 : (dt != d) = true := by simpa using h2
                  have hres : Hid (p.find = .inr (56, i)) := hid (hfi.out.trans (runC_bad hln.out (hlk7.out.trans (hstep.out.trans (by rw [hl2.out, if_neg h1, if_neg h2])))))
                  clear h1 h2 hrtg hdt
                  go_wp2_with fail
                  go_ret3
                  refine ⟨hB8.out, ?_⟩
                  rw [hres.out]
                  rfl
            · obtain rfl : q = l.length := by omega
              have hlo : lookAt p.code c.dep i = .inl dep' := hlk7.out.trans (by rw [List.drop_length]; rfl)
              have hI2 := I.out.step hdu.out.1 hlo
              have hfin : Hid (DkAt wr g h p.code.length ⟨dep', setN c.lk i true⟩ cs7 ls7 ∧ CkI p.code ⟨dep', setN c.lk i true⟩ ∧ p.find = runC p.code ⟨dep', setN c.lk i true⟩ ∧ Blk wr w.heap.size 29 #[.int .i64 p.args, .slice A1 p.cs.length c1, .slice (some ⟨b, o, none⟩) p.code.length c2] ∧ Below w.heap.size w wr) := hid ⟨K7.out, hI2, hfi.out.trans (runC_ok hln.out hlo), kp7.out, hB7.out⟩
              have hms : Hid (leftB wr h p.code.length < leftB wo h p.code.length) := hid (by
                rw [K7.out.left, HLB.out]
                have := left_set c p.code.length i dep' hil.out hdu.out.2
                omega)
              clear hlo hI2
              go_wp2_with fail
              go_roundw
              case rel => exact ⟨_, _, _, hfin.out⟩
              case measure => rw [← HWO.out]; exact hms.out

end Go.Proofs.Ytbakfkhmopebnaa

namespace Go.Proofs.Ytbakfkhmopebnaa
open Go.RowKit
set_option linter.unusedVariables false
set_option linter.unusedSimpArgs false

theorem rfind_all (p : Pr) (S : Nat → Prop) (A1 A2 : Option Addr) (c1 c2 : Nat) (w : World) (hp : PrIn S w A1 A2 p) (hf : p.form.1 = 0) : Calls Try.prog 39 #[.agg #[.int .i64 p.args, .slice A1 p.cs.length c1, .slice A2 p.code.length c2]] w (FindAll p w) := by
  refine (rfind_any p S A1 A2 c1 c2 w hp hf).mono fun e w' ⟨hb, hm⟩ => ⟨hb, ?_⟩
  cases hfi : p.find with
  | inl d =>
    rw [hfi] at hm
    obtain ⟨v, rfl, hown⟩ := hm
    obtain ⟨A, c, rfl, _⟩ := own_form hown
    obtain ⟨h1, h2⟩ := check_ok hf hfi
    have hl : p.deps.length = p.code.length := by rw [h2]; simp
    refine ⟨A, c, by rw [h1, hl], ?_⟩
    rw [hl, h2, List.map_map]
    exact hown
  | inr x =>
    rw [hfi] at hm
    obtain ⟨h1, h2⟩ := check_bad hf hfi
    refine ⟨none, 0, by rw [hm, h1, h2]; rfl, ?_⟩
    rw [h2]
    exact World.ownsRow_nil _ _ _ _
set_option maxRecDepth 100000 in
theorem rcheck_any (p : Pr) (S : Nat → Prop) (A1 A2 : Option Addr) (c1 c2 : Nat) (w : World) (hp : PrIn S w A1 A2 p) : Calls Try.prog 16 #[.agg #[.int .i64 p.args, .slice A1 p.cs.length c1, .slice A2 p.code.length c2]] w fun e w' => e = .returned (.tuple #[.int .i64 p.check.1, .int .i64 p.check.2]) ∧ Below w.heap.size w w' := by
  have hB0 : Below w.heap.size w (w.alloc (.cells #[.int .i64 p.args, .slice A1 p.cs.length c1, .slice A2 p.code.length c2] 29)) := (Below.refl _ _).alloc (Nat.le_refl _) _
  have kp0 := Blk.new w 29 #[.int .i64 p.args, .slice A1 p.cs.length c1, .slice A2 p.code.length c2]
  have HP : Hid (∀ W, Below w.heap.size w W → PrIn S W A1 A2 p) := hid fun W hb => hp.below hb
  have hB := hid hB0
  have kp := hid kp0
  clear hB0 kp0 hp
  have hfo := hid (fun W hb => rform_any p S A1 A2 c1 c2 W (HP.out W hb))
  by_cases hf : p.form.1 = 0
  · have hfi := hid (fun W hb => rfind_all p S A1 A2 c1 c2 W (HP.out W hb) hf)
    have t1 : (p.form.1 == 0) = true := by simpa using hf
    have t2 : (p.form.1 != 0) = false := by simpa using hf
    generalize p.form.1 = f1 at *
    clear hf
    go_enter Try.func16, Try.ntmps16
    go_upto_region 1 with fail
    generalize w.alloc (.cells #[.int .i64 p.args, .slice A1 p.cs.length c1, .slice A2 p.code.length c2] 29) = w1 at *
    have p0 := kp.out.cell 0
    have p1 := kp.out.cell 1
    have p2 := kp.out.cell 2
    simp only [List.getElem?_toArray, List.getElem?_cons_zero, List.getElem?_cons_succ] at p0 p1 p2
    go_wp2_with fail
    refine (hfo.out _ hB.out).mono ?_
    rintro e w2 ⟨rfl, hb0⟩
    have hB2 := hid (hB.out.trans (hb0.mono hB.out.size))
    have kp2 := hid (kp.out.below_all hb0)
    clear hb0 p0 p1 p2
    have p0 := kp2.out.cell 0
    have p1 := kp2.out.cell 1
    have p2 := kp2.out.cell 2
    simp only [List.getElem?_toArray, List.getElem?_cons_zero, List.getElem?_cons_succ] at p0 p1 p2
    go_wp2_with fail
    refine (hfi.out _ hB2.out).mono ?_
    rintro e w3 ⟨hb0, A, c, rfl, _⟩
    have hB3 := hid (hB2.out.trans (hb0.mono hB2.out.size))
    clear hb0
    go_wp2_with fail
    go_ret2
    exact ⟨rfl, hB3.out⟩
  · have hch := hid (check_form hf).1
    have t1 : (p.form.1 == 0) = false := by simpa using hf
    have t2 : (p.form.1 != 0) = true := by simpa using hf
    clear hf
    go_enter Try.func16, Try.ntmps16
    go_upto_region 1 with fail
    generalize w.alloc (.cells #[.int .i64 p.args, .slice A1 p.cs.length c1, .slice A2 p.code.length c2] 29) = w1 at *
    have p0 := kp.out.cell 0
    have p1 := kp.out.cell 1
    have p2 := kp.out.cell 2
    simp only [List.getElem?_toArray, List.getElem?_cons_zero, List.getElem?_cons_succ] at p0 p1 p2
    go_wp2_with fail
    refine (hfo.out _ hB.out).mono ?_
    rintro e w2 ⟨rfl, hb0⟩
    have hB2 := hid (hB.out.trans (hb0.mono hB.out.size))
    clear hb0
    go_wp2_with fail
    go_ret2
    exact ⟨by rw [hch.out]; rfl, hB2.out⟩
set_option maxRecDepth 100000 in
theorem rdepths_any (p : Pr) (S : Nat → Prop) (A1 A2 : Option Addr) (c1 c2 : Nat) (w : World) (hp : PrIn S w A1 A2 p) : Calls Try.prog 19 #[.agg #[.int .i64 p.args, .slice A1 p.cs.length c1, .slice A2 p.code.length c2]] w fun e w' => ∃ v, e = .returned v ∧ Cloned 3 1 (p.deps.map (Value.int .i64)) p.deps.length w v w' := by
  have hB0 : Below w.heap.size w (w.alloc (.cells #[.int .i64 p.args, .slice A1 p.cs.length c1, .slice A2 p.code.length c2] 29)) := (Below.refl _ _).alloc (Nat.le_refl _) _
  have kp0 := Blk.new w 29 #[.int .i64 p.args, .slice A1 p.cs.length c1, .slice A2 p.code.length c2]
  have HP : Hid (∀ W, Below w.heap.size w W → PrIn S W A1 A2 p) := hid fun W hb => hp.below hb
  have hB := hid hB0
  have kp := hid kp0
  clear hB0 kp0 hp
  have hfo := hid (fun W hb => rcheck_any p S A1 A2 c1 c2 W (HP.out W hb))
  by_cases hc : p.check.1 = 0
  · have hfi := hid (fun W hb => rfind_all p S A1 A2 c1 c2 W (HP.out W hb) (deps_len hc).choose_spec.2.1)
    have t1 : (p.check.1 == 0) = true := by simpa using hc
    have t2 : (p.check.1 != 0) = false := by simpa using hc
    clear hc
    go_enter Try.func19, Try.ntmps19
    go_upto_region 1 with fail
    generalize w.alloc (.cells #[.int .i64 p.args, .slice A1 p.cs.length c1, .slice A2 p.code.length c2] 29) = w1 at *
    have p0 := kp.out.cell 0
    have p1 := kp.out.cell 1
    have p2 := kp.out.cell 2
    simp only [List.getElem?_toArray, List.getElem?_cons_zero, List.getElem?_cons_succ] at p0 p1 p2
    go_wp2_with fail
    refine (hfo.out _ hB.out).mono ?_
    rintro e w2 ⟨rfl, hb0⟩
    have hB2 := hid (hB.out.trans (hb0.mono hB.out.size))
    have kp2 := hid (kp.out.below_all hb0)
    clear hb0 p0 p1 p2
    have p0 := kp2.out.cell 0
    have p1 := kp2.out.cell 1
    have p2 := kp2.out.cell 2
    simp only [List.getElem?_toArray, List.getElem?_cons_zero, List.getElem?_cons_succ] at p0 p1 p2
    go_wp2_with fail
    refine (hfi.out _ hB2.out).mono ?_
    rintro e w3 ⟨hb0, A, c, rfl, hown0⟩
    have hB3 := hid (hB2.out.trans (hb0.mono hB2.out.size))
    have hown := hid (own_base (base' := w.heap.size) hB2.out.size hown0)
    clear hb0 hown0
    go_wp2_with fail
    go_ret
    exact ⟨_, rfl, hown.out, hB3.out⟩
  · have hdp : Hid (p.deps = []) := hid (by unfold Pr.deps; rw [if_pos hc])
    have t1 : (p.check.1 == 0) = false := by simpa using hc
    have t2 : (p.check.1 != 0) = true := by simpa using hc
    clear hc
    go_enter Try.func19, Try.ntmps19
    go_upto_region 1 with fail
    generalize w.alloc (.cells #[.int .i64 p.args, .slice A1 p.cs.length c1, .slice A2 p.code.length c2] 29) = w1 at *
    have p0 := kp.out.cell 0
    have p1 := kp.out.cell 1
    have p2 := kp.out.cell 2
    simp only [List.getElem?_toArray, List.getElem?_cons_zero, List.getElem?_cons_succ] at p0 p1 p2
    go_wp2_with fail
    refine (hfo.out _ hB.out).mono ?_
    rintro e w2 ⟨rfl, hb0⟩
    have hB2 := hid (hB.out.trans (hb0.mono hB.out.size))
    clear hb0
    go_wp2_with fail
    go_ret
    rw [hdp.out]
    exact ⟨_, rfl, cloned_nil _ _ _ _ hB2.out⟩

end Go.Proofs.Ytbakfkhmopebnaa

namespace Go.Proofs.Ytbakfkhmopebnaa
open Go.RowKit
set_option linter.unusedVariables false
set_option linter.unusedSimpArgs false

theorem form_of_check {p : Pr} (h : p.check.1 = 0) : p.form.1 = 0 := (deps_len h).choose_spec.2.1
theorem vput_most (v : Vl) : (vput v).length ≤ 100 := by
  unfold vput
  split
  · rename_i h
    split
    · have := (putF_len 9 (zig v.n)).2; unfold putU; simp; omega
    · split
      · rename_i h1 h2
        have h3 := (putF_len 9 v.s.size).2
        have h4 : v.s.size ≤ 64 := by
          unfold Vl.ok at h
          rw [if_neg (by omega), if_neg h1, if_pos h2] at h
          simp at h
          exact h.2.1
        have h5 := tb_len v.s
        unfold putU; simp; omega
      · simp
  · simp
set_option maxRecDepth 100000 in
set_option maxHeartbeats 2000000 in
theorem pput_bad (S S' : Nat → Prop) (A0 A1 A2 : Option Addr) (c0 c1 c2 : Nat) (bs : List Nat) (p : Pr) (w : World) (hp : PrIn S' w A1 A2 p) (hc : p.check.1 ≠ 0) :
    Calls Try.prog 21 #[.slice A0 bs.length c0, .agg #[.int .i64 p.args, .slice A1 p.cs.length c1, .slice A2 p.code.length c2]] w fun e w' => e = .returned (.tuple #[.slice none 0 0, .int .i64 p.check.1]) ∧ Below w.heap.size w w' := by
  have hB0 : Below w.heap.size w (w.alloc (.cells #[.int .i64 p.args, .slice A1 p.cs.length c1, .slice A2 p.code.length c2] 29)) := (Below.refl _ _).alloc (Nat.le_refl _) _
  have kp0 := Blk.new w 29 #[.int .i64 p.args, .slice A1 p.cs.length c1, .slice A2 p.code.length c2]
  have hch := hid (check_any p S' A1 A2 c1 c2 _ (hp.below hB0))
  have hB := hid hB0
  have kp := hid kp0
  have t1 : (p.check.1 == 0) = false := by simpa using hc
  have t2 : (p.check.1 != 0) = true := by simpa using hc
  clear hB0 kp0 hp hc
  go_enter Try.func21, Try.ntmps21
  go_upto_region 1 with fail
  generalize w.alloc (.cells #[.int .i64 p.args, .slice A1 p.cs.length c1, .slice A2 p.code.length c2] 29) = W1 at *
  have p0 := kp.out.cell 0
  have p1 := kp.out.cell 1
  have p2 := kp.out.cell 2
  simp only [List.getElem?_toArray, List.getElem?_cons_zero, List.getElem?_cons_succ] at p0 p1 p2
  go_wp2_with fail
  refine hch.out.mono ?_
  rintro e w2 ⟨rfl, hb0⟩
  have hb := hid (hB.out.trans (hb0.mono hB.out.size))
  clear hb0
  go_wp2_with fail
  go_ret2
  exact ⟨rfl, hb.out⟩
set_option maxRecDepth 100000 in
set_option maxHeartbeats 2000000 in
theorem pput_any (S S' : Nat → Prop) (A0 A1 A2 : Option Addr) (c0 c1 c2 : Nat) (bs : List Nat) (p : Pr) (w : World) (ha : Rd S w 1 A0 bs.length (bcells bs)) (hp : PrIn S' w A1 A2 p) (hr : ∀ v ∈ p.cs, v.rng) (hl : bs.length ≤ 100000000) (hc : p.check.1 = 0) :
    Calls Try.prog 21 #[.slice A0 bs.length c0, .agg #[.int .i64 p.args, .slice A1 p.cs.length c1, .slice A2 p.code.length c2]] w fun e w' => Below w.heap.size w w' ∧ ∃ A c, e = .returned (.tuple #[.slice A (bs ++ p.put).length c, .int .i64 0]) ∧ w'.ownsRow w.heap.size 5 1 (.slice A (bs ++ p.put).length c) (bs ++ p.put).length (bcells (bs ++ p.put)) := by
  obtain ⟨ib, hb0, hb1, hb2, hb3⟩ := info_parts info_u8
  obtain ⟨ha0, ha8, hcs, hcv, hk0, hk8, hiv⟩ := form_ok (form_of_check hc)
  obtain ⟨a, hae⟩ : ∃ a : Nat, p.args = (a : Int) := ⟨p.args.toNat, by omega⟩
  have hB0 : Below w.heap.size w (w.alloc (.cells #[.int .i64 p.args, .slice A1 p.cs.length c1, .slice A2 p.code.length c2] 29)) := (Below.refl _ _).alloc (Nat.le_refl _) _
  have hz0 : (w.alloc (.cells #[.int .i64 p.args, .slice A1 p.cs.length c1, .slice A2 p.code.length c2] 29)).heap.size = w.heap.size + 1 := by simp
  have kp0 := Blk.new w 29 #[.int .i64 p.args, .slice A1 p.cs.length c1, .slice A2 p.code.length c2]
  have hgw0 : w.heap.size < (w.alloc (.cells #[.int .i64 p.args, .slice A1 p.cs.length c1, .slice A2 p.code.length c2] 29)).heap.size := by simp
  have hp1 := hp.below hB0
  obtain ⟨L1, hL1⟩ : ∃ L, L = bs ++ putU a := ⟨_, rfl⟩
  obtain ⟨L2, hL2⟩ : ∃ L, L = L1 ++ putU p.cs.length := ⟨_, rfl⟩
  obtain ⟨L3, hL3⟩ : ∃ L, L = L2 ++ p.cs.flatMap vput := ⟨_, rfl⟩
  obtain ⟨L4, hL4⟩ : ∃ L, L = L3 ++ putU p.code.length := ⟨_, rfl⟩
  have hl1 : L1.length ≤ bs.length + 10 := by have := (putF_len 9 a).2; rw [hL1, List.length_append]; unfold putU; omega
  have hl2 : L2.length ≤ bs.length + 20 := by have := (putF_len 9 p.cs.length).2; rw [hL2, List.length_append]; unfold putU; omega
  have hch := hid (fun W (h : Below (w.alloc (.cells #[.int .i64 p.args, .slice A1 p.cs.length c1, .slice A2 p.code.length c2] 29)).heap.size (w.alloc (.cells #[.int .i64 p.args, .slice A1 p.cs.length c1, .slice A2 p.code.length c2] 29)) W) => check_any p S' A1 A2 c1 c2 W (hp1.below h))
  have hHP := hid (fun W (h : Below (w.alloc (.cells #[.int .i64 p.args, .slice A1 p.cs.length c1, .slice A2 p.code.length c2] 29)).heap.size (w.alloc (.cells #[.int .i64 p.args, .slice A1 p.cs.length c1, .slice A2 p.code.length c2] 29)) W) => hp1.below h)
  have hra := hid (fun W (h : Below (w.alloc (.cells #[.int .i64 p.args, .slice A1 p.cs.length c1, .slice A2 p.code.length c2] 29)).heap.size (w.alloc (.cells #[.int .i64 p.args, .slice A1 p.cs.length c1, .slice A2 p.code.length c2] 29)) W) => (ha.below_all hB0).below_all h)
  have hfin : Hid (L4 ++ p.code.flatMap iput = bs ++ p.put) := hid (by
    rw [hL4, hL3, hL2, hL1]
    unfold Pr.put
    rw [hae]
    simp)
  have hB := hid hB0; have kp := hid kp0; have hgw := hid hgw0; have hRng := hid hr; have hCv := hid hcv; have hIv := hid hiv
  have hck := hid hc
  have hl1' := hid hl1; have hl2' := hid hl2; have hbl := hid hl; have hL1' := hid hL1; have hL2' := hid hL2; have hL3' := hid hL3; have hL4' := hid hL4
  have f1 : IntKind.u64.wrap (a : Int) = (a : Int) := by rw [IntKind.wrap_u64]; omega
  have f2 : IntKind.u64.wrap (p.cs.length : Int) = (p.cs.length : Int) := by rw [IntKind.wrap_u64]; omega
  have f3 : IntKind.u64.wrap (p.code.length : Int) = (p.code.length : Int) := by rw [IntKind.wrap_u64]; omega
  have hAE := hid hae
  have hcs' := hid hcs; have hk8' := hid hk8; have ha8' : Hid (a ≤ 8) := hid (by omega)
  generalize hLF : bs ++ p.put = LF at *
  clear hLF
  clear hae ha hp hr hl hc ha0 ha8 hcs hcv hk0 hk8 hiv hB0 hz0 kp0 hgw0 hp1 hL1 hL2 hL3 hL4 hl1 hl2
  go_enter Try.func21, Try.ntmps21
  go_upto_region 1 with fail
  generalize w.alloc (.cells #[.int .i64 p.args, .slice A1 p.cs.length c1, .slice A2 p.code.length c2] 29) = W1 at *
  have p0 := kp.out.cell 0
  have p1 := kp.out.cell 1
  have p2 := kp.out.cell 2
  simp only [List.getElem?_toArray, List.getElem?_cons_zero, List.getElem?_cons_succ] at p0 p1 p2
  go_wp2_with fail
  refine (hch.out _ (Below.refl _ _)).mono ?_
  rintro e w2 ⟨rfl, hb20⟩
  have hB2 := hid hb20
  have kp2 := hid (kp.out.below_all hb20)
  have hck := hck.out
  clear hb20 p0 p1 p2 hch
  go_upto_region 4 with fail
  have p0 := kp2.out.cell 0
  have p1 := kp2.out.cell 1
  have p2 := kp2.out.cell 2
  simp only [List.getElem?_toArray, List.getElem?_cons_zero, List.getElem?_cons_succ] at p0 p1 p2
  rw [hAE.out] at p0
  have hcl := hid (putUint_any S A0 c0 bs a w2 (hra.out _ hB2.out) (by have := ha8'.out; omega) (by have := hbl.out; omega))
  rw [← hL1'.out] at hcl
  go_wp2_with fail
  refine hcl.out.mono ?_
  rintro e w3 ⟨v, rfl, hown0, hb0⟩
  obtain ⟨A3, c3, rfl, _⟩ := own_form hown0
  have hown3 := hid (own_base (base' := W1.heap.size) hB2.out.size hown0)
  have hB3 := hid (hB2.out.trans (hb0.mono hB2.out.size))
  have kp3 := hid (kp.out.below_all hB3.out)
  clear hown0 hb0 p0 p1 p2 hcl
  have p0 := kp3.out.cell 0
  have p1 := kp3.out.cell 1
  have p2 := kp3.out.cell 2
  simp only [List.getElem?_toArray, List.getElem?_cons_zero, List.getElem?_cons_succ] at p0 p1 p2
  have hcl := hid (putUint_any _ A3 c3 L1 p.cs.length w3 (Rd.of_own' hown3.out) (by have := hcs'.out; omega) (by have := hl1'.out; have := hbl.out; omega))
  rw [← hL2'.out] at hcl
  go_wp2_with fail
  refine hcl.out.mono ?_
  rintro e w4 ⟨v, rfl, hown0, hb0⟩
  obtain ⟨A4, c4, rfl, _⟩ := own_form hown0
  have hown4 := hid (own_base (base' := W1.heap.size) hB3.out.size hown0)
  have hB4 := hid (hB3.out.trans (hb0.mono hB3.out.size))
  have kp4 := hid (kp.out.below_all hB4.out)
  clear hown0 hb0 p0 p1 p2 hcl
  have p0 := kp4.out.cell 0
  have p1 := kp4.out.cell 1
  have p2 := kp4.out.cell 2
  simp only [List.getElem?_toArray, List.getElem?_cons_zero, List.getElem?_cons_succ] at p0 p1 p2
  go_wp2_with fail
  go_loopw [0, 34] (fun t v wr => ∃ (k : Nat) (A : Option Addr) (c : Nat) (L : List Nat), v = .int .i64 k ∧ t = .slice A L.length c ∧ k ≤ p.cs.length ∧ L ++ (p.cs.drop k).flatMap vput = L3 ∧ L.length ≤ bs.length + 20 + 100 * k ∧ wr.ownsRow W1.heap.size 5 1 (.slice A L.length c) L.length (bcells L) ∧ Below W1.heap.size W1 wr) (fun t v _ => p.cs.length - (intOf v).toNat)
  case atStart => exact ⟨0, A4, c4, L2, rfl, rfl, Nat.zero_le _, by rw [hL3'.out]; rfl, by have := hl2'.out; omega, hown4.out, hB4.out⟩
  case round =>
    clear hown3 hown4 hB2 hB3 hB4 kp2 kp3 kp4 p0 p1 p2
    obtain ⟨k, A, c, L, rfl, rfl, hk, hL0, hLl0, hown0, hBr0⟩ := hrel
    have hown := hid hown0; have hBr := hid hBr0; have hLl := hid hLl0; have hLe := hid hL0
    clear hL0 hLl0 hown0 hBr0
    by_cases hlt : k < p.cs.length
    · have i1 : (k : Int) < (p.cs.length : Int) := by omega
      obtain ⟨b, o, hA, hbw, a0, a1, a2⟩ := (hHP.out _ hBr.out).c.val_at hlt
      have hvs := (hHP.out _ hBr.out).t _ (List.getElem_mem hlt)
      have hvr := hRng.out _ (List.getElem_mem hlt)
      have hk32 : (p.cs.length : Int) ≤ 32 := by have := hcs'.out; omega
      subst hA
      have hnx : Hid ((L ++ vput p.cs[k]) ++ (p.cs.drop (k + 1)).flatMap vput = L3) := hid (by
        rw [← hLe.out, List.drop_eq_getElem_cons hlt, List.flatMap_cons, List.append_assoc])
      generalize p.cs[k] = v at *
      obtain ⟨L5, hL5⟩ : ∃ L5, L5 = L ++ vput v := ⟨_, rfl⟩
      rw [← hL5] at hnx
      have hl5 : Hid (L5.length ≤ bs.length + 20 + 100 * (k + 1)) := hid (by have := hLl.out; have := vput_most v; rw [hL5, List.length_append]; omega)
      have kv := Blk.new wr 51 #[.int .i64 v.k, .int .i64 v.n, .string v.s]
      have hB1 := hid (hBr.out.alloc hBr.out.size (.cells #[.int .i64 v.k, .int .i64 v.n, .string v.s] 51))
      have hcl := hid (vput_any _ A c L v (wr.alloc (.cells #[.int .i64 v.k, .int .i64 v.n, .string v.s] 51)) (Rd.of_own' (hown.out.alloc _)) hvs hvr.1 hvr.2 (by have := hLl.out; have := hbl.out; omega))
      rw [← hL5] at hcl
      have v0 := kv.cell 0
      have v1 := kv.cell 1
      have v2 := kv.cell 2
      simp only [List.getElem?_toArray, List.getElem?_cons_zero, List.getElem?_cons_succ] at v0 v1 v2
      clear kv hvs hvr hL5
      go_upto_region 9 with fail
      generalize wr.alloc (.cells #[.int .i64 v.k, .int .i64 v.n, .string v.s] 51) = w3 at *
      clear a0 a1 a2
      go_wp2_with fail
      refine hcl.out.mono ?_
      rintro e w4 ⟨x, rfl, hown40, hb40⟩
      obtain ⟨A5, c5, rfl, _⟩ := own_form hown40
      have hown5 := hid (own_base (base' := W1.heap.size) hB1.out.size hown40)
      have hB5 := hid (hB1.out.trans (hb40.mono hB1.out.size))
      clear hown40 hb40 v0 v1 v2 hcl
      go_wp2_with fail
      go_roundw
      case rel => exact ⟨k + 1, A5, c5, L5, by go_num, rfl, hlt, hnx.out, hl5.out, hown5.out, hB5.out⟩
      case measure => simp [intOf]; omega
    · have hke : k = p.cs.length := by omega
      have hLe3 : L = L3 := by have := hLe.out; rw [hke, List.drop_eq_nil_of_le (Nat.le_refl _)] at this; simpa using this
      have i1 : ¬ ((k : Int) < (p.cs.length : Int)) := by omega
      subst hLe3
      have hl3 : Hid (L.length ≤ bs.length + 4000) := hid (by have := hLl.out; have := hcs'.out; omega)
      have hl4 : Hid (L4.length ≤ bs.length + 4020) := hid (by have := hl3.out; have := (putF_len 9 p.code.length).2; rw [hL4'.out, List.length_append]; unfold putU; omega)
      have hcl := hid (putUint_any _ A c L p.code.length wr (Rd.of_own' hown.out) (by have := hk8'.out; omega) (by have := hl3.out; have := hbl.out; omega))
      rw [← hL4'.out] at hcl
      have kpr := hid (kp.out.below_all hBr.out)
      clear hke hk
      go_upto_region 11 with fail
      have p0 := kpr.out.cell 0
      have p1 := kpr.out.cell 1
      have p2 := kpr.out.cell 2
      simp only [List.getElem?_toArray, List.getElem?_cons_zero, List.getElem?_cons_succ] at p0 p1 p2
      go_wp2_with fail
      refine hcl.out.mono ?_
      rintro e w3 ⟨v, rfl, hown0, hb0⟩
      obtain ⟨A3, c3, rfl, _⟩ := own_form hown0
      have hown3 := hid (own_base (base' := W1.heap.size) hBr.out.size hown0)
      have hB3 := hid (hBr.out.trans (hb0.mono hBr.out.size))
      have kp3 := hid (kp.out.below_all hB3.out)
      clear hown0 hb0 p0 p1 p2 hcl
      have p0 := kp3.out.cell 0
      have p1 := kp3.out.cell 1
      have p2 := kp3.out.cell 2
      simp only [List.getElem?_toArray, List.getElem?_cons_zero, List.getElem?_cons_succ] at p0 p1 p2
      go_wp2_with fail
      go_loopw [0, 51] (fun t v wx => ∃ (k : Nat) (A : Option Addr) (c : Nat) (L : List Nat), v = .int .i64 k ∧ t = .slice A L.length c ∧ k ≤ p.code.length ∧ L ++ (p.code.drop k).flatMap iput = LF ∧ L.length ≤ bs.length + 4020 + 20 * k ∧ wx.ownsRow W1.heap.size 5 1 (.slice A L.length c) L.length (bcells L) ∧ Below W1.heap.size W1 wx) (fun t v _ => p.code.length - (intOf v).toNat)
      case atStart => exact ⟨0, A3, c3, L4, rfl, rfl, Nat.zero_le _, by rw [← hfin.out]; rfl, by have := hl4.out; omega, hown3.out, hB3.out⟩
      case round =>
        clear hown3 hB3 kp3 p0 p1 p2 hown hBr hLl hLe kpr
        obtain ⟨k, A, c, L, rfl, rfl, hk, hL0, hLl0, hown0, hBr0⟩ := hrel
        have hown := hid hown0; have hBr := hid hBr0; have hLl := hid hLl0; have hLe := hid hL0
        clear hL0 hLl0 hown0 hBr0
        by_cases hlt : k < p.code.length
        · have i1 : (k : Int) < (p.code.length : Int) := by omega
          obtain ⟨b, o, hA, hbl', a0, a1⟩ := (hHP.out _ hBr.out).i.ins_at hlt
          have hiv := hIv.out _ (List.getElem_mem hlt)
          have hmo := most_le (form_of_check hck) p.code[k].op
          subst hA
          have hnx : Hid ((L ++ iput p.code[k]) ++ (p.code.drop (k + 1)).flatMap iput = LF) := hid (by
            rw [← hLe.out, List.drop_eq_getElem_cons hlt, List.flatMap_cons, List.append_assoc])
          generalize p.code[k] = i at *
          obtain ⟨opv, nv⟩ := i
          simp only at a0 a1 hiv hmo hnx
          have hop := hiv.1
          unfold isOp at hop
          simp only [Bool.and_eq_true, decide_eq_true_eq] at hop
          obtain ⟨q, rfl⟩ : ∃ q : Nat, opv = (q : Int) := ⟨opv.toNat, by omega⟩
          obtain ⟨m, rfl⟩ : ∃ m : Nat, nv = (m : Int) := ⟨nv.toNat, by omega⟩
          have hm256 : Hid (m ≤ 256) := hid (by omega)
          have f5 : IntKind.u8.wrap (q : Int) = (q : Int) := by rw [u8_wrap]; omega
          have f6 : IntKind.u64.wrap (m : Int) = (m : Int) := by rw [IntKind.wrap_u64]; omega
          have hk256 : (p.code.length : Int) ≤ 256 := by have := hk8'.out; omega
          obtain ⟨L5, hL5⟩ : ∃ L5, L5 = L ++ iput ⟨(q : Int), (m : Int)⟩ := ⟨_, rfl⟩
          rw [← hL5] at hnx
          have hL5e : L5 = L ++ q :: putU m := by rw [hL5]; unfold iput; simp
          have hl5 : Hid (L5.length ≤ bs.length + 4020 + 20 * (k + 1)) := hid (by have := hLl.out; have := (putF_len 9 m).2; rw [hL5e, List.length_append, List.length_cons]; unfold putU; omega)
          have kv := Blk.new wr 49 #[.int .i64 (q : Nat), .int .i64 (m : Nat)]
          have hB1 := hid (hBr.out.alloc hBr.out.size (.cells #[.int .i64 (q : Nat), .int .i64 (m : Nat)] 49))
          have hown1 := hid (hown.out.alloc (.cells #[.int .i64 (q : Nat), .int .i64 (m : Nat)] 49))
          have hgx0 : wr.heap.size < (wr.alloc (.cells #[.int .i64 (q : Nat), .int .i64 (m : Nat)] 49)).heap.size := by simp
          have hgx := hid hgx0
          have kvh := hid kv
          have hLb : Hid (L.length ≤ 200000000) := hid (by have := hLl.out; have := hbl.out; have := hk8'.out; omega)
          clear kv hiv hmo hop hL5 hgx0
          go_upto_region 15 with fail
          generalize wr.alloc (.cells #[.int .i64 (q : Nat), .int .i64 (m : Nat)] 49) = w3 at *
          clear a0 a1
          have y0 := kvh.out.cell 0
          have y1 := kvh.out.cell 1
          simp only [List.getElem?_toArray, List.getElem?_cons_zero, List.getElem?_cons_succ] at y0 y1
          have hcon : Hid (∀ (A : Option Addr) (c : Nat) (W : World), Rd (fun b => W1.heap.size ≤ b) W 1 A (L.length + 1) (bcells L ++ [.int .u8 (q : Nat)]) → Calls Try.prog 40 #[.slice A (L.length + 1) c, .int .u64 (m : Nat)] W fun e w' => ∃ x, e = .returned x ∧ Cloned 5 1 (bcells L5) L5.length W x w') := hid fun A c W h => by
            have h2 : Rd (fun b => W1.heap.size ≤ b) W 1 A (L ++ [q]).length (bcells (L ++ [q])) := by rw [bcells_snoc, List.length_append]; exact h
            have h3 := putUint_any _ A c (L ++ [q]) m W h2 (by have := hm256.out; omega) (by simp; have := hLb.out; omega)
            have hl1 : (L ++ [q]).length = L.length + 1 := by simp
            rw [List.append_assoc, hl1] at h3
            rw [hL5e]
            exact h3
          clear hL5e
          have z0 : (w3.alloc (.cells #[.int .u8 (q : Nat)] 5)).cell? ⟨wr.heap.size, 0, none⟩ = some (.int .i64 (q : Nat)) ∧ (w3.alloc (.cells #[.int .u8 (q : Nat)] 5)).cell? ⟨wr.heap.size, 1, none⟩ = some (.int .i64 (m : Nat)) := ⟨(kvh.out.alloc _).cell 0, (kvh.out.alloc _).cell 1⟩
          go_region_held3 (fun w' => w'.cell? ⟨wr.heap.size, 0, none⟩ = some (.int .i64 (q : Nat)) ∧ w'.cell? ⟨wr.heap.size, 1, none⟩ = some (.int .i64 (m : Nat))) (first | exact ⟨y0, y1⟩ | exact z0 | exact z1 | exact z2)
            ((first
              | (go_at_call 40
                 refine (hcon.out A4 c4 _ hrd4.out).mono ?_
                 rintro e w5 ⟨v, rfl, hown50, hb50⟩
                 have hb5 := hid (hb4.out.trans (hb50.mono hb4.out.size))
                 have hown5 := hid (own_base (base' := W1.heap.size) hb4.out.size hown50)
                 have kv5 := hb4k.out.below_all hb50
                 have z2 : w5.cell? ⟨wr.heap.size, 0, none⟩ = some (.int .i64 (q : Nat)) ∧ w5.cell? ⟨wr.heap.size, 1, none⟩ = some (.int .i64 (m : Nat)) := ⟨kv5.cell 0, kv5.cell 1⟩
                 clear hown50 hb50 kv5)
              | (refine step_append_rd (w3.alloc (.cells #[.int .u8 (q : Nat)] 5)).drew rfl (.tmp 55) (.tmp 59) 39 rfl W1.heap.size 5 ib _ 1 1 Try.underlying39 hb0 hb1 hb2 hb3 rfl (by omega) (.slice A L.length c) L.length (bcells L) rfl (World.ownsRow.drew (hown1.out.alloc _)) (fun b => b = w3.heap.size) (some ⟨w3.heap.size, 0, none⟩) 1 1 [.int .u8 (q : Nat)] rfl (Rd.new w3 5 1 1 #[.int .u8 (q : Nat)] w3.heap.size rfl rfl).drew (by intro u hu; simp at hu; subst hu; rfl) (by simp only [maxLen]; have := hLb.out; omega) (by have := hLb.out; omega) (by have := hB1.out.size; simp; omega) (L.length + 1) rfl (bcells L ++ [.int .u8 (q : Nat)]) rfl ?_
                 intro A4 c4 w4 hown40 hg4 hat4
                 have hb40 := ((hB1.out.alloc hB1.out.size (.cells #[.int .u8 (q : Nat)] 5)).drew).grown hg4 (by have := hB1.out.size; simp; omega) fun k hk => (hown1.out.lt k hk).1
                 have hb4 := hid hb40
                 have hne4 : ∀ j, (Value.slice A L.length c).ownBlock = some j → j ≠ wr.heap.size := fun j hj he => by have := (hown.out.lt j hj).2; omega
                 have kv4 : Blk w4 wr.heap.size 49 #[.int .i64 (q : Nat), .int .i64 (m : Nat)] := by
                   have hu := (((Upd.refl (fun k => (Value.slice A L.length c).ownBlock = some k) w3).alloc (.cells #[.int .u8 (q : Nat)] 5)).drew).grown hg4 fun k hk _ => hk
                   exact kvh.out.upd hu fun h => hne4 _ h rfl
                 have hb4k := hid kv4
                 have z1 : w4.cell? ⟨wr.heap.size, 0, none⟩ = some (.int .i64 (q : Nat)) ∧ w4.cell? ⟨wr.heap.size, 1, none⟩ = some (.int .i64 (m : Nat)) := ⟨kv4.cell 0, kv4.cell 1⟩
                 have hrd4 := hid (Rd.of_own' hown40)
                 clear hb40 hg4 hat4 hne4 kv4)))
          all_goals
            clear y0 y1 z0
            obtain ⟨A9, c9, rfl, _⟩ := own_form hown5.out
            go_wp2_with fail
            go_roundw
            case rel => exact ⟨k + 1, A9, c9, L5, by go_num, rfl, hlt, hnx.out, hl5.out, hown5.out, hb5.out⟩
            case measure => simp [intOf]; omega
        · have hke : k = p.code.length := by omega
          have hLe3 : L = LF := by have := hLe.out; rw [hke, List.drop_eq_nil_of_le (Nat.le_refl _)] at this; simpa using this
          have i1 : ¬ ((k : Int) < (p.code.length : Int)) := by omega
          have hBf := hid (hB.out.trans (hBr.out.mono (by have := hgw.out; omega)))
          have hLf := hid hLe3
          clear hk hke hLe3
          go_wp2_with fail
          go_ret2
          have hL9 := hLf.out
          clear hLf
          subst hL9
          have hof := own_base (base' := w.heap.size) (Nat.le_of_lt hgw.out) hown.out
          exact ⟨hBf.out, A, c, rfl, hof⟩

end Go.Proofs.Ytbakfkhmopebnaa

namespace Go.Proofs.Ytbakfkhmopebnaa
open Go.RowKit
set_option linter.unusedVariables false
set_option linter.unusedSimpArgs false

def homeP : Pr := ⟨0, [⟨1, 5, ⟨#[]⟩⟩], [⟨1, 0⟩, ⟨29, 0⟩, ⟨31, 0⟩]⟩
def dropP : Pr := ⟨0, [], [⟨4, 0⟩]⟩
theorem home_chk : homeP.check = (0, 0) := by decide +kernel
theorem drop_chk : dropP.check = (55, 0) := by decide +kernel
theorem home_deps : homeP.deps = [0, 1, 0] := by decide +kernel
theorem home_rng : ∀ v ∈ homeP.cs, v.rng := fun v hv => by
  simp only [homeP, List.mem_singleton] at hv
  subst hv
  exact ⟨by decide, by decide⟩
theorem home_put : getP homeP.put = .inl homeP := get_put (by rw [home_chk]) home_rng
def HomeAt (w : World) (b1 b2 : Nat) : Prop := Blk w b1 51 #[.int .i64 1, .int .i64 5, .string ⟨#[]⟩] ∧ Blk w b2 49 #[.int .i64 1, .int .i64 0, .int .i64 29, .int .i64 0, .int .i64 31, .int .i64 0]
theorem HomeAt.prIn {w : World} {b1 b2 : Nat} (h : HomeAt w b1 b2) : PrIn (fun _ => True) w (some ⟨b1, 0, none⟩) (some ⟨b2, 0, none⟩) homeP := by
  refine ⟨⟨rfl, fun _ => ⟨b1, 0, rfl, trivial, h.1.lt, fun j u hu => ?_⟩⟩, ⟨rfl, fun _ => ⟨b2, 0, rfl, trivial, h.2.lt, fun j u hu => ?_⟩⟩, fun v hv => ?_, ⟨by decide, by decide⟩⟩
  · rw [Nat.zero_add, h.1.cell j, ← Array.getElem?_toList]; exact hu
  · rw [Nat.zero_add, h.2.cell j, ← Array.getElem?_toList]; exact hu
  · simp only [homeP, List.mem_singleton] at hv
    subst hv
    simp [ByteArray.size]
theorem HomeAt.below {w w' : World} {b1 b2 : Nat} (h : HomeAt w b1 b2) (hb : Below w.heap.size w w') : HomeAt w' b1 b2 := ⟨h.1.below_all hb, h.2.below_all hb⟩
set_option maxRecDepth 100000 in
theorem home_any (w : World) : Calls Try.prog 33 #[] w fun e w' => ∃ b1 b2, e = .returned (.agg #[.int .i64 0, .slice (some ⟨b1, 0, none⟩) 1 1, .slice (some ⟨b2, 0, none⟩) 3 3]) ∧ HomeAt w' b1 b2 ∧ Below w.heap.size w w' := by
  obtain ⟨W, hW⟩ : ∃ W, W = w.alloc (.cells #[.int .i64 0, .slice none 0 0, .slice none 0 0] 29) := ⟨_, rfl⟩
  have hB0 : Hid (Below w.heap.size w W) := hid (by subst hW; exact (Below.refl _ _).alloc (Nat.le_refl _) _)
  have kz : Hid (Blk W w.heap.size 29 #[.int .i64 0, .slice none 0 0, .slice none 0 0]) := hid (by subst hW; exact Blk.new w _ _)
  obtain ⟨b1, hb1⟩ : ∃ b, b = W.heap.size := ⟨_, rfl⟩
  obtain ⟨b2, hb2⟩ : ∃ b, b = W.heap.size + 1 := ⟨_, rfl⟩
  obtain ⟨W1, hW1⟩ : ∃ W1, W1 = ((W.setCell ⟨w.heap.size, 0, none⟩ (.int .i64 0)).setCell ⟨w.heap.size, 1, none⟩ (.slice (some ⟨b1, 0, none⟩) 1 1)).setCell ⟨w.heap.size, 2, none⟩ (.slice (some ⟨b2, 0, none⟩) 3 3) := ⟨_, rfl⟩
  have hz1 : W1.heap.size = W.heap.size := by subst hW1; simp [World.setCell]
  have hB1 : Below w.heap.size w W1 := by subst hW1; exact ((hB0.out.setCell (p := ⟨w.heap.size, 0, none⟩) (Nat.le_refl _) _).setCell (p := ⟨w.heap.size, 1, none⟩) (Nat.le_refl _) _).setCell (p := ⟨w.heap.size, 2, none⟩) (Nat.le_refl _) _
  have kz1 : Blk W1 w.heap.size 29 #[.int .i64 0, .slice (some ⟨b1, 0, none⟩) 1 1, .slice (some ⟨b2, 0, none⟩) 3 3] := by subst hW1; simpa using ((kz.out.set_ 0 (.int .i64 0)).set_ 1 (.slice (some ⟨b1, 0, none⟩) 1 1)).set_ 2 (.slice (some ⟨b2, 0, none⟩) 3 3)
  obtain ⟨W2, hW2⟩ : ∃ W2, W2 = (W1.alloc (.cells #[.int .i64 1, .int .i64 5, .string ⟨#[]⟩] 51)).alloc (.cells #[.int .i64 1, .int .i64 0, .int .i64 29, .int .i64 0, .int .i64 31, .int .i64 0] 49) := ⟨_, rfl⟩
  have hB2 : Below W1.heap.size W1 W2 := by subst hW2; exact ((Below.refl _ _).alloc (Nat.le_refl _) _).alloc (by simp) _
  have k1 : Hid (Blk W2 b1 51 #[.int .i64 1, .int .i64 5, .string ⟨#[]⟩]) := hid (by subst hW2; exact (Blk.new' _ _ _ (hb1.trans hz1.symm)).alloc _)
  have k2 : Hid (Blk W2 b2 49 #[.int .i64 1, .int .i64 0, .int .i64 29, .int .i64 0, .int .i64 31, .int .i64 0]) := hid (by subst hW2; exact Blk.new' _ _ _ (by simp; omega))
  have kz2 := hid (kz1.below_all hB2)
  have hB3 := hid (hB1.trans (hB2.mono hB1.size))
  clear hB1 hB2 kz1 hz1
  go_enter Try.func33, Try.ntmps33
  go_upto_region 1 with fail
  rw [← hW]
  have hlz := kz.out.lt
  have fz := fun q => kz.out.frozen q
  have x0 : W.cell? ⟨w.heap.size, 0, none⟩ = some (.int .i64 0) := kz.out.cell 0
  have x1 : W.cell? ⟨w.heap.size, 1, none⟩ = some (.slice none 0 0) := kz.out.cell 1
  have x2 : W.cell? ⟨w.heap.size, 2, none⟩ = some (.slice none 0 0) := kz.out.cell 2
  clear hW
  go_wp2_with fail
  rw [← hb2, ← hb1, ← hW1, ← hW2]
  refine bodyPost_ret (v := .agg #[.int .i64 0, .slice (some ⟨b1, 0, none⟩) 1 1, .slice (some ⟨b2, 0, none⟩) 3 3]) ?_ rfl ⟨b1, b2, rfl, ⟨k1.out, k2.out⟩, hB3.out⟩
  exact results_cell_row (P := Try.prog) rfl _ _ w.heap.size 29 _ (0, 0) _ rfl kz2.out Try.underlying29 rfl (by kernel_rfl)
theorem at_alloc {F : FuncId} {args : Array Value} {w : World} {o : Obj} {Q : Ending → World → Prop} (h : Calls Try.prog F args (w.alloc o) Q) : Calls Try.prog F args (w.alloc o) Q := h
theorem Rd.blk3 {w : World} {b : Nat} (h : Blk w b 3 #[.int .i64 0, .int .i64 1, .int .i64 0]) : Rd (fun _ => True) w 1 (some ⟨b, 0, none⟩) ([0, 1, 0] : List Int).length (([0, 1, 0] : List Int).map (Value.int .i64)) :=
  ⟨rfl, fun _ => ⟨b, 0, rfl, trivial, h.lt, fun j u hu => by rw [Nat.zero_add, h.cell j, ← Array.getElem?_toList]; exact hu⟩⟩
section
variable {w : World} {b1 b2 : Nat}
theorem home_check (h : HomeAt w b1 b2) : Calls Try.prog 14 #[.agg #[.int .i64 0, .slice (some ⟨b1, 0, none⟩) 1 1, .slice (some ⟨b2, 0, none⟩) 3 3]] w fun e w' => e = .returned (.tuple #[.int .i64 0, .int .i64 0]) ∧ Below w.heap.size w w' := by
  have := check_any homeP _ _ _ 1 3 w h.prIn
  rw [home_chk] at this
  exact this
theorem home_depths (h : HomeAt w b1 b2) : Calls Try.prog 17 #[.agg #[.int .i64 0, .slice (some ⟨b1, 0, none⟩) 1 1, .slice (some ⟨b2, 0, none⟩) 3 3]] w fun e w' => ∃ A c, e = .returned (.slice A 3 c) ∧ Rd (fun _ => True) w' 1 A 3 (([0, 1, 0] : List Int).map (Value.int .i64)) ∧ Below w.heap.size w w' := by
  have := depths_any homeP _ _ _ 1 3 w h.prIn
  rw [home_deps] at this
  refine this.mono ?_
  rintro e w' ⟨v, rfl, hown, hb⟩
  obtain ⟨A, c, rfl, _⟩ := own_form hown
  exact ⟨A, c, rfl, (Rd.of_own' hown).more fun _ _ _ => trivial, hb⟩
theorem home_putb (h : HomeAt w b1 b2) : Calls Try.prog 21 #[.slice none 0 0, .agg #[.int .i64 0, .slice (some ⟨b1, 0, none⟩) 1 1, .slice (some ⟨b2, 0, none⟩) 3 3]] w fun e w' => ∃ A c, e = .returned (.tuple #[.slice A homeP.put.length c, .int .i64 0]) ∧ Rd (fun _ => True) w' 1 A homeP.put.length (bcells homeP.put) ∧ Below w.heap.size w w' := by
  have := pput_any (fun _ => True) _ none _ _ 0 1 3 [] homeP w Rd.nil_ h.prIn home_rng (by simp) (by rw [home_chk])
  refine this.mono ?_
  rintro e w' ⟨hb, A, c, he, hown⟩
  rw [List.nil_append] at he hown
  exact ⟨A, c, he, (Rd.of_own' hown).more fun _ _ _ => trivial, hb⟩
theorem home_get {A : Option Addr} {c : Nat} (h : Rd (fun _ => True) w 1 A homeP.put.length (bcells homeP.put)) : Calls Try.prog 23 #[.slice A homeP.put.length c] w fun e w' => ∃ A1 A2 c1 c2, e = .returned (.tuple #[.agg #[.int .i64 0, .slice A1 1 c1, .slice A2 3 c2], .int .i64 0, .int .i64 0]) ∧ OwnP homeP w.heap.size w' A1 A2 c1 c2 ∧ Below w.heap.size w w' := by
  have hl : homeP.put.length ≤ 1000000 := by decide +kernel
  have hb : ∀ x ∈ homeP.put, x < 256 := by decide +kernel
  refine (get_any _ A c homeP.put w h hl hb).mono ?_
  rintro e w' ⟨hb, hg⟩
  rw [home_put] at hg
  obtain ⟨A1, A2, c1, c2, he, h1, h2, _⟩ := hg
  exact ⟨A1, A2, c1, c2, he, ⟨h1, h2⟩, hb⟩
end
theorem drop_check {w : World} {b : Nat} (h : Blk w b 49 #[.int .i64 4, .int .i64 0]) : Calls Try.prog 14 #[.agg #[.int .i64 0, .slice none 0 0, .slice (some ⟨b, 0, none⟩) 1 1]] w fun e w' => e = .returned (.tuple #[.int .i64 55, .int .i64 0]) ∧ Below w.heap.size w w' := by
  have := check_any dropP (fun _ => True) none (some ⟨b, 0, none⟩) 0 1 w ⟨Rd.nil_, ⟨rfl, fun _ => ⟨b, 0, rfl, trivial, h.lt, fun j u hu => by rw [Nat.zero_add, h.cell j, ← Array.getElem?_toList]; exact hu⟩⟩, fun v hv => (by cases hv), ⟨by decide, by decide⟩⟩
  rw [drop_chk] at this
  exact this
theorem home_t {w : World} {A1 A2 : Option Addr} {base c1 c2 : Nat} (h : OwnP homeP base w A1 A2 c1 c2) : PrIn (fun k => base ≤ k) w A1 A2 homeP :=
  h.prIn (fun v hv => by simp only [homeP, List.mem_singleton] at hv; subst hv; simp [ByteArray.size]) ⟨by decide, by decide⟩
theorem home_same {w : World} {A1 A2 : Option Addr} {base c1 c2 b1 b2 : Nat} (h : OwnP homeP base w A1 A2 c1 c2) (k : HomeAt w b1 b2) : Calls Try.prog 20 #[.agg #[.int .i64 0, .slice A1 1 c1, .slice A2 3 c2], .agg #[.int .i64 0, .slice (some ⟨b1, 0, none⟩) 1 1, .slice (some ⟨b2, 0, none⟩) 3 3]] w fun e w' => e = .returned (.bool true) ∧ Below w.heap.size w w' := by
  have := rsame_any homeP homeP _ _ A1 A2 _ _ c1 c2 1 3 w (home_t h) k.prIn
  rw [show decide (homeP = homeP) = true from decide_eq_true rfl] at this
  exact this
set_option maxRecDepth 100000 in
set_option maxHeartbeats 4000000 in
theorem live_any (w : World) : Calls Try.prog 10 #[] w fun e w' => e = .returned (.bool true) ∧ Below w.heap.size w w' := by
  go_enter Try.func10, Try.ntmps10
  go_wp2_with fail
  refine (home_any w).mono ?_
  rintro e w1 ⟨b1, b2, rfl, k10, hb10⟩
  have k1 := hid k10; have hb1 := hid hb10
  clear k10 hb10
  go_wp2_with fail
  refine (home_check k1.out).mono ?_
  rintro e w2 ⟨rfl, hb20⟩
  have hb2 := hid (hb1.out.trans (hb20.mono hb1.out.size))
  clear hb20 k1
  go_wp2_with fail
  refine (home_any w2).mono ?_
  rintro e w3 ⟨b3, b4, rfl, k30, hb30⟩
  have k3 := hid k30; have hb3 := hid (hb2.out.trans (hb30.mono hb2.out.size))
  clear k30 hb30
  go_wp2_with fail
  refine (home_putb k3.out).mono ?_
  rintro e w4 ⟨A, c, rfl, hr0, hb40⟩
  have hr := hid hr0; have hb4 := hid (hb3.out.trans (hb40.mono hb3.out.size))
  clear hr0 hb40 k3
  go_wp2_with fail
  refine (home_get (c := c) hr.out).mono ?_
  rintro e w5 ⟨A1, A2, c1, c2, rfl, ho0, hb50⟩
  have ho := hid ho0; have hb5 := hid (hb4.out.trans (hb50.mono hb4.out.size))
  clear ho0 hb50 hr
  go_upto_region 4 with fail
  obtain ⟨b5, hb5e⟩ : ∃ b, b = w5.heap.size := ⟨_, rfl⟩
  have k6 := hid (Blk.new' w5 29 #[.int .i64 0, .slice A1 1 c1, .slice A2 3 c2] hb5e)
  have hB6 : Below w5.heap.size w5 (w5.alloc (.cells #[.int .i64 0, .slice A1 1 c1, .slice A2 3 c2] 29)) := (Below.refl _ _).alloc (Nat.le_refl _) _
  have hb6 := hid (hb5.out.trans (hB6.mono hb5.out.size))
  have ho6 := hid (ho.out.below hB6)
  generalize w5.alloc (.cells #[.int .i64 0, .slice A1 1 c1, .slice A2 3 c2] 29) = w6 at *
  rw [← hb5e]
  clear hb5e hB6 ho hb5
  obtain ⟨b7, hb7e⟩ : ∃ b, b = w6.heap.size := ⟨_, rfl⟩
  have k7 := hid (Blk.new' w6 49 #[.int .i64 4, .int .i64 0] hb7e)
  have hB7 := hid (show Below w6.heap.size w6 (w6.alloc (.cells #[.int .i64 4, .int .i64 0] 49)) from (Below.refl _ _).alloc (Nat.le_refl _) _)
  go_wp2_with fail
  generalize w6.alloc (.cells #[.int .i64 4, .int .i64 0] 49) = w7 at *
  rw [← hb7e]
  refine (drop_check k7.out).mono ?_
  rintro e w8 ⟨rfl, hb80⟩
  have hB8 := hB7.out.trans (hb80.mono hB7.out.size)
  have hb8 := hid (hb6.out.trans (hB8.mono hb6.out.size))
  have ho8 := hid (ho6.out.below hB8)
  have k8 := hid (k6.out.below_all hB8)
  clear hb80 hB8 hb6 ho6 k6 k7 hB7 hb7e
  have hkeep := hid (show ∀ W, Below w8.heap.size w8 W → W.cell? ⟨b5, 0, none⟩ = some (.int .i64 0) ∧ W.cell? ⟨b5, 1, none⟩ = some (.slice A1 1 c1) ∧ W.cell? ⟨b5, 2, none⟩ = some (.slice A2 3 c2) from fun W hb => by
    have := k8.out.below_all hb
    exact ⟨this.cell 0, this.cell 1, this.cell 2⟩)
  have hbX := hid (Below.refl w8.heap.size w8)
  obtain ⟨x0, x1, x2⟩ := hkeep.out _ hbX.out
  go_upto_region 5 with fail
  go_region_held3 (fun W => W.cell? ⟨b5, 0, none⟩ = some (.int .i64 0) ∧ W.cell? ⟨b5, 1, none⟩ = some (.slice A1 1 c1) ∧ W.cell? ⟨b5, 2, none⟩ = some (.slice A2 3 c2)) (first | exact hkeep.out _ hbX.out | exact hkeep.out _ hbX.out.drew | exact hkeep.out _ (hbX.out.alloc hbX.out.size _))
    (first
      | (go_at_call 9; refine (num_any _ _).mono ?_; rintro e wb ⟨rfl, rfl⟩)
      | (go_at_call 33; refine at_alloc ?_; refine (home_any _).mono ?_; rintro e wb ⟨q1, q2, rfl, kq0, hbb⟩; have kq := hid kq0; have kbh := hid ((Blk.new' _ 3 #[.int .i64 0, .int .i64 1, .int .i64 0] rfl).below_all hbb); have hbX : Hid (Below w8.heap.size w8 wb) := hid ((hbX.out.alloc hbX.out.size _).trans (hbb.mono (Nat.le_trans hbX.out.size (by simp)))); clear hbb kq0)
      | (go_at_call 33; refine (home_any _).mono ?_; rintro e wb ⟨q1, q2, rfl, kq0, hbb⟩; have kq := hid kq0; have hbX : Hid (Below w8.heap.size w8 wb) := hid (by first | exact hbX.out.trans (hbb.mono hbX.out.size) | exact hbX.out.drew.trans (hbb.mono hbX.out.size)); clear hbb kq0)
      | (go_at_call 20; refine (home_same (ho8.out.below hbX.out) kq.out).mono ?_; rintro e wb ⟨rfl, hbb⟩; have hbX := hid (hbX.out.trans (hbb.mono hbX.out.size)); clear hbb)
      | (go_at_call 17; refine at_alloc ?_; refine (home_depths (kq.out.below ((Below.refl _ _).alloc (Nat.le_refl _) (.cells #[.int .i64 0, .int .i64 1, .int .i64 0] 3)))).mono ?_; rintro e wd ⟨DA, Dc, rfl, hd0, hbb⟩; have hd := hid hd0; have kb := hid ((Blk.new' wb 3 #[.int .i64 0, .int .i64 1, .int .i64 0] rfl).below_all hbb); have hbX : Hid (Below w8.heap.size w8 wd) := hid ((hbX.out.alloc hbX.out.size _).trans (hbb.mono (Nat.le_trans hbX.out.size (by simp)))); clear hbb hd0)
      | (go_at_call 17; refine (home_depths kq.out).mono ?_; rintro e wd ⟨DA, Dc, rfl, hd0, hbb⟩; have hd := hid hd0; have hbD := hid hbb; have hbX : Hid (Below w8.heap.size w8 wd) := hid (hbX.out.trans (hbb.mono hbX.out.size)); clear hbb hd0)
      | (go_at_call 18; refine at_alloc ?_; refine (ints_any _ _ [0, 1, 0] [0, 1, 0] _ _ _ _ _ (hd.out.alloc _) (Rd.blk3 (Blk.new _ _ _)) (by decide)).mono ?_; rintro e we ⟨rfl, hbb⟩; have hbX : Hid (Below w8.heap.size w8 we) := hid ((hbX.out.alloc hbX.out.size _).trans (hbb.mono (Nat.le_trans hbX.out.size (by simp)))); clear hbb)
      | (go_at_call 18; refine (ints_any _ _ [0, 1, 0] [0, 1, 0] _ _ _ _ _ hd.out (Rd.blk3 kb.out) (by decide)).mono ?_; rintro e we ⟨rfl, hbb⟩; have hbX : Hid (Below w8.heap.size w8 we) := hid (hbX.out.trans (hbb.mono hbX.out.size)); clear hbb)
      | (go_at_call 18; refine (ints_any _ _ [0, 1, 0] [0, 1, 0] _ _ _ _ _ hd.out (Rd.blk3 (kbh.out.below_all hbD.out)) (by decide)).mono ?_; rintro e we ⟨rfl, hbb⟩; have hbX : Hid (Below w8.heap.size w8 we) := hid (hbX.out.trans (hbb.mono hbX.out.size)); clear hbb))
  all_goals
    go_wp2_with fail
    go_ret
    exact ⟨rfl, hb8.out.trans (hbX.out.mono hb8.out.size)⟩

end Go.Proofs.Ytbakfkhmopebnaa

namespace Go.Proofs.Ytbakfkhmopebnaa
open Go.RowKit
set_option linter.unusedVariables false
set_option linter.unusedSimpArgs false

set_option maxRecDepth 100000 in
set_option maxHeartbeats 1000000 in
theorem rtake_any {S : Nat → Prop} {w : World} {g : Nat} {A : Option Addr} {c : Nat} {r : Rr} (h : RrIn S w g A c r) : Calls Try.prog 54 #[.pointer (some ⟨g, 0, none⟩)] w fun e w' => e = .returned (.agg #[.int .i64 r.take.1.k, .int .i64 r.take.1.n, .string r.take.1.s]) ∧ Upd (fun k => k = g) w w' ∧ RrIn S w' g A c r.take.2 := by
  have hne := hid h.ne
  have hgb := hid h.blk.lt
  have hb := h.bound
  have hB1 : Below w.heap.size w (w.alloc (.cells #[.int .i64 0, .int .i64 0, .string ⟨#[]⟩] 51)) := (Below.refl _ _).alloc (Nat.le_refl _) _
  have hr1 := hid (hb.below_all hB1)
  have kz := hid (Blk.new w 51 #[.int .i64 0, .int .i64 0, .string ⟨#[]⟩])
  have hu1 := hid (Upd.of_below' hB1 fun k => k = g)
  clear h hb hB1
  go_enter Try.func54, Try.ntmps54
  go_upto_region 1 with fail
  generalize w.alloc (.cells #[.int .i64 0, .int .i64 0, .string ⟨#[]⟩] 51) = w1 at *
  go_wp2_with fail
  refine (rbyte_any hr1.out).mono ?_
  rintro e w2 ⟨rfl, hu0, hr0⟩
  have kz2 := hid (kz.out.upd hu0 (by have := hgb.out; omega))
  have hr2 := hid hr0
  have hu2 := hid (hu1.out.trans hu0 fun _ _ h => h)
  clear hu0 hr0
  obtain ⟨q, r1, hq⟩ : ∃ q r1, r.byte = (q, r1) := ⟨_, _, rfl⟩
  have hbad := hid (show r1.e ≠ 0 → q = 0 from fun h => by have := Rr.byte_bad (r := r); rw [hq] at this; exact this h)
  rw [hq] at hr2
  simp only at hr2
  have hq8 := hid hq
  rw [hq]
  simp only
  go_upto_region 3 with fail
  have ht3 : Hid (TK 81 (fun k => S k ∧ k < w.heap.size) w (w2.alloc (.cells #[.int .i64 0, .int .i64 0, .string ⟨#[]⟩] 51)) g A c r1 w2.heap.size vl0 vl0) := hid ⟨hr2.out.below_all ((Below.refl _ _).alloc (Nat.le_refl _) _), fun k hk => hk.2, hgb.out, kz2.out.alloc _, Blk.new _ _ _, kz2.out.lt, hu2.out.alloc _⟩
  clear hq hr1 kz hu1 kz2 hr2 hu2
  generalize w2.alloc (.cells #[.int .i64 0, .int .i64 0, .string ⟨#[]⟩] 51) = w3 at *
  generalize w2.heap.size = y at *
  obtain ⟨e3, z0, z1, z2, y0, y1, y2, fz, fy, hlz, hly⟩ := ht3.out.cells
  have z0 : w3.cell? ⟨w.heap.size, 0, none⟩ = some (.int .i64 0) := z0
  have z1 : w3.cell? ⟨w.heap.size, 1, none⟩ = some (.int .i64 0) := z1
  have z2 : w3.cell? ⟨w.heap.size, 2, none⟩ = some (.string ⟨#[]⟩) := z2
  have y0 : w3.cell? ⟨y, 0, none⟩ = some (.int .i64 0) := y0
  have y1 : w3.cell? ⟨y, 1, none⟩ = some (.int .i64 0) := y1
  have y2 : w3.cell? ⟨y, 2, none⟩ = some (.string ⟨#[]⟩) := y2
  by_cases h0 : q = 0
  · have t0 : ((q : Int) == 0) = true := by simp [h0]
    have h0h := hid h0
    clear h0
    go_upto_region 12 with fail
    clear e3 z0 z1 z2 y0 y1 y2 fz fy hlz hly
    obtain ⟨e3, z0, z1, z2, y0, y1, y2, fz, fy, hlz, hly⟩ := ht3.out.cells
    have z0 : w3.cell? ⟨w.heap.size, 0, none⟩ = some (.int .i64 0) := z0
    have z1 : w3.cell? ⟨w.heap.size, 1, none⟩ = some (.int .i64 0) := z1
    have z2 : w3.cell? ⟨w.heap.size, 2, none⟩ = some (.string ⟨#[]⟩) := z2
    have y0 : w3.cell? ⟨y, 0, none⟩ = some (.int .i64 0) := y0
    have y1 : w3.cell? ⟨y, 1, none⟩ = some (.int .i64 0) := y1
    have y2 : w3.cell? ⟨y, 2, none⟩ = some (.string ⟨#[]⟩) := y2
    obtain ⟨re, hre⟩ : ∃ re, re = (r1).e := ⟨_, rfl⟩
    rw [← hre] at e3
    by_cases hee : re = 0
    · have te : (re != 0) = false := by simpa [hre] using hee
      have hfin : Hid (r.take = (vl0, r1)) := hid (by rw [hre] at hee; unfold Rr.take; rw [hq8.out]; simp [h0h.out])
      clear hee hre
      go_wp2_with fail
      have hT := ht3.out.putZ vl0
      refine bodyPost_ret (v := .agg #[.int .i64 0, .int .i64 0, .string ⟨#[]⟩]) ?_ rfl ⟨by first | (rw [hfin.out]; done) | (rw [hfin.out]; rfl), hT.up, by rw [hfin.out]; exact hT.rd.unbound hne.out⟩
      exact results_cell_row (P := Try.prog) rfl _ _ w.heap.size 51 _ (0, 0) _ rfl hT.zv Try.underlying51 rfl (by kernel_rfl)
    · have te : (re != 0) = true := by simpa [hre] using hee
      have hfin : Hid (r.take = (vl0, r1)) := hid (by rw [hre] at hee; unfold Rr.take; rw [hq8.out]; simp [h0h.out])
      clear hee hre
      go_wp2_with fail
      have hT := ht3.out.putZ vl0
      refine bodyPost_ret (v := .agg #[.int .i64 0, .int .i64 0, .string ⟨#[]⟩]) ?_ rfl ⟨by first | (rw [hfin.out]; done) | (rw [hfin.out]; rfl), hT.up, by rw [hfin.out]; exact hT.rd.unbound hne.out⟩
      exact results_cell_row (P := Try.prog) rfl _ _ w.heap.size 51 _ (0, 0) _ rfl hT.zv Try.underlying51 rfl (by kernel_rfl)
  · have t0 : ((q : Int) == 0) = false := by simp; omega
    by_cases h1 : q = 1
    · have t1 : ((q : Int) == 1) = true := by simp [h1]
      have h1h := hid h1
      clear h0 h1
      obtain ⟨n, r2, hi⟩ : ∃ n r2, r1.int = (n, r2) := ⟨_, _, rfl⟩
      have hih := hid hi
      go_wp2_with fail
      refine (rint_any ht3.out.rd).mono ?_
      rw [hi]
      rintro e w4 ⟨rfl, hu0, hr0⟩
      have ht4 := hid (ht3.out.call hu0 hr0)
      clear e3 z0 z1 z2 y0 y1 y2 fz fy hlz hly
      clear hu0 hr0 hi
      go_wp2_with fail
      refine (rof_any n w4).mono ?_
      rintro e w5 ⟨rfl, hb0⟩
      have ht5 := hid (ht4.out.below hb0)
      clear hb0
      obtain ⟨e3, z0, z1, z2, y0, y1, y2, fz, fy, hlz, hly⟩ := ht5.out.cells
      have z0 : w5.cell? ⟨w.heap.size, 0, none⟩ = some (.int .i64 0) := z0
      have z1 : w5.cell? ⟨w.heap.size, 1, none⟩ = some (.int .i64 0) := z1
      have z2 : w5.cell? ⟨w.heap.size, 2, none⟩ = some (.string ⟨#[]⟩) := z2
      have y0 : w5.cell? ⟨y, 0, none⟩ = some (.int .i64 0) := y0
      have y1 : w5.cell? ⟨y, 1, none⟩ = some (.int .i64 0) := y1
      have y2 : w5.cell? ⟨y, 2, none⟩ = some (.string ⟨#[]⟩) := y2
      go_upto_region 12 with fail
      have ht6 := hid (ht5.out.putY (⟨1, n, ⟨#[]⟩⟩ : Vl))
      generalize ((w5.setCell ⟨y, 0, none⟩ (.int .i64 1)).setCell ⟨y, 1, none⟩ (.int .i64 n)).setCell ⟨y, 2, none⟩ (.string ⟨#[]⟩) = w6 at *
      obtain ⟨e3, z0, z1, z2, y0, y1, y2, fz, fy, hlz, hly⟩ := ht6.out.cells
      have z0 : w6.cell? ⟨w.heap.size, 0, none⟩ = some (.int .i64 0) := z0
      have z1 : w6.cell? ⟨w.heap.size, 1, none⟩ = some (.int .i64 0) := z1
      have z2 : w6.cell? ⟨w.heap.size, 2, none⟩ = some (.string ⟨#[]⟩) := z2
      have y0 : w6.cell? ⟨y, 0, none⟩ = some (.int .i64 1) := y0
      have y1 : w6.cell? ⟨y, 1, none⟩ = some (.int .i64 n) := y1
      have y2 : w6.cell? ⟨y, 2, none⟩ = some (.string ⟨#[]⟩) := y2
      clear e3 z0 z1 z2 y0 y1 y2 fz fy hlz hly
      obtain ⟨e3, z0, z1, z2, y0, y1, y2, fz, fy, hlz, hly⟩ := ht6.out.cells
      have z0 : w6.cell? ⟨w.heap.size, 0, none⟩ = some (.int .i64 0) := z0
      have z1 : w6.cell? ⟨w.heap.size, 1, none⟩ = some (.int .i64 0) := z1
      have z2 : w6.cell? ⟨w.heap.size, 2, none⟩ = some (.string ⟨#[]⟩) := z2
      have y0 : w6.cell? ⟨y, 0, none⟩ = some (.int .i64 1) := y0
      have y1 : w6.cell? ⟨y, 1, none⟩ = some (.int .i64 n) := y1
      have y2 : w6.cell? ⟨y, 2, none⟩ = some (.string ⟨#[]⟩) := y2
      obtain ⟨re, hre⟩ : ∃ re, re = (r2).e := ⟨_, rfl⟩
      rw [← hre] at e3
      by_cases hee : re = 0
      · have te : (re != 0) = false := by simpa [hre] using hee
        have hfin : Hid (r.take = ((⟨1, n, ⟨#[]⟩⟩ : Vl), r2)) := hid (by rw [hre] at hee; unfold Rr.take; rw [hq8.out]; simp [h1h.out, hih.out, hee])
        clear hee hre
        go_wp2_with fail
        have hT := ht6.out.putZ (⟨1, n, ⟨#[]⟩⟩ : Vl)
        refine bodyPost_ret (v := .agg #[.int .i64 1, .int .i64 n, .string ⟨#[]⟩]) ?_ rfl ⟨by first | (rw [hfin.out]; done) | (rw [hfin.out]; rfl), hT.up, by rw [hfin.out]; exact hT.rd.unbound hne.out⟩
        exact results_cell_row (P := Try.prog) rfl _ _ w.heap.size 51 _ (0, 0) _ rfl hT.zv Try.underlying51 rfl (by kernel_rfl)
      · have te : (re != 0) = true := by simpa [hre] using hee
        have hfin : Hid (r.take = (vl0, r2)) := hid (by rw [hre] at hee; unfold Rr.take; rw [hq8.out]; simp [h1h.out, hih.out, hee])
        clear hee hre
        go_wp2_with fail
        have hT := ht6.out.putZ vl0
        refine bodyPost_ret (v := .agg #[.int .i64 0, .int .i64 0, .string ⟨#[]⟩]) ?_ rfl ⟨by first | (rw [hfin.out]; done) | (rw [hfin.out]; rfl), hT.up, by rw [hfin.out]; exact hT.rd.unbound hne.out⟩
        exact results_cell_row (P := Try.prog) rfl _ _ w.heap.size 51 _ (0, 0) _ rfl hT.zv Try.underlying51 rfl (by kernel_rfl)
    · have t1 : ((q : Int) == 1) = false := by simp; omega
      by_cases h2 : q = 2
      · have t2 : ((q : Int) == 2) = true := by simp [h2]
        have h2h := hid h2
        clear h0 h1 h2
        obtain ⟨s, r2, hi⟩ : ∃ s r2, r1.text 64 = (s, r2) := ⟨_, _, rfl⟩
        have hih := hid hi
        have hsz : Hid (s.size ≤ 64) := hid (by have := r1.text_le 64; rw [show ((64 : Nat) : Int) = 64 from rfl, hi] at this; exact this)
        have hsb : Hid (r2.e ≠ 0 → s = ⟨#[]⟩) := hid (fun h => by have := Rr.text_bad (r := r1) (most := 64); rw [hi] at this; exact this h)
        go_wp2_with fail
        refine (rtext_any ht3.out.rd 64 (by decide)).mono ?_
        rw [hi]
        rintro e w4 ⟨rfl, hu0, hr0⟩
        have ht4 := hid (ht3.out.call hu0 hr0)
        clear e3 z0 z1 z2 y0 y1 y2 fz fy hlz hly
        clear hu0 hr0 hi
        go_wp2_with fail
        refine (rword2_any s w4).mono ?_
        rintro e w5 ⟨rfl, hb0⟩
        have ht5 := hid (ht4.out.below hb0)
        clear hb0
        obtain ⟨e3, z0, z1, z2, y0, y1, y2, fz, fy, hlz, hly⟩ := ht5.out.cells
        have z0 : w5.cell? ⟨w.heap.size, 0, none⟩ = some (.int .i64 0) := z0
        have z1 : w5.cell? ⟨w.heap.size, 1, none⟩ = some (.int .i64 0) := z1
        have z2 : w5.cell? ⟨w.heap.size, 2, none⟩ = some (.string ⟨#[]⟩) := z2
        have y0 : w5.cell? ⟨y, 0, none⟩ = some (.int .i64 0) := y0
        have y1 : w5.cell? ⟨y, 1, none⟩ = some (.int .i64 0) := y1
        have y2 : w5.cell? ⟨y, 2, none⟩ = some (.string ⟨#[]⟩) := y2
        go_upto_region 10 with fail
        have ht6 := hid (ht5.out.putY (⟨2, 0, s⟩ : Vl))
        generalize ((w5.setCell ⟨y, 0, none⟩ (.int .i64 2)).setCell ⟨y, 1, none⟩ (.int .i64 0)).setCell ⟨y, 2, none⟩ (.string s) = w6 at *
        clear e3 z0 z1 z2 y0 y1 y2 fz fy hlz hly
        obtain ⟨e3, z0, z1, z2, y0, y1, y2, fz, fy, hlz, hly⟩ := ht6.out.cells
        have z0 : w6.cell? ⟨w.heap.size, 0, none⟩ = some (.int .i64 0) := z0
        have z1 : w6.cell? ⟨w.heap.size, 1, none⟩ = some (.int .i64 0) := z1
        have z2 : w6.cell? ⟨w.heap.size, 2, none⟩ = some (.string ⟨#[]⟩) := z2
        have y0 : w6.cell? ⟨y, 0, none⟩ = some (.int .i64 2) := y0
        have y1 : w6.cell? ⟨y, 1, none⟩ = some (.int .i64 0) := y1
        have y2 : w6.cell? ⟨y, 2, none⟩ = some (.string s) := y2
        have hg2 := hid ht6.out.gb
        obtain ⟨re, hre⟩ : ∃ re, re = r2.e := ⟨_, rfl⟩
        rw [← hre] at e3
        have hrh := hid hre
        clear hre
        by_cases he0 : re = 0
        · have te : (re == 0) = true := by simpa using he0
          have he0h := hid he0
          clear he0
          have hva := hid (rvalid_any ⟨2, 0, s⟩ w6 (by have := hsz.out; show s.size ≤ _; omega))
          go_wp2_with fail
          refine hva.out.mono ?_
          rintro e w7 ⟨rfl, hb0⟩
          have ht7 := hid (ht6.out.below hb0)
          clear hb0
          clear e3 z0 z1 z2 y0 y1 y2 fz fy hlz hly
          have hok : Vl.ok ⟨2, 0, s⟩ = okT s := by unfold Vl.ok; have := hsz.out; simp; omega
          rw [hok]
          clear hok
          by_cases hk : okT s = true
          · have hkh := hid hk
            rw [hk]
            clear hk hva
            obtain ⟨e3, z0, z1, z2, y0, y1, y2, fz, fy, hlz, hly⟩ := ht7.out.cells
            have z0 : w7.cell? ⟨w.heap.size, 0, none⟩ = some (.int .i64 0) := z0
            have z1 : w7.cell? ⟨w.heap.size, 1, none⟩ = some (.int .i64 0) := z1
            have z2 : w7.cell? ⟨w.heap.size, 2, none⟩ = some (.string ⟨#[]⟩) := z2
            have y0 : w7.cell? ⟨y, 0, none⟩ = some (.int .i64 2) := y0
            have y1 : w7.cell? ⟨y, 1, none⟩ = some (.int .i64 0) := y1
            have y2 : w7.cell? ⟨y, 2, none⟩ = some (.string s) := y2
            go_upto_region 12 with fail
            clear e3 z0 z1 z2 y0 y1 y2 fz fy hlz hly
            obtain ⟨e3, z0, z1, z2, y0, y1, y2, fz, fy, hlz, hly⟩ := ht7.out.cells
            have z0 : w7.cell? ⟨w.heap.size, 0, none⟩ = some (.int .i64 0) := z0
            have z1 : w7.cell? ⟨w.heap.size, 1, none⟩ = some (.int .i64 0) := z1
            have z2 : w7.cell? ⟨w.heap.size, 2, none⟩ = some (.string ⟨#[]⟩) := z2
            have y0 : w7.cell? ⟨y, 0, none⟩ = some (.int .i64 2) := y0
            have y1 : w7.cell? ⟨y, 1, none⟩ = some (.int .i64 0) := y1
            have y2 : w7.cell? ⟨y, 2, none⟩ = some (.string s) := y2
            obtain ⟨re, hre⟩ : ∃ re, re = (r2).e := ⟨_, rfl⟩
            rw [← hre] at e3
            by_cases hee : re = 0
            · have te : (re != 0) = false := by simpa [hre] using hee
              have hfin : Hid (r.take = ((⟨2, 0, s⟩ : Vl), r2)) := hid (by rw [hre] at hee; unfold Rr.take; rw [hq8.out]; simp [h2h.out, hih.out, hkh.out, hee])
              clear hee hre
              go_wp2_with fail
              have hT := ht7.out.putZ (⟨2, 0, s⟩ : Vl)
              refine bodyPost_ret (v := .agg #[.int .i64 2, .int .i64 0, .string s]) ?_ rfl ⟨by first | (rw [hfin.out]; done) | (rw [hfin.out]; rfl), hT.up, by rw [hfin.out]; exact hT.rd.unbound hne.out⟩
              exact results_cell_row (P := Try.prog) rfl _ _ w.heap.size 51 _ (0, 0) _ rfl hT.zv Try.underlying51 rfl (by kernel_rfl)
            · have te : (re != 0) = true := by simpa [hre] using hee
              have hfin : Hid (r.take = (vl0, r2)) := hid (by rw [hre] at hee; exfalso; have := he0h.out; have := hrh.out; omega)
              clear hee hre
              go_wp2_with fail
              have hT := ht7.out.putZ vl0
              refine bodyPost_ret (v := .agg #[.int .i64 0, .int .i64 0, .string ⟨#[]⟩]) ?_ rfl ⟨by first | (rw [hfin.out]; done) | (rw [hfin.out]; rfl), hT.up, by rw [hfin.out]; exact hT.rd.unbound hne.out⟩
              exact results_cell_row (P := Try.prog) rfl _ _ w.heap.size 51 _ (0, 0) _ rfl hT.zv Try.underlying51 rfl (by kernel_rfl)
          · have hk0 : okT s = false := by simpa using hk
            have hkh := hid hk0
            rw [hk0]
            clear hk hk0 hva
            obtain ⟨e3, z0, z1, z2, y0, y1, y2, fz, fy, hlz, hly⟩ := ht7.out.cells
            have z0 : w7.cell? ⟨w.heap.size, 0, none⟩ = some (.int .i64 0) := z0
            have z1 : w7.cell? ⟨w.heap.size, 1, none⟩ = some (.int .i64 0) := z1
            have z2 : w7.cell? ⟨w.heap.size, 2, none⟩ = some (.string ⟨#[]⟩) := z2
            have y0 : w7.cell? ⟨y, 0, none⟩ = some (.int .i64 2) := y0
            have y1 : w7.cell? ⟨y, 1, none⟩ = some (.int .i64 0) := y1
            have y2 : w7.cell? ⟨y, 2, none⟩ = some (.string s) := y2
            go_wp2_with fail
            refine (rfail_any ht7.out.rd 20).mono ?_
            rintro e w8 ⟨rfl, hu0, hr0⟩
            have ht8 := hid (ht7.out.call hu0 hr0)
            clear hu0 hr0
            go_upto_region 12 with fail
            clear e3 z0 z1 z2 y0 y1 y2 fz fy hlz hly
            obtain ⟨e3, z0, z1, z2, y0, y1, y2, fz, fy, hlz, hly⟩ := ht8.out.cells
            have z0 : w8.cell? ⟨w.heap.size, 0, none⟩ = some (.int .i64 0) := z0
            have z1 : w8.cell? ⟨w.heap.size, 1, none⟩ = some (.int .i64 0) := z1
            have z2 : w8.cell? ⟨w.heap.size, 2, none⟩ = some (.string ⟨#[]⟩) := z2
            have y0 : w8.cell? ⟨y, 0, none⟩ = some (.int .i64 2) := y0
            have y1 : w8.cell? ⟨y, 1, none⟩ = some (.int .i64 0) := y1
            have y2 : w8.cell? ⟨y, 2, none⟩ = some (.string s) := y2
            obtain ⟨re, hre⟩ : ∃ re, re = ((r2.fail 20)).e := ⟨_, rfl⟩
            rw [← hre] at e3
            by_cases hee : re = 0
            · have te : (re != 0) = false := by simpa [hre] using hee
              have hfin : Hid (r.take = ((⟨2, 0, s⟩ : Vl), (r2.fail 20))) := hid (by rw [hre] at hee; exfalso; have h5 := he0h.out; have h6 := hrh.out; unfold Rr.fail at hee; rw [if_pos ⟨by omega, by decide⟩] at hee; simp at hee)
              clear hee hre
              go_wp2_with fail
              have hT := ht8.out.putZ (⟨2, 0, s⟩ : Vl)
              refine bodyPost_ret (v := .agg #[.int .i64 2, .int .i64 0, .string s]) ?_ rfl ⟨by first | (rw [hfin.out]; done) | (rw [hfin.out]; rfl), hT.up, by rw [hfin.out]; exact hT.rd.unbound hne.out⟩
              exact results_cell_row (P := Try.prog) rfl _ _ w.heap.size 51 _ (0, 0) _ rfl hT.zv Try.underlying51 rfl (by kernel_rfl)
            · have te : (re != 0) = true := by simpa [hre] using hee
              have hfin : Hid (r.take = (vl0, (r2.fail 20))) := hid (by rw [hre] at hee; unfold Rr.take; rw [hq8.out]; simp [h2h.out, hih.out, hkh.out])
              clear hee hre
              go_wp2_with fail
              have hT := ht8.out.putZ vl0
              refine bodyPost_ret (v := .agg #[.int .i64 0, .int .i64 0, .string ⟨#[]⟩]) ?_ rfl ⟨by first | (rw [hfin.out]; done) | (rw [hfin.out]; rfl), hT.up, by rw [hfin.out]; exact hT.rd.unbound hne.out⟩
              exact results_cell_row (P := Try.prog) rfl _ _ w.heap.size 51 _ (0, 0) _ rfl hT.zv Try.underlying51 rfl (by kernel_rfl)
        · have te : (re == 0) = false := by simpa using he0
          have he0h := hid he0
          clear he0
          go_upto_region 12 with fail
          clear e3 z0 z1 z2 y0 y1 y2 fz fy hlz hly
          obtain ⟨e3, z0, z1, z2, y0, y1, y2, fz, fy, hlz, hly⟩ := ht6.out.cells
          have z0 : w6.cell? ⟨w.heap.size, 0, none⟩ = some (.int .i64 0) := z0
          have z1 : w6.cell? ⟨w.heap.size, 1, none⟩ = some (.int .i64 0) := z1
          have z2 : w6.cell? ⟨w.heap.size, 2, none⟩ = some (.string ⟨#[]⟩) := z2
          have y0 : w6.cell? ⟨y, 0, none⟩ = some (.int .i64 2) := y0
          have y1 : w6.cell? ⟨y, 1, none⟩ = some (.int .i64 0) := y1
          have y2 : w6.cell? ⟨y, 2, none⟩ = some (.string s) := y2
          obtain ⟨re, hre⟩ : ∃ re, re = (r2).e := ⟨_, rfl⟩
          rw [← hre] at e3
          by_cases hee : re = 0
          · have te : (re != 0) = false := by simpa [hre] using hee
            have hfin : Hid (r.take = ((⟨2, 0, s⟩ : Vl), r2)) := hid (by rw [hre] at hee; exfalso; have := he0h.out; have := hrh.out; omega)
            clear hee hre
            go_wp2_with fail
            have hT := ht6.out.putZ (⟨2, 0, s⟩ : Vl)
            refine bodyPost_ret (v := .agg #[.int .i64 2, .int .i64 0, .string s]) ?_ rfl ⟨by first | (rw [hfin.out]; done) | (rw [hfin.out]; rfl), hT.up, by rw [hfin.out]; exact hT.rd.unbound hne.out⟩
            exact results_cell_row (P := Try.prog) rfl _ _ w.heap.size 51 _ (0, 0) _ rfl hT.zv Try.underlying51 rfl (by kernel_rfl)
          · have te : (re != 0) = true := by simpa [hre] using hee
            have hfin : Hid (r.take = (vl0, r2)) := hid (by rw [hre] at hee; have h5 := hsb.out hee; unfold Rr.take; rw [hq8.out]; simp [h2h.out, hih.out, hee, h5, okT])
            clear hee hre
            go_wp2_with fail
            have hT := ht6.out.putZ vl0
            refine bodyPost_ret (v := .agg #[.int .i64 0, .int .i64 0, .string ⟨#[]⟩]) ?_ rfl ⟨by first | (rw [hfin.out]; done) | (rw [hfin.out]; rfl), hT.up, by rw [hfin.out]; exact hT.rd.unbound hne.out⟩
            exact results_cell_row (P := Try.prog) rfl _ _ w.heap.size 51 _ (0, 0) _ rfl hT.zv Try.underlying51 rfl (by kernel_rfl)
      · have t2 : ((q : Int) == 2) = false := by simp; omega
        have hqn : Hid (q ≠ 0 ∧ q ≠ 1 ∧ q ≠ 2) := hid ⟨h0, h1, h2⟩
        clear h0 h1 h2
        go_wp2_with fail
        refine (rfail_any ht3.out.rd 20).mono ?_
        rintro e w4 ⟨rfl, hu0, hr0⟩
        have ht4 := hid (ht3.out.call hu0 hr0)
        clear hu0 hr0
        go_upto_region 12 with fail
        clear e3 z0 z1 z2 y0 y1 y2 fz fy hlz hly
        obtain ⟨e3, z0, z1, z2, y0, y1, y2, fz, fy, hlz, hly⟩ := ht4.out.cells
        have z0 : w4.cell? ⟨w.heap.size, 0, none⟩ = some (.int .i64 0) := z0
        have z1 : w4.cell? ⟨w.heap.size, 1, none⟩ = some (.int .i64 0) := z1
        have z2 : w4.cell? ⟨w.heap.size, 2, none⟩ = some (.string ⟨#[]⟩) := z2
        have y0 : w4.cell? ⟨y, 0, none⟩ = some (.int .i64 0) := y0
        have y1 : w4.cell? ⟨y, 1, none⟩ = some (.int .i64 0) := y1
        have y2 : w4.cell? ⟨y, 2, none⟩ = some (.string ⟨#[]⟩) := y2
        obtain ⟨re, hre⟩ : ∃ re, re = ((r1.fail 20)).e := ⟨_, rfl⟩
        rw [← hre] at e3
        by_cases hee : re = 0
        · have te : (re != 0) = false := by simpa [hre] using hee
          have hfin : Hid (r.take = (vl0, (r1.fail 20))) := hid (by rw [hre] at hee; exfalso; have h5 := hqn.out; have h6 := hbad.out; unfold Rr.fail at hee; by_cases h7 : r1.e = 0; (rw [if_pos ⟨h7, by decide⟩] at hee; simp at hee); exact absurd (h6 h7) h5.1)
          clear hee hre
          go_wp2_with fail
          have hT := ht4.out.putZ vl0
          refine bodyPost_ret (v := .agg #[.int .i64 0, .int .i64 0, .string ⟨#[]⟩]) ?_ rfl ⟨by first | (rw [hfin.out]; done) | (rw [hfin.out]; rfl), hT.up, by rw [hfin.out]; exact hT.rd.unbound hne.out⟩
          exact results_cell_row (P := Try.prog) rfl _ _ w.heap.size 51 _ (0, 0) _ rfl hT.zv Try.underlying51 rfl (by kernel_rfl)
        · have te : (re != 0) = true := by simpa [hre] using hee
          have hfin : Hid (r.take = (vl0, (r1.fail 20))) := hid (by rw [hre] at hee; have h5 := hqn.out; unfold Rr.take; rw [hq8.out]; simp [h5.1, h5.2.1, h5.2.2])
          clear hee hre
          go_wp2_with fail
          have hT := ht4.out.putZ vl0
          refine bodyPost_ret (v := .agg #[.int .i64 0, .int .i64 0, .string ⟨#[]⟩]) ?_ rfl ⟨by first | (rw [hfin.out]; done) | (rw [hfin.out]; rfl), hT.up, by rw [hfin.out]; exact hT.rd.unbound hne.out⟩
          exact results_cell_row (P := Try.prog) rfl _ _ w.heap.size 51 _ (0, 0) _ rfl hT.zv Try.underlying51 rfl (by kernel_rfl)

end Go.Proofs.Ytbakfkhmopebnaa

namespace Go.Proofs.Ytbakfkhmopebnaa
open Go.RowKit
set_option linter.unusedVariables false
set_option linter.unusedSimpArgs false

set_option maxRecDepth 100000 in
set_option maxHeartbeats 1000000 in
theorem rcount_any {S : Nat → Prop} {w : World} {g : Nat} {A : Option Addr} {c : Nat} {r : Rr} (h : RrIn S w g A c r) (most : Int) (hmm : 0 ≤ most ∧ most ≤ 100000) : Calls Try.prog 53 #[.pointer (some ⟨g, 0, none⟩), .int .i64 most] w fun e w' => e = .returned (.int .i64 ((r.count most).1 : Nat)) ∧ Upd (fun k => k = g) w w' ∧ RrIn S w' g A c ((r.count most).2) := by
  have H := hid h
  have kb := h.blk
  have x0 := kb.cell 0
  have x1 := kb.cell 1
  have x2 := kb.cell 2
  have x3 := kb.cell 3
  have x4 := kb.cell 4
  simp only [List.getElem?_toArray, List.getElem?_cons_zero, List.getElem?_cons_succ] at x0 x1 x2 x3 x4
  have fz := fun q => kb.frozen q
  have hlt := kb.lt
  have hln : (r.b.length : Int) ≤ 1000000 := by have := h.len; omega
  have hat0 : (r.at_ : Int) ≤ (r.b.length : Int) := by have := h.at_le; omega
  have hatN := h.at_le
  have hm := hid hmm
  clear hmm
  by_cases he : r.e = 0
  · have t1 : (r.e == 0) = true := by simpa using he
    have t2 : (r.e != 0) = false := by simpa using he
    rcases Decidable.em (c = r.at_) with hca | hca
    · have hnu := hid (rnumber_any S _ (c - r.at_) (r.b.drop r.at_) w.drew (Rd.tail h.row.drew h.at_le h.cap) (by rw [List.length_drop]; have := h.len; omega) (fun x hx => h.byt x (List.mem_of_mem_drop hx)))
      rw [← num_drop, List.length_drop] at hnu
      rw [if_pos hca, hca, Nat.sub_self] at hnu
      subst hca
      cases hnv : num r.b r.at_ with
      | inl nk =>
        obtain ⟨n, k⟩ := nk
        obtain ⟨hn1, hn2, hn3⟩ := num_lt hnv
        rw [hnv] at hnu
        rw [show numV (.inl (n, k)) = .tuple #[.int .u64 (n : Nat), .int .i64 (k : Nat), .int .i64 0] from rfl] at hnu
        have hn3' := hid hn3
        have fm : IntKind.u64.wrap most = most := by have := hm.out; rw [IntKind.wrap_u64]; omega
        have m0 : ¬ most < 0 := by have := hm.out; omega
        by_cases hmn : most < (n : Int)
        · have hby : Hid (r.count most = (0, r.fails 6)) := hid (by unfold Rr.count; rw [if_neg (by omega), hnv]; simp only; rw [if_pos (.inr hmn)])
          clear h he kb hatN hnv hn1 hn2 hn3
          go_enter Try.func53, Try.ntmps53
          go_upto_region 3 with fail
          go_region_held3 (fun w' => w'.cell? ⟨g, 0, none⟩ = some (.slice A r.b.length r.at_) ∧ w'.cell? ⟨g, 1, none⟩ = some (.int .i64 (r.at_ : Nat))) (first | exact ⟨x0, x1⟩ | exact ⟨y0, y1⟩)
            ((go_at_call 85
              refine hnu.out.mono ?_
              rintro e w2 ⟨rfl, hb0⟩
              have hb2 := hid ((Below.refl w.heap.size w).drew.trans hb0)
              have hr2 := hid (H.out.below_all hb2.out)
              have y0 := hr2.out.blk.cell 0
              have y1 := hr2.out.blk.cell 1
              simp only [List.getElem?_toArray, List.getElem?_cons_zero, List.getElem?_cons_succ] at y0 y1
              clear hb0))
          clear x0 x1 x2 x3 x4 fz hlt y0 y1
          go_wp2_with fail
          refine (rfails_any hr2.out 6).mono ?_
          rintro e w3 ⟨rfl, hu0, hr0⟩
          have hu3 := hid hu0; have hr3 := hid hr0
          clear hu0 hr0
          go_wp2_with fail
          go_ret
          rw [hby.out]
          exact ⟨rfl, (Upd.of_below (M := fun k => k = g) hb2.out fun k hk hk' => absurd hk (by omega)).trans hu3.out fun _ _ h => h, hr3.out⟩
        · have hby : Hid (r.count most = (n, r.took k)) := hid (by unfold Rr.count; rw [if_neg (by omega), hnv]; simp only; rw [if_neg (by omega)])
          have fn : IntKind.i64.wrap (n : Int) = (n : Int) := by have := hm.out; rw [IntKind.wrap_i64]; omega
          clear h he kb hatN hnv hn1 hn2 hn3
          go_enter Try.func53, Try.ntmps53
          go_upto_region 3 with fail
          go_region_held3 (fun w' => w'.cell? ⟨g, 0, none⟩ = some (.slice A r.b.length r.at_) ∧ w'.cell? ⟨g, 1, none⟩ = some (.int .i64 (r.at_ : Nat))) (first | exact ⟨x0, x1⟩ | exact ⟨y0, y1⟩)
            ((go_at_call 85
              refine hnu.out.mono ?_
              rintro e w2 ⟨rfl, hb0⟩
              have hb2 := hid ((Below.refl w.heap.size w).drew.trans hb0)
              have hr2 := hid (H.out.below_all hb2.out)
              have y0 := hr2.out.blk.cell 0
              have y1 := hr2.out.blk.cell 1
              simp only [List.getElem?_toArray, List.getElem?_cons_zero, List.getElem?_cons_succ] at y0 y1
              clear hb0))
          clear x0 x1 x2 x3 x4 fz hlt y0 y1
          go_wp2_with fail
          refine (rtook_any hr2.out k hn3'.out).mono ?_
          rintro e w3 ⟨rfl, hu0, hr0⟩
          have hu3 := hid hu0; have hr3 := hid hr0
          clear hu0 hr0
          go_wp2_with fail
          go_ret
          rw [hby.out]
          exact ⟨rfl, (Upd.of_below (M := fun k => k = g) hb2.out fun k hk hk' => absurd hk (by omega)).trans hu3.out fun _ _ h => h, hr3.out⟩
      | inr er =>
        rw [hnv] at hnu
        have hne : er ≠ 0 := num_ne hnv
        have z1 : (er == 0) = false := by simpa using hne
        have z2 : (er != 0) = true := by simpa using hne
        have hby : Hid (r.count most = (0, r.fails er)) := hid (by unfold Rr.count; rw [if_neg (by omega), hnv])
        rw [show numV (.inr er) = .tuple #[.int .u64 0, .int .i64 0, .int .i64 er] from rfl] at hnu
        clear h he kb hatN hnv hne
        go_enter Try.func53, Try.ntmps53
        go_upto_region 3 with fail
        go_region_held3 (fun w' => w'.cell? ⟨g, 0, none⟩ = some (.slice A r.b.length r.at_) ∧ w'.cell? ⟨g, 1, none⟩ = some (.int .i64 (r.at_ : Nat))) (first | exact ⟨x0, x1⟩ | exact ⟨y0, y1⟩)
          ((go_at_call 85
            refine hnu.out.mono ?_
            rintro e w2 ⟨rfl, hb0⟩
            have hb2 := hid ((Below.refl w.heap.size w).drew.trans hb0)
            have hr2 := hid (H.out.below_all hb2.out)
            have y0 := hr2.out.blk.cell 0
            have y1 := hr2.out.blk.cell 1
            simp only [List.getElem?_toArray, List.getElem?_cons_zero, List.getElem?_cons_succ] at y0 y1
            clear hb0))
        clear x0 x1 x2 x3 x4 fz hlt y0 y1
        go_wp2_with fail
        refine (rfails_any hr2.out er).mono ?_
        rintro e w3 ⟨rfl, hu0, hr0⟩
        have hu3 := hid hu0; have hr3 := hid hr0
        clear hu0 hr0
        go_wp2_with fail
        go_ret
        rw [hby.out]
        exact ⟨rfl, (Upd.of_below (M := fun k => k = g) hb2.out fun k hk hk' => absurd hk (by omega)).trans hu3.out fun _ _ h => h, hr3.out⟩
    · have hnu := hid (rnumber_any S _ (c - r.at_) (r.b.drop r.at_) w.drew (Rd.tail h.row.drew h.at_le h.cap) (by rw [List.length_drop]; have := h.len; omega) (fun x hx => h.byt x (List.mem_of_mem_drop hx)))
      rw [← num_drop, List.length_drop] at hnu
      rw [if_neg hca] at hnu
      cases hnv : num r.b r.at_ with
      | inl nk =>
        obtain ⟨n, k⟩ := nk
        obtain ⟨hn1, hn2, hn3⟩ := num_lt hnv
        rw [hnv] at hnu
        rw [show numV (.inl (n, k)) = .tuple #[.int .u64 (n : Nat), .int .i64 (k : Nat), .int .i64 0] from rfl] at hnu
        have hn3' := hid hn3
        have fm : IntKind.u64.wrap most = most := by have := hm.out; rw [IntKind.wrap_u64]; omega
        have m0 : ¬ most < 0 := by have := hm.out; omega
        by_cases hmn : most < (n : Int)
        · have hby : Hid (r.count most = (0, r.fails 6)) := hid (by unfold Rr.count; rw [if_neg (by omega), hnv]; simp only; rw [if_pos (.inr hmn)])
          clear h he kb hatN hnv hn1 hn2 hn3
          go_enter Try.func53, Try.ntmps53
          go_upto_region 3 with fail
          go_region_held3 (fun w' => w'.cell? ⟨g, 0, none⟩ = some (.slice A r.b.length c) ∧ w'.cell? ⟨g, 1, none⟩ = some (.int .i64 (r.at_ : Nat))) (first | exact ⟨x0, x1⟩ | exact ⟨y0, y1⟩)
            ((go_at_call 85
              refine hnu.out.mono ?_
              rintro e w2 ⟨rfl, hb0⟩
              have hb2 := hid ((Below.refl w.heap.size w).drew.trans hb0)
              have hr2 := hid (H.out.below_all hb2.out)
              have y0 := hr2.out.blk.cell 0
              have y1 := hr2.out.blk.cell 1
              simp only [List.getElem?_toArray, List.getElem?_cons_zero, List.getElem?_cons_succ] at y0 y1
              clear hb0))
          clear x0 x1 x2 x3 x4 fz hlt y0 y1
          go_wp2_with fail
          refine (rfails_any hr2.out 6).mono ?_
          rintro e w3 ⟨rfl, hu0, hr0⟩
          have hu3 := hid hu0; have hr3 := hid hr0
          clear hu0 hr0
          go_wp2_with fail
          go_ret
          rw [hby.out]
          exact ⟨rfl, (Upd.of_below (M := fun k => k = g) hb2.out fun k hk hk' => absurd hk (by omega)).trans hu3.out fun _ _ h => h, hr3.out⟩
        · have hby : Hid (r.count most = (n, r.took k)) := hid (by unfold Rr.count; rw [if_neg (by omega), hnv]; simp only; rw [if_neg (by omega)])
          have fn : IntKind.i64.wrap (n : Int) = (n : Int) := by have := hm.out; rw [IntKind.wrap_i64]; omega
          clear h he kb hatN hnv hn1 hn2 hn3
          go_enter Try.func53, Try.ntmps53
          go_upto_region 3 with fail
          go_region_held3 (fun w' => w'.cell? ⟨g, 0, none⟩ = some (.slice A r.b.length c) ∧ w'.cell? ⟨g, 1, none⟩ = some (.int .i64 (r.at_ : Nat))) (first | exact ⟨x0, x1⟩ | exact ⟨y0, y1⟩)
            ((go_at_call 85
              refine hnu.out.mono ?_
              rintro e w2 ⟨rfl, hb0⟩
              have hb2 := hid ((Below.refl w.heap.size w).drew.trans hb0)
              have hr2 := hid (H.out.below_all hb2.out)
              have y0 := hr2.out.blk.cell 0
              have y1 := hr2.out.blk.cell 1
              simp only [List.getElem?_toArray, List.getElem?_cons_zero, List.getElem?_cons_succ] at y0 y1
              clear hb0))
          clear x0 x1 x2 x3 x4 fz hlt y0 y1
          go_wp2_with fail
          refine (rtook_any hr2.out k hn3'.out).mono ?_
          rintro e w3 ⟨rfl, hu0, hr0⟩
          have hu3 := hid hu0; have hr3 := hid hr0
          clear hu0 hr0
          go_wp2_with fail
          go_ret
          rw [hby.out]
          exact ⟨rfl, (Upd.of_below (M := fun k => k = g) hb2.out fun k hk hk' => absurd hk (by omega)).trans hu3.out fun _ _ h => h, hr3.out⟩
      | inr er =>
        rw [hnv] at hnu
        have hne : er ≠ 0 := num_ne hnv
        have z1 : (er == 0) = false := by simpa using hne
        have z2 : (er != 0) = true := by simpa using hne
        have hby : Hid (r.count most = (0, r.fails er)) := hid (by unfold Rr.count; rw [if_neg (by omega), hnv])
        rw [show numV (.inr er) = .tuple #[.int .u64 0, .int .i64 0, .int .i64 er] from rfl] at hnu
        clear h he kb hatN hnv hne
        go_enter Try.func53, Try.ntmps53
        go_upto_region 3 with fail
        go_region_held3 (fun w' => w'.cell? ⟨g, 0, none⟩ = some (.slice A r.b.length c) ∧ w'.cell? ⟨g, 1, none⟩ = some (.int .i64 (r.at_ : Nat))) (first | exact ⟨x0, x1⟩ | exact ⟨y0, y1⟩)
          ((go_at_call 85
            refine hnu.out.mono ?_
            rintro e w2 ⟨rfl, hb0⟩
            have hb2 := hid ((Below.refl w.heap.size w).drew.trans hb0)
            have hr2 := hid (H.out.below_all hb2.out)
            have y0 := hr2.out.blk.cell 0
            have y1 := hr2.out.blk.cell 1
            simp only [List.getElem?_toArray, List.getElem?_cons_zero, List.getElem?_cons_succ] at y0 y1
            clear hb0))
        clear x0 x1 x2 x3 x4 fz hlt y0 y1
        go_wp2_with fail
        refine (rfails_any hr2.out er).mono ?_
        rintro e w3 ⟨rfl, hu0, hr0⟩
        have hu3 := hid hu0; have hr3 := hid hr0
        clear hu0 hr0
        go_wp2_with fail
        go_ret
        rw [hby.out]
        exact ⟨rfl, (Upd.of_below (M := fun k => k = g) hb2.out fun k hk hk' => absurd hk (by omega)).trans hu3.out fun _ _ h => h, hr3.out⟩
  · have t1 : (r.e == 0) = false := by simpa using he
    have t2 : (r.e != 0) = true := by simpa using he
    have hby : Hid (r.count most = (0, r)) := hid (by unfold Rr.count; rw [if_pos he])
    generalize r.e = re at *
    clear h he kb hat0 hln hatN
    go_enter Try.func53, Try.ntmps53
    go_wp2_with fail
    go_ret
    rw [hby.out]
    exact ⟨rfl, Upd.refl _ _, H.out⟩

end Go.Proofs.Ytbakfkhmopebnaa


/- proc: the document's find, Check, Depths. -/
import Derived.Test.YtdmogoaaecdbaaaGreatDoorZRNext
namespace Go.Proofs.YtdmogoaaecdbaaaGreatDoor
open Go.RowKit
set_option linter.unusedVariables false
set_option linter.unusedSimpArgs false

theorem info_boolR : (Tryz.prog.info? 4).map (fun i => (i.zero, i.size, i.bytes)) = some (some (.bool false), 1, 1) := by kernel_rfl
theorem make_ints (N : Nat) (hN : N ≤ 256) (w : World) : (Instr.makeSlice 51 (.int .i64 (N : Int)) (.int .i64 (N : Int))).run Tryz.prog w = .ok (.slice (some ⟨w.heap.size, 0, none⟩) N N) (w.alloc (.cells (madeCells #[.int .i64 0] N) 3)) := by
  obtain ⟨i0, hi0, hz0, hz1, hz2⟩ := info_parts info_int
  have h := run_makeSlice (P := Tryz.prog) w 51 3 i0 _ Tryz.underlying51 hi0 hz0 .i64 .i64 (N : Int) (N : Int) (by omega) (Int.le_refl _) (by simp only [Int.toNat_natCast]; rw [hz1]; omega) (by rw [hz2]; omega) (by omega)
  simp only [Int.toNat_natCast, hz1, Nat.mul_one] at h
  exact h
theorem make_bools (N : Nat) (hN : N ≤ 256) (w : World) : (Instr.makeSlice 146 (.int .i64 (N : Int)) (.int .i64 (N : Int))).run Tryz.prog w = .ok (.slice (some ⟨w.heap.size, 0, none⟩) N N) (w.alloc (.cells (madeCells #[.bool false] N) 4)) := by
  obtain ⟨i0, hi0, hz0, hz1, hz2⟩ := info_parts info_boolR
  have h := run_makeSlice (P := Tryz.prog) w 146 4 i0 _ Tryz.underlying146 hi0 hz0 .i64 .i64 (N : Int) (N : Int) (by omega) (Int.le_refl _) (by simp only [Int.toNat_natCast]; rw [hz1]; omega) (by rw [hz2]; omega) (by omega)
  simp only [Int.toNat_natCast, hz1, Nat.mul_one] at h
  exact h
theorem made_at (z : Value) (n i : Nat) (h : i < n) : (madeCells #[z] n)[i]? = some z := by
  have := congrArg (fun l => l[i]?) (toList_madeCells_one z n)
  simp only [List.getElem?_replicate, h, if_true] at this
  simpa using this
def leftB (w : World) (g n : Nat) : Nat := (List.range n).countP fun i => match w.cell? ⟨g, i, none⟩ with | some (.bool b) => !b | _ => true
theorem DkAt.left {w : World} {g h n : Nat} {c : Ck} {cs ls : Array Value} (k : DkAt w g h n c cs ls) : leftB w h n = c.left n := by
  unfold leftB Ck.left
  refine List.countP_congr fun i hi => ?_
  rw [k.clk (List.mem_range.1 hi)]
theorem DkAt.own {w : World} {g h n base : Nat} {c : Ck} {cs ls : Array Value} (k : DkAt w g h n c cs ls) (hg : base ≤ g) (hn : n ≤ 256) : w.ownsRow base 3 1 (.slice (some ⟨g, 0, none⟩) n n) n ((List.range n).map fun i => .int .i64 (c.dep i)) := by
  refine ⟨by simp, .inr ⟨g, n, cs, rfl, hg, k.a, Nat.le_refl _, by simp only [maxLen]; omega, by rw [k.sa]; omega, ?_⟩⟩
  apply List.ext_getElem?
  intro j
  by_cases hj : j < n
  · rw [List.getElem?_take_of_lt (by omega), Array.getElem?_toList, k.dep j hj, List.getElem?_map, List.getElem?_range hj]; rfl
  · rw [List.getElem?_take_eq_none (by omega), List.getElem?_eq_none (by simp; omega)]
theorem lookAt_leads {code : List Is} {dep : Nat → Int} {i : Nat} (h : ¬ (dep i < takes (code.getD i is0).op ∨ 32 < dep i - takes (code.getD i is0).op + lays (code.getD i is0).op)) : lookAt code dep i = leads code.length i (dep i - takes (code.getD i is0).op + lays (code.getD i is0).op) (nexts i (code.getD i is0)) dep := if_neg h
theorem leads_drop {n at_ : Nat} {d : Int} {l : List Nat} {q : Nat} {dep : Nat → Int} (h : q < l.length) : leads n at_ d (l.drop q) dep = match leadTo n at_ d dep l[q] with | .inl dep' => leads n at_ d (l.drop (q + 1)) dep' | .inr e => .inr e := by
  rw [List.drop_eq_getElem_cons h]; rfl
set_option maxRecDepth 100000 in
set_option maxHeartbeats 4000000 in
theorem rfind_any (p : Pr) (S : Nat → Prop) (A1 A2 : Option Addr) (c1 c2 : Nat) (w : World) (hp : PrIn S w A1 A2 p) (hf : p.form.1 = 0) : Calls Tryz.prog 46 #[.agg #[.int .i64 p.args, .slice A1 p.cs.length c1, .slice A2 p.code.length c2]] w (FindPost p w) := by
  have hmi := hid make_ints
  have hmb := hid make_bools
  have hfm := hid (form_ok hf)
  have hn := hid hfm.out.2.2.2.2.2.1
  have hn0 := hid hfm.out.2.2.2.2.1
  have hP := hid hp
  have kp0 := Blk.new w 33 #[.int .i64 p.args, .slice A1 p.cs.length c1, .slice A2 p.code.length c2]
  have hB0 : Below w.heap.size w (w.alloc (.cells #[.int .i64 p.args, .slice A1 p.cs.length c1, .slice A2 p.code.length c2] 33)) := (Below.refl _ _).alloc (Nat.le_refl _) _
  have kp := hid kp0
  have hB := hid hB0
  have hz1 : Hid ((w.alloc (.cells #[.int .i64 p.args, .slice A1 p.cs.length c1, .slice A2 p.code.length c2] 33)).heap.size = w.heap.size + 1) := hid (by simp)
  clear kp0 hB0 hp hf
  have hn9 : (p.code.length : Int) ≤ 256 := by have := hn.out; omega
  go_enter Tryz.func46, Tryz.ntmps46
  go_upto_region 1 with fail
  generalize w.alloc (.cells #[.int .i64 p.args, .slice A1 p.cs.length c1, .slice A2 p.code.length c2] 33) = w1 at *
  have p0 := kp.out.cell 0
  have p1 := kp.out.cell 1
  have p2 := kp.out.cell 2
  simp only [List.getElem?_toArray, List.getElem?_cons_zero, List.getElem?_cons_succ] at p0 p1 p2
  have hmk := hmi.out p.code.length hn.out w1
  have kd0 := Blk.new w1 3 (madeCells #[.int .i64 0] p.code.length)
  have hB2 := hid (hB.out.alloc hB.out.size (.cells (madeCells #[.int .i64 0] p.code.length) 3))
  have kd := hid kd0
  have kp2 := hid (kp.out.alloc (.cells (madeCells #[.int .i64 0] p.code.length) 3))
  have hz2 : Hid ((w1.alloc (.cells (madeCells #[.int .i64 0] p.code.length) 3)).heap.size = w1.heap.size + 1) := hid (by simp)
  clear kd0
  go_upto_region 2 with fail
  generalize w1.alloc (.cells (madeCells #[.int .i64 0] p.code.length) 3) = w2 at *
  clear hmk p0 p1 p2
  have p0 := kp2.out.cell 0
  have p1 := kp2.out.cell 1
  have p2 := kp2.out.cell 2
  simp only [List.getElem?_toArray, List.getElem?_cons_zero, List.getElem?_cons_succ] at p0 p1 p2
  have hmk := hmb.out p.code.length hn.out w2
  have kl0 := Blk.new w2 4 (madeCells #[.bool false] p.code.length)
  have hB3 := hid (hB2.out.alloc hB2.out.size (.cells (madeCells #[.bool false] p.code.length) 4))
  have kl := hid kl0
  have kp3 := hid (kp2.out.alloc (.cells (madeCells #[.bool false] p.code.length) 4))
  have kd3 := hid (kd.out.alloc (.cells (madeCells #[.bool false] p.code.length) 4))
  clear kl0
  go_upto_region 3 with fail
  generalize w2.alloc (.cells (madeCells #[.bool false] p.code.length) 4) = w3 at *
  clear hmk p0 p1 p2
  have K0 : Hid (DkAt w3 w1.heap.size w2.heap.size p.code.length ⟨fun _ => 0, fun _ => false⟩ (madeCells #[.int .i64 0] p.code.length) (madeCells #[.bool false] p.code.length)) := hid ⟨kd3.out, kl.out, size_madeCells _ _, size_madeCells _ _, fun i hi => made_at _ _ _ hi, fun i hi => made_at _ _ _ hi⟩
  have hgg : Hid (w.heap.size < w1.heap.size ∧ w1.heap.size < w2.heap.size) := hid (by have := hz1.out; have := hz2.out; omega)
  clear kd kl kd3 kp2 hz1 hz2
  obtain ⟨g, hg⟩ : ∃ g, g = w1.heap.size := ⟨_, rfl⟩
  obtain ⟨h, hh⟩ : ∃ h, h = w2.heap.size := ⟨_, rfl⟩
  rw [← hg, ← hh] at K0 hgg
  rw [← hg, ← hh]
  clear hg hh
  go_wp2_with fail
  go_loopw [7] (fun v wr => ∃ (k : Nat) (cs ls : Array Value), v = .int .i64 k ∧ 1 ≤ k ∧ k ≤ p.code.length ∧ DkAt wr g h p.code.length ⟨fun i => if i = 0 then 0 else if i < k then -1 else 0, fun _ => false⟩ cs ls ∧ Upd (fun b => b = g) w3 wr) (fun v _ => p.code.length - (intOf v).toNat)
  case atStart => exact ⟨1, _, _, rfl, Nat.le_refl _, hn0.out, K0.out.congr (fun i _ => by
    by_cases e : i = 0
    · simp [e]
    · simp only [e, if_false]; rw [if_neg (by omega)]) (fun _ _ => rfl), Upd.refl _ _⟩
  case round =>
    clear K0
    obtain ⟨k, cs, ls, rfl, hk1, hk, K, U⟩ := hrel
    by_cases hlt : k < p.code.length
    · have i1 : (k : Int) < (p.code.length : Int) := by omega
      have i0 : (0 : Int) ≤ (k : Int) := by omega
      have x1 := K.cdep (i := k) hlt
      have fz : ∀ q, wr.frozen? ⟨g, q, none⟩ = false := fun q => K.a.frozen q
      have hw : IntKind.i64.wrap ((k : Int) + 1) = (k : Int) + 1 := IntWalk.i64_in _ (by omega)
      have hnx : Hid (DkAt (wr.setCell ⟨g, k, none⟩ (.int .i64 (-1))) g h p.code.length ⟨fun i => if i = 0 then 0 else if i < k + 1 then -1 else 0, fun _ => false⟩ (cs.setIfInBounds k (.int .i64 (-1))) ls ∧ Upd (fun b => b = g) w3 (wr.setCell ⟨g, k, none⟩ (.int .i64 (-1)))) := hid ⟨(K.setDep hlt (-1)).congr (fun i _ => by
        unfold setN
        by_cases e : i = k
        · subst e; simp; omega
        · simp only [e, if_false]
          by_cases h0 : i = 0
          · simp [h0]
          · simp only [h0, if_false]
            by_cases h : i < k
            · rw [if_pos h, if_pos (by omega)]
            · rw [if_neg h, if_neg (by omega)]) (fun _ _ => rfl), U.setCell (p := ⟨g, k, none⟩) (fun _ => rfl) _⟩
      clear K U
      go_wp2_with fail
      go_roundw
      case rel => exact ⟨k + 1, _, _, by go_num, by omega, hlt, hnx.out⟩
      case measure => simp [intOf]; omega
    · obtain rfl : k = p.code.length := by omega
      have K1 := hid (K.congr (c' := ck0) (fun i hi => by
        unfold ck0
        by_cases e : i = 0
        · simp [e]
        · simp [e, hi]) (fun _ _ => rfl))
      have kp4 := hid (kp3.out.upd U (fun e => by have := hgg.out; omega))
      have hB4 := hid (hB3.out.trans (U.below hB3.out.size fun j hj e => by have := hgg.out; omega))
      clear K U
      go_wp2_with fail
      go_loopw [8] (fun _ wx => ∃ (c : Ck) (cs ls : Array Value), DkAt wx g h p.code.length c cs ls ∧ CkI p.code c ∧ p.find = runC p.code c ∧ Blk wx w.heap.size 33 #[.int .i64 p.args, .slice A1 p.cs.length c1, .slice A2 p.code.length c2] ∧ Below w.heap.size w wx) (fun _ wx => leftB wx h p.code.length)
      case atStart => exact ⟨ck0, _, _, K1.out, CkI.new _, rfl, kp4.out, hB4.out⟩
      case round =>
        clear K1 kp4 hB4
        obtain ⟨c, cs, ls, K0, I0, hfi0, kp0, hB0'⟩ := hrel
        have K := hid K0
        have I := hid I0
        have hfi := hid hfi0
        have kpr := hid kp0
        have hBr := hid hB0'
        have hle := rleast_any K0 I0.rng hn.out
        clear K0 I0 hfi0 kp0 hB0'
        cases hl : leastD c p.code.length 0 with
        | none =>
          rw [hl] at hle
          have hle := hid hle
          have hres : Hid (p.find = .inl c.dep) := hid (hfi.out.trans (runC_none hl))
          clear hl
          go_wp2_with fail
          refine hle.out.mono ?_
          rintro e w8 ⟨rfl, hw8⟩
          obtain rfl := hw8.symm
          simp only [leastI]
          have hown := hid (K.out.own (base := w.heap.size) (by have := hgg.out; omega) hn.out)
          go_wp2_with fail
          go_ret3
          refine ⟨hBr.out, ?_⟩
          rw [hres.out]
          exact ⟨_, rfl, hown.out⟩
        | some i =>
          rw [hl] at hle
          have hle := hid hle
          obtain ⟨hi, hdu⟩ := leastD_lt hl
          have hln := hid hl
          have hdu := hid (due_lk hdu)
          have hil := hid hi
          have hrange : 0 ≤ c.dep i ∧ c.dep i ≤ 32 := by
            rcases I.out.rng i with h | h
            · exact absurd h hdu.out.1
            · exact h
          have hin0 : 0 ≤ (p.code.getD i is0).n := by
            rw [List.getD_eq_getElem?_getD, List.getElem?_eq_getElem hi]
            exact (hfm.out.2.2.2.2.2.2 _ (List.getElem_mem hi)).2.1
          have j1 : (i : Int) < (p.code.length : Int) := by omega
          have j0 : (0 : Int) ≤ (i : Int) := by omega
          have j9 : decide ((i : Int) < 0) = false := decide_eq_false (by omega)
          have x1 := K.out.cdep hi
          have x2 := K.out.clk hi
          have fz : ∀ q, wr.frozen? ⟨h, q, none⟩ = false := fun q => K.out.b.frozen q
          have K5 := hid (K.out.setLk hi true)
          have U5 : Hid (Upd (fun b => b = g ∨ b = h) wr (wr.setCell ⟨h, i, none⟩ (.bool true))) := hid ((Upd.refl _ wr).setCell (p := ⟨h, i, none⟩) (fun _ => .inr rfl) _)
          go_wp2_with fail
          refine hle.out.mono ?_
          rintro e w8 ⟨rfl, hw8⟩
          obtain rfl := hw8.symm
          simp only [leastI]
          go_upto_region 11 with fail
          generalize hW5 : wr.setCell ⟨h, i, none⟩ (.bool true) = w5 at *
          clear hW5 x1 x2 fz hle
          have hB5 := hid (hBr.out.trans (U5.out.below hBr.out.size fun j hj e => by have := hgg.out; omega))
          have kp5 := hid (kpr.out.upd U5.out (fun e => by have := hgg.out; omega))
          have HP2 : Hid (∀ W, Below w.heap.size w W → PrIn (fun b => b < w.heap.size) W A1 A2 p) := hid fun W hb => ⟨hP.out.c.all.below hb fun b hb => hb, hP.out.i.all.below hb fun b hb => hb, hP.out.t, hP.out.l⟩
          have hnx := hid (fun W (hb : Below w.heap.size w W) => rnexts_any p _ A1 A2 c1 c2 W (HP2.out W hb) i hi hin0)
          have hlk : Hid (lookAt p.code c.dep i = let ii := p.code.getD i is0; let d := c.dep i - takes ii.op + lays ii.op; if c.dep i < takes ii.op ∨ 32 < d then .inr (55, i) else leads p.code.length i d (nexts i ii) c.dep) := hid rfl
          obtain ⟨b, o, hA, hbl, a0, a1⟩ := (HP2.out w5 hB5.out).i.ins_at hi
          have hgi : p.code.getD i is0 = p.code[i]'hi := by rw [List.getD_eq_getElem?_getD, List.getElem?_eq_getElem hi]; rfl
          rw [hgi] at hlk hnx hin0
          subst hA
          generalize p.code[i]'hi = ii at *
          clear hgi hi
          have p0 := kp5.out.cell 0
          have p1 := kp5.out.cell 1
          have p2 := kp5.out.cell 2
          simp only [List.getElem?_toArray, List.getElem?_cons_zero, List.getElem?_cons_succ] at p0 p1 p2
          have x3 := K5.out.cdep hil.out
          have htk := hid (rtakes_any ii.op)
          have hrt := takes_range ii.op
          have hrl := lays_range ii.op
          obtain ⟨dv, hdv⟩ : ∃ dv, dv = c.dep i := ⟨_, rfl⟩
          simp only [← hdv] at hlk hrange x3
          clear hdv
          generalize takes ii.op = tk at *
          generalize lays ii.op = ly at *
          have hw1 : IntKind.i64.wrap (dv - tk) = dv - tk := IntWalk.i64_in _ (by omega)
          have hw2 : IntKind.i64.wrap (dv - tk + ly) = dv - tk + ly := IntWalk.i64_in _ (by omega)
          go_wp2_with fail
          refine (htk.out w5).mono ?_
          rintro e w6 ⟨rfl, hw6⟩
          obtain rfl := hw6.symm
          clear htk a0 a1
          by_cases hlow : dv < tk
          · have t1 : decide (dv < tk) = true := decide_eq_true hlow
            have hres : Hid (p.find = .inr (55, i)) := hid (hfi.out.trans (runC_bad hln.out (hlk.out.trans (if_pos (.inl hlow)))))
            clear hlk hlow
            go_wp2_with fail
            go_ret3
            refine ⟨hB5.out, ?_⟩
            rw [hres.out]
            rfl
          have t1 : decide (dv < tk) = false := decide_eq_false hlow
          by_cases hhi : 32 < dv - tk + ly
          · have t2 : decide (32 < dv - tk + ly) = true := decide_eq_true hhi
            have hres : Hid (p.find = .inr (55, i)) := hid (hfi.out.trans (runC_bad hln.out (hlk.out.trans (if_pos (.inr hhi)))))
            clear hlk hlow hhi
            go_wp2_with fail
            go_ret3
            refine ⟨hB5.out, ?_⟩
            rw [hres.out]
            rfl
          have t2 : decide (32 < dv - tk + ly) = false := decide_eq_false hhi
          have hlk2 : Hid (lookAt p.code c.dep i = leads p.code.length i (dv - tk + ly) (nexts i ii) c.dep) := hid (hlk.out.trans (if_neg (by omega)))
          have hd32 : Hid (0 ≤ dv - tk + ly ∧ dv - tk + ly ≤ 32) := hid (by omega)
          clear hlk hlow hhi
          go_wp2_with fail
          refine (hnx.out w5 hB5.out).mono ?_
          rintro e w6 ⟨hb60, A, cc, rfl, hrd0⟩
          have K6 := hid (K5.out.below hb60)
          have kp6 := hid (kp5.out.below_all hb60)
          have hB6 := hid (hB5.out.trans (hb60.mono hB5.out.size))
          have hrd := hid hrd0
          have hg5 : Hid (g < w5.heap.size) := hid K5.out.a.lt
          have hll : (nexts i ii).length ≤ 2 := by unfold nexts; split; · simp
                                                   split; · simp
                                                   split <;> simp
          clear hb60 hrd0 p0 p1 p2 x3 hnx
          generalize nexts i ii = l at *
          generalize dv - tk + ly = d at *
          have hll2 : (l.length : Int) ≤ 2 := by omega
          clear hll hw1 hw2 t1
          obtain ⟨wo, hwo⟩ : ∃ wo, wo = wr := ⟨_, rfl⟩
          have HWO := hid hwo
          have HLB : Hid (leftB wo h p.code.length = c.left p.code.length) := hid (by rw [hwo]; exact K.out.left)
          clear hwo
          go_wp2_with fail
          go_loopw [13] (fun v wy => ∃ (q : Nat) (dep' : Nat → Int) (cs ls : Array Value), v = .int .i64 q ∧ q ≤ l.length ∧ DkAt wy g h p.code.length ⟨dep', setN c.lk i true⟩ cs ls ∧ DepR dep' ∧ lookAt p.code c.dep i = leads p.code.length i d (l.drop q) dep' ∧ Upd (fun b => b = g) w6 wy) (fun v _ => l.length - (intOf v).toNat)
          case atStart => exact ⟨0, c.dep, _, _, rfl, Nat.zero_le _, K6.out, I.out.rng, by rw [List.drop_zero]; exact hlk2.out, Upd.refl _ _⟩
          case round =>
            clear K6 hlk2
            obtain ⟨q, dep', cs7, ls7, rfl, hq, K70, hr70, hlk70, U70⟩ := hrel
            have K7 := hid K70
            have hr7 := hid hr70
            have hlk7 := hid hlk70
            have hB7 := hid (hB6.out.trans (U70.below hB6.out.size fun j hj e => by have := hgg.out; omega))
            have kp7 := hid (kp6.out.upd U70 (fun e => by have := hgg.out; omega))
            have hrd7 := hid (hrd.out.upd U70 (fun b hb e => by have := hg5.out; omega))
            have U7 := hid U70
            clear K70 hr70 hlk70 U70
            have p0 := kp7.out.cell 0
            have p1 := kp7.out.cell 1
            have p2 := kp7.out.cell 2
            simp only [List.getElem?_toArray, List.getElem?_cons_zero, List.getElem?_cons_succ] at p0 p1 p2
            by_cases hlt : q < l.length
            · have q1 : (q : Int) < (l.length : Int) := by omega
              have q0 : (0 : Int) ≤ (q : Int) := by omega
              have hwq : IntKind.i64.wrap ((q : Int) + 1) = (q : Int) + 1 := IntWalk.i64_in _ (by omega)
              obtain ⟨bl, ol, hAl, _, hbll, hcl⟩ := Rd.at_ hrd7.out hlt
              have y0 := hcl q (.int .i64 (l[q] : Nat)) (by rw [List.getElem?_map, List.getElem?_eq_getElem hlt]; rfl)
              have hstep := hid (leads_drop (n := p.code.length) (at_ := i) (d := d) (dep := dep') hlt)
              subst hAl
              clear hcl
              generalize l[q] = tg at *
              have p2' : ∀ n, (wr.drewN n).cell? ⟨w.heap.size, 2, none⟩ = some (.slice (some ⟨b, o, none⟩) p.code.length c2) := fun _ => p2
              have y0' : ∀ n, (wr.drewN n).cell? ⟨bl, ol + q, none⟩ = some (.int .i64 (tg : Nat)) := fun _ => y0
              by_cases hbig : p.code.length ≤ tg
              · have t1 : decide ((p.code.length : Int) ≤ (tg : Int)) = true := decide_eq_true (by omega)
                have t1' : decide (p.code.length ≤ tg) = true := decide_eq_true hbig
                have hres : Hid (p.find = .inr (57, i)) := hid (hfi.out.trans (runC_bad hln.out (hlk7.out.trans (hstep.out.trans (by unfold leadTo; rw [if_pos hbig])))))
                clear hbig
                go_upto_region 19 with fail
                go_quiet (fail)
                go_wp2_with fail
                go_ret3
                refine ⟨below_drewN hB7.out _, ?_⟩
                rw [hres.out]
                rfl
              have t1 : decide ((p.code.length : Int) ≤ (tg : Int)) = false := decide_eq_false (by omega)
              have t1' : decide (p.code.length ≤ tg) = false := decide_eq_false hbig
              have g1 : (tg : Int) < (p.code.length : Int) := by omega
              have g0 : (0 : Int) ≤ (tg : Int) := by omega
              have htl : Hid (tg < p.code.length) := hid (by omega)
              have hl2 : Hid (leadTo p.code.length i d dep' tg = if dep' tg = -1 then .inl (setN dep' tg d) else if dep' tg = d then .inl dep' else .inr (56, i)) := hid (by unfold leadTo; rw [if_neg hbig])
              have hrtg := hr7.out tg
              clear hbig
              go_upto_region 19 with fail
              go_quiet (fail)
              have K8 := hid (K7.out.below (below_drewN (Below.refl _ wr) nq))
              have hB8 := hid (below_drewN hB7.out nq)
              have U8 := hid (U7.out.drewN nq)
              clear p0 p1 p2 y0
              have p2 := p2' nq
              have y0 := y0' nq
              clear p2' y0'
              generalize wr.drewN nq = w9 at *
              have x4 : w9.cell? ⟨g, tg, none⟩ = some (.int .i64 (dep' tg)) := K8.out.cdep htl.out
              have fz : ∀ z, w9.frozen? ⟨g, z, none⟩ = false := fun z => K8.out.a.frozen z
              have Kn := hid (K8.out.setDep htl.out d)
              have Un : Hid (Upd (fun b => b = g) w6 (w9.setCell ⟨g, tg, none⟩ (.int .i64 d))) := hid (U8.out.setCell (p := ⟨g, tg, none⟩) (fun _ => rfl) _)
              generalize hdt : dep' tg = dt at *
              by_cases h1 : dt = -1
              · have u1 : decide (0 ≤ dt) = false := decide_eq_false (by omega)
                have hfin : Hid (DkAt (w9.setCell ⟨g, tg, none⟩ (.int .i64 d)) g h p.code.length ⟨setN dep' tg d, setN c.lk i true⟩ (cs7.setIfInBounds tg (.int .i64 d)) ls7 ∧ DepR (setN dep' tg d) ∧ lookAt p.code c.dep i = leads p.code.length i d (l.drop (q + 1)) (setN dep' tg d) ∧ Upd (fun b => b = g) w6 (w9.setCell ⟨g, tg, none⟩ (.int .i64 d))) := hid ⟨Kn.out, (leadTo_ok hd32.out hr7.out (hl2.out.trans (if_pos h1))).2.2.2, hlk7.out.trans (hstep.out.trans (by rw [hl2.out, if_pos h1])), Un.out⟩
                clear h1 hrtg hdt
                go_wp2_with fail
                go_roundw
                case rel => exact ⟨q + 1, _, _, _, by go_num, hlt, hfin.out⟩
                case measure => simp [intOf]; omega
              · have u1 : decide (0 ≤ dt) = true := decide_eq_true (by omega)
                by_cases h2 : dt = d
                · have u2 : (dt == d) = true := by simpa using h2
                  have u3 : (dt != d) = false := by simpa using h2
                  have hse : setN dep' tg d = dep' := by
                    funext j
                    unfold setN
                    split
                    · rename_i e; rw [e, hdt, h2]
                    · rfl
                  have hfin : Hid (DkAt (w9.setCell ⟨g, tg, none⟩ (.int .i64 d)) g h p.code.length ⟨dep', setN c.lk i true⟩ (cs7.setIfInBounds tg (.int .i64 d)) ls7 ∧ DepR dep' ∧ lookAt p.code c.dep i = leads p.code.length i d (l.drop (q + 1)) dep' ∧ Upd (fun b => b = g) w6 (w9.setCell ⟨g, tg, none⟩ (.int .i64 d))) := hid ⟨by have := Kn.out; simp only [hse] at this; exact this, hr7.out, hlk7.out.trans (hstep.out.trans (by rw [hl2.out, if_neg h1, if_pos h2])), Un.out⟩
                  clear h1 h2 hrtg hdt hse
                  go_wp2_with fail
                  go_roundw
                  case rel => exact ⟨q + 1, _, _, _, by go_num, hlt, hfin.out⟩
                  case measure => simp [intOf]; omega
                · have u2 : (dt == d) = false := by simpa using h2
                  have u3 : (dt != d) = true := by simpa using h2
                  have hres : Hid (p.find = .inr (56, i)) := hid (hfi.out.trans (runC_bad hln.out (hlk7.out.trans (hstep.out.trans (by rw [hl2.out, if_neg h1, if_neg h2])))))
                  clear h1 h2 hrtg hdt
                  go_wp2_with fail
                  go_ret3
                  refine ⟨hB8.out, ?_⟩
                  rw [hres.out]
                  rfl
            · obtain rfl : q = l.length := by omega
              have hlo : lookAt p.code c.dep i = .inl dep' := hlk7.out.trans (by rw [List.drop_length]; rfl)
              have hI2 := I.out.step hdu.out.1 hlo
              have hfin : Hid (DkAt wr g h p.code.length ⟨dep', setN c.lk i true⟩ cs7 ls7 ∧ CkI p.code ⟨dep', setN c.lk i true⟩ ∧ p.find = runC p.code ⟨dep', setN c.lk i true⟩ ∧ Blk wr w.heap.size 33 #[.int .i64 p.args, .slice A1 p.cs.length c1, .slice (some ⟨b, o, none⟩) p.code.length c2] ∧ Below w.heap.size w wr) := hid ⟨K7.out, hI2, hfi.out.trans (runC_ok hln.out hlo), kp7.out, hB7.out⟩
              have hms : Hid (leftB wr h p.code.length < leftB wo h p.code.length) := hid (by
                rw [K7.out.left, HLB.out]
                have := left_set c p.code.length i dep' hil.out hdu.out.2
                omega)
              clear hlo hI2
              go_wp2_with fail
              go_roundw
              case rel => exact ⟨_, _, _, hfin.out⟩
              case measure => rw [← HWO.out]; exact hms.out

end Go.Proofs.YtdmogoaaecdbaaaGreatDoor

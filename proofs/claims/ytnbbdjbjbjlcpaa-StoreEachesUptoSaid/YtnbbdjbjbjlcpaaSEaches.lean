/- store: StoreEaches. -/
import Derived.Test.YtnbbdjbjbjlcpaaSEachI
namespace Go.Proofs.Ytnbbdjbjbjlcpaa
open Go.RowKit Go.Shelf Go.BigFrame
set_option linter.unusedVariables false
set_option linter.unusedSimpArgs false
attribute [local go_sem] Oper.semAt_some

theorem run_store_func (P : Program) (w : World) (a : Addr) (f : Fn) (x b : Array Value) (m : Mode) : (store a (.func f x b) m).run P w = stored P w a (.func f x b) m := run_store P w a _ m rfl
attribute [local go_sem] run_store_func
theorem run_eqFunc (b : Array Value) (w : World) : (Go.binOp BinOp.eql 34 (.func (.func 22) #[] b) .nilFunc).run Try.prog w = .ok (.bool false) w := by kernel_rfl
theorem blk_boxed {w : World} {g : Nat} {t : TypeId} {v : Value} (h : Blk w g t #[v]) : Boxed w g t v := h
theorem long_false {us : List SA} (h : longB us = false) : us.length ≤ 200 ∧ ∀ a ∈ us, a.ks.length ≤ 6000 ∧ a.ws.length ≤ 6000 := by
  unfold longB at h
  simp at h
  refine ⟨by omega, fun a ha => ?_⟩
  have := partsA_mem ha
  unfold partA at this
  omega
section
variable {w : World}
theorem leaves_ret {F : Fence} {n : Nat} {P : Program} {fn : Func} {R : Ending → World → Prop} {a : Act} {W : World} {v : Value} (hd : a.defers = []) (hr : (results fn a.tmps).run P W = .ok v W) (h : R (.returned v) W) : bodyPostM F n P fn R .ret a W := by
  show LeavesInM F n P fn a.tmps R a.defers .returning W
  rw [hd]
  exact ⟨v, hr, h⟩
theorem res_cell {W : World} {b : Nat} {v : Bool} {tmps : Array Value} (hb : Blk W b 4 #[.bool v]) (ht : tmps[4]? = some (.pointer (some ⟨b, 0, none⟩))) : (results Try.f3 tmps).run Try.prog W = .ok (.bool v) W := by
  have hc := hb.cell 0
  simp [results, Try.f3, go_sem, hc, ht]
set_option maxRecDepth 100000 in
set_option maxHeartbeats 4000000 in
theorem eaches_any {Sx : Nat → Prop} (p r st : Int) {A : Option Addr} {c : Nat} {us : List SA} (h : SActs Sx w A us) (hn : us.length ≤ 1048576) (hp : partsA us ≤ 1048576) (hz : ∀ a ∈ us, okKs a.ks ∧ okWs a.ws) :
    Calls Try.prog 3 #[.agg #[.int .i64 p, .int .i64 r, .slice A us.length c], .int .i64 st] w fun e w' => e = .returned (.bool true) ∧ Below w.heap.size w w' := by
  have k2 := hid ((Blk.new w 24 #[.int .i64 p, .int .i64 r, .slice A us.length c]).alloc (.cells #[.int .i64 st] 3) |>.alloc (.cells #[.bool false] 4))
  have k3 := hid ((Blk.new' (w.alloc (.cells #[.int .i64 p, .int .i64 r, .slice A us.length c] 24)) 3 #[.int .i64 st] (g := w.heap.size + 1) (by simp)).alloc (.cells #[.bool false] 4))
  have k4 := hid (Blk.new' ((w.alloc (.cells #[.int .i64 p, .int .i64 r, .slice A us.length c] 24)).alloc (.cells #[.int .i64 st] 3)) 4 #[.bool false] (g := w.heap.size + 1 + 1) (by simp))
  have hs := hid (h.below ((below_two _ _).alloc (by simp; omega) _ : Below w.heap.size w (((w.alloc (.cells #[.int .i64 p, .int .i64 r, .slice A us.length c] 24)).alloc (.cells #[.int .i64 st] 3)).alloc (.cells #[.bool false] 4))))
  have hB1 : Hid (Below w.heap.size w (((w.alloc (.cells #[.int .i64 p, .int .i64 r, .slice A us.length c] 24)).alloc (.cells #[.int .i64 st] 3)).alloc (.cells #[.bool false] 4))) := hid ((below_two _ _).alloc (by simp; omega) _)
  have hlong := hid (long_any (c := c) p r hs.out hn hp)
  have hz := hid hz
  clear h hn hp
  refine (callsIn_wide (n := 20)).1 ?_
  refine callsIn_of_wp_marks Try.func3 rfl trivial ?_ rfl
  simp only [Try.ntmps3, List.size_toArray, List.length_cons, List.length_nil, Nat.reduceAdd, Nat.reduceSub, Array.replicate_succ, Array.replicate_zero, List.push_toArray, List.append_toArray, List.nil_append, List.cons_append]
  have x0 := k2.out.cell 0
  have x1 := k2.out.cell 1
  have x2 := k2.out.cell 2
  generalize hw1 : ((w.alloc (.cells #[.int .i64 p, .int .i64 r, .slice A us.length c] 24)).alloc (.cells #[.int .i64 st] 3)).alloc (.cells #[.bool false] 4) = w1 at *
  gi_wp2
  generalize hwm : w.heap.size = m at *
  clear hw1
  refine ⟨trivial, (callsIn_wide.2 hlong.out).mono ?_⟩
  rintro e w2 ⟨rfl, hb2⟩
  have hB2 := hid (hB1.out.trans (hb2.mono (le_eq hwm hB1.out.size)))
  have k2 := hid (k2.out.below_all hb2)
  have k3 := hid (k3.out.below_all hb2)
  have k4 := hid (k4.out.below_all hb2)
  have hs := hid (hs.out.below hb2)
  clear hlong hb2 x0 x1 x2
  cases hl : longB us with
  | true =>
    have c4 := k4.out.cell 0
    have f4 := k4.out.frozen 0
    gi_wp2
    exact leaves_ret rfl (res_cell (k4.out.set_ 0 (.bool true)) rfl) ⟨rfl, by rw [hwm]; exact hB2.out.setCell (p := ⟨m + 1 + 1, 0, none⟩) (by simp only; omega) _⟩
  | false =>
    obtain ⟨hn, hp⟩ := long_false hl
    have hp := hid hp
    have hn := hid hn
    clear hl
    have x0 := k2.out.cell 0
    have x1 := k2.out.cell 1
    have x2 := k2.out.cell 2
    gi_wp2
    clear x0 x1 x2
    cases hg : goodPR p r with
    | false =>
      refine ⟨trivial, (callsIn_wide.2 (both_bad (Sx := Sx) p r hg)).mono ?_⟩
      rintro e w3 ⟨rfl, hb3⟩
      have hB3 := hid (hB2.out.trans (hb3.mono (le_eq hwm hB2.out.size)))
      have k4 := hid (k4.out.below_all hb3)
      clear hb3 hg
      gi_wp2
      refine ⟨trivial, (callsIn_wide.2 (live_any _)).mono ?_⟩
      rintro e w4 ⟨rfl, hb4⟩
      have k4 := hid ((k4.out.alloc _).below_all hb4)
      have hB4 := hid ((hB3.out.alloc (le_eq hwm hB3.out.size) _).trans (hb4.mono (le_eq hwm (hB3.out.alloc (le_eq hwm hB3.out.size) _).size)))
      have c4 := k4.out.cell 0
      have f4 := k4.out.frozen 0
      gi_wp2
      exact leaves_ret rfl (res_cell (k4.out.set_ 0 (.bool true)) rfl) ⟨rfl, by rw [hwm]; exact hB4.out.setCell (p := ⟨m + 1 + 1, 0, none⟩) (by simp only; omega) _⟩
    | true =>
      obtain ⟨p, r, rfl, rfl, hp1, hr1⟩ := good_nat hg
      refine ⟨trivial, (callsIn_wide.2 (both_ok p r hs.out hn.out hp.out hz.out hp1 hr1)).mono ?_⟩
      rintro e w3 ⟨g, r', rfl, ⟨S, S2, s, hP, hR, hS, hS2, hSS⟩, hb3⟩
      have hSn := hid hP.lt
      have hsz2 := hid hb3.size
      have hB4 := hid ((hB2.out.trans (hb3.mono (le_eq hwm hB2.out.size))).alloc (le_eq hwm (hB2.out.trans (hb3.mono (le_eq hwm hB2.out.size))).size) (.cells #[.pointer (some ⟨g, 0, none⟩)] 26))
      have hm2 := hid k4.out.lt
      have k3 := hid ((k3.out.below_all hb3).alloc (.cells #[.pointer (some ⟨g, 0, none⟩)] 26))
      have k4 := hid ((k4.out.below_all hb3).alloc (.cells #[.pointer (some ⟨g, 0, none⟩)] 26))
      have k5 := hid (Blk.new w3 26 #[.pointer (some ⟨g, 0, none⟩)])
      have hal : Below w3.heap.size w3 (w3.alloc (.cells #[.pointer (some ⟨g, 0, none⟩)] 26)) := (Below.refl _ _).alloc (Nat.le_refl _) _
      have hP := hid (hP.below hal)
      have hdump := hid (rdump_any (hR.below hal))
      have hdl := hid (show ((dumpL s.L).length : Int) ≤ 262144 by have := hR.ok.dlen; omega)
      have hS := hid hS
      have hs4 := hid (show w3.heap.size < (w3.alloc (.cells #[.pointer (some ⟨g, 0, none⟩)] 26)).heap.size by simp)
      clear hR hS2 hSS hb3 hal k2 hs hg hp1 hr1 hp hn hz
      have c5 := k5.out.cell 0
      generalize hw4 : w3.alloc (.cells #[.pointer (some ⟨g, 0, none⟩)] 26) = w4 at *
      generalize hN0 : w3.heap.size = n₀ at *
      generalize hDD : dumpL s.L = D at *
      gi_wp2
      refine ⟨trivial, (callsIn_wide.2 hdump.out).mono ?_⟩
      rintro e w5 ⟨A', c', rfl, ho, hb5⟩
      have hP := hid (hP.out.below hb5)
      have k3 := hid (k3.out.below_all hb5)
      have k4 := hid (k4.out.below_all hb5)
      have k5 := hid (k5.out.below_all hb5)
      have ho := hid (own_base (show n₀ ≤ w4.heap.size by have := hs4.out; omega) ho)
      have hs5 := hid (show n₀ < w5.heap.size by have := hs4.out; have := hb5.size; omega)
      have hB5 := hid (hB4.out.trans (hb5.mono (le_eq hwm hB4.out.size)))
      clear hdump hb5 c5 hw4 hs4
      have c5 := ((k5.out.alloc (.cells #[.slice A' D.length c'] 31))).cell 0
      gi_wp2
      refine ⟨trivial, (callsIn_wide.2 (each_any _ _)).mono ?_⟩
      rintro e wq ⟨rfl, rfl⟩
      have hfe := run_eqFunc
      gi_wp2
      clear hfe c5
      have hq : Hid (n₀ < w5.heap.size) := hs5
      obtain ⟨o1, ho1⟩ : ∃ o : Obj, o = .cells #[.slice A' D.length c'] 31 := ⟨_, rfl⟩
      obtain ⟨o2, ho2⟩ : ∃ o : Obj, o = .cells #[.pointer (some ⟨g, 0, none⟩)] 26 := ⟨_, rfl⟩
      obtain ⟨o3, ho3⟩ : ∃ o : Obj, o = .cells #[.func (.func 22) #[] #[.pointer (some ⟨w5.heap.size + 1, 0, none⟩)]] 34 := ⟨_, rfl⟩
      obtain ⟨o4, ho4⟩ : ∃ o : Obj, o = .cells #[.int .i64 0] 3 := ⟨_, rfl⟩
      have k7 : Blk ((((w5.alloc o1).alloc o2).alloc o3).alloc o4) w5.heap.size 31 #[.slice A' D.length c'] := by rw [ho1]; exact (((Blk.new w5 _ _).alloc _).alloc _).alloc _
      have kn : Blk ((((w5.alloc o1).alloc o2).alloc o3).alloc o4) (w5.heap.size + 1) 26 #[.pointer (some ⟨g, 0, none⟩)] := by rw [ho2]; exact ((Blk.new' _ _ _ (by simp)).alloc _).alloc _
      have k8 : Blk ((((w5.alloc o1).alloc o2).alloc o3).alloc o4) (w5.heap.size + 1 + 1) 34 #[.func (.func 22) #[] #[.pointer (some ⟨w5.heap.size + 1, 0, none⟩)]] := by rw [ho3]; exact (Blk.new' _ _ _ (by simp)).alloc _
      have k9 : Blk ((((w5.alloc o1).alloc o2).alloc o3).alloc o4) (w5.heap.size + 1 + 1 + 1) 3 #[.int .i64 0] := by rw [ho4]; exact Blk.new' _ _ _ (by simp)
      have hP0 := hid (hP.out.below ((((Below.refl _ _).alloc (Nat.le_refl _) o1).alloc (by simp) o2).alloc (by simp; omega) o3 |>.alloc (by simp; omega) o4))
      have i0 : EInv n₀ m n₀ w5.heap.size (w5.heap.size + 1) (w5.heap.size + 1 + 1) g st A' c' D ((((w5.alloc o1).alloc o2).alloc o3).alloc o4) := ⟨(((k3.out.alloc o1).alloc o2).alloc o3).alloc o4, (((k4.out.alloc o1).alloc o2).alloc o3).alloc o4, (((k5.out.alloc o1).alloc o2).alloc o3).alloc o4, k7, kn, k8, (((ho.out.alloc o1).alloc o2).alloc o3).alloc o4⟩
      have hBW := hid ((((hB5.out.alloc (le_eq hwm hB5.out.size) o1).alloc (by have := le_eq hwm hB5.out.size; simp; omega) o2).alloc (by have := le_eq hwm hB5.out.size; simp; omega) o3).alloc (by have := le_eq hwm hB5.out.size; simp; omega) o4)
      have hszW : Hid (((((w5.alloc o1).alloc o2).alloc o3).alloc o4).heap.size = w5.heap.size + 1 + 1 + 1 + 1) := hid (by simp)
      rw [← ho1, ← ho2, ← ho3, ← ho4]
      have kn := hid kn
      have i0 := hid i0
      have k9 := hid k9
      generalize (((w5.alloc o1).alloc o2).alloc o3).alloc o4 = W0 at *
      generalize w5.heap.size = q at *
      clear ho1 ho2 ho3 ho4 k7 k8 k3 k4 k5 ho hP hs5 k2
      have hSB := hid (show ∀ j, S j → j < W0.heap.size from fun j hj => by have := hSn.out j hj; have := hq.out; have := hszW.out; omega)
      have hE9 := hid (show ¬ EB m n₀ q (q + 1) (q + 1 + 1) (q + 1 + 1 + 1) from fun h => by have := hq.out; have := hm2.out; have := hsz2.out; rcases h with h | h | h | h | h | h <;> omega)
      have hES := hid (show ∀ b, EB m n₀ q (q + 1) (q + 1 + 1) b → ¬ S b from fun b h hb => by have := hSn.out b hb; have := hS.out b hb; have := hq.out; have := hm2.out; have := hsz2.out; rcases h with h | h | h | h | h | h <;> omega)
      have hS9 := hid (show ¬ S (q + 1 + 1 + 1) from fun h => by have := hSn.out _ h; have := hq.out; omega)
      have hmW := hid (show m ≤ W0.heap.size by have := hm2.out; have := hsz2.out; have := hq.out; have := hszW.out; omega)
      have hmS := hid (show ∀ j, S j → m ≤ j from fun j hj => by have := hS.out j hj; have := hm2.out; omega)
      have hm9 := hid (show m ≤ q + 1 + 1 + 1 by have := hm2.out; have := hsz2.out; have := hq.out; omega)
      refine wpIn_rangeFunc_ownH rfl (by decide) (gf := 22) (lb := #[.pointer (some ⟨q + 1, 0, none⟩)]) rfl trivial (enters_of Try.func22 (by kernel_rfl) rfl)
        (each_stops 19 (q + 1) n₀ (by decide) hP0.out kn.out (by have := hq.out; have := hszW.out; omega)) (fun h k => h.trans k) kpI_b (Below.refl _ _) (fun _ => rfl)
        (OI w S s n₀ m n₀ q (q + 1) (q + 1 + 1) (q + 1 + 1 + 1) g st A' c' D) (fun c pre W => c = .ret ∧ ¬ pre <+: D)
        (fun pre X Y row h hg hr => h.keeps hSB.out hmW.out (keeps_grown hg hr)) (fun _ _ _ _ _ h _ _ => h)
        ⟨List.nil_prefix, i0.out, k9.out, fun _ => hP0.out, hBW.out⟩
        (fun x a' W => ∃ Bx, Blk W Bx 37 #[.int .i64 x.2.k, .int .i64 x.2.n, .string x.2.s] ∧ a' = { tmps := #[.agg #[.int .i64 (p : Nat), .int .i64 (r : Nat), .slice A us.length c], .int .i64 st, .pointer (some ⟨m, 0, none⟩), .pointer (some ⟨m + 1, 0, none⟩), .pointer (some ⟨m + 1 + 1, 0, none⟩), .pointer (some ⟨n₀, 0, none⟩), .pointer (some ⟨r', 0, none⟩), .pointer (some ⟨q, 0, none⟩), .pointer (some ⟨q + 1 + 1, 0, none⟩), .pointer (some ⟨q + 1 + 1 + 1, 0, none⟩), .string x.1, .pointer (some ⟨Bx, 0, none⟩), undef, undef, undef, .agg #[.int .i64 (p : Nat), .int .i64 (r : Nat), .slice A us.length c], .bool false, .tuple #[.pointer (some ⟨g, 0, none⟩), .pointer (some ⟨r', 0, none⟩)], .agg #[.int .i64 (p : Nat), .int .i64 (r : Nat), .slice A us.length c], .tuple #[.pointer (some ⟨g, 0, none⟩), .pointer (some ⟨r', 0, none⟩)], .pointer (some ⟨g, 0, none⟩), .pointer (some ⟨r', 0, none⟩), .pointer (some ⟨g, 0, none⟩), .bool false, undef, undef, undef, undef, undef, .pointer (some ⟨r', 0, none⟩), (.slice A' D.length c'), .pointer (some ⟨g, 0, none⟩), .func (.func 22) #[] #[.pointer (some ⟨q + 1, 0, none⟩)], .func (.func 22) #[] #[.pointer (some ⟨q + 1, 0, none⟩)], .bool false, .func (.func 22) #[] #[.pointer (some ⟨q + 1, 0, none⟩)], .string x.1, .agg #[.int .i64 x.2.k, .int .i64 x.2.n, .string x.2.s], undef, undef, undef, undef, undef, undef, undef, undef, undef, undef, undef, undef, undef, undef, undef, undef, undef, undef, undef, undef, undef, undef, undef, undef, undef, undef, undef, undef, undef, undef, undef, undef, undef, undef, undef, undef, undef, undef, undef, undef, undef, undef, undef, undef, undef, undef, undef, undef, undef, undef], defers := [] })
        (fun x a' _ X Y row h hg hr => by obtain ⟨Bx, h1, h2⟩ := h; exact ⟨Bx, h1.keeps (keeps_grown hg hr), h2⟩)
        ?assign ?body ?done ?stop
      case assign =>
        rintro l pre x W K hi hK
        have hi := hid hi
        simp only [encV]
        gi_wp2
        exact hK _ _ ((KeepsOthers.alloc _ _).from _) (.bel ((Below.refl _ _).alloc (Nat.le_refl _) _)) (hi.out.keeps hSB.out hmW.out (keeps_below ((Below.refl _ _).alloc (Nat.le_refl _) _))) ⟨W.heap.size, Blk.new _ _ _, rfl⟩
      case body =>
        rintro l pre x a' W hl ⟨rec, hrec⟩ hOI ⟨Bx, kx, rfl⟩ hlt
        rw [hDD] at hlt
        have hWB := hid (show W0.heap.size ≤ W.heap.size by have := (Array.getElem?_eq_some_iff.1 hrec).1; omega)
        have hO := hid hOI
        have hbW := hid hOI.bel
        have c7 := hOI.inv.k7.cell 0
        have c9 := hOI.k9.cell 0
        have f9 := hOI.k9.frozen 0
        have c3 := hOI.inv.k3.cell 0
        have x0 := kx.cell 0
        have x1 := kx.cell 1
        have x2 := kx.cell 2
        obtain ⟨b, o, rfl, _, _, y0, y1, y2, y3⟩ := rd_kv (Rd.of_own' hOI.inv.row) hlt
        have kx := hid kx
        have hrec := hid hrec
        obtain ⟨z, hz0⟩ : ∃ z, z = D[pre.length] := ⟨_, rfl⟩
        rw [← hz0] at y0 y1 y2 y3
        have hz := hid hz0
        clear hz0
        have i9 : (pre.length : Int) < (D.length : Int) := by omega
        have i9 : decide ((D.length : Int) ≤ (pre.length : Int)) = false := decide_eq_false (by omega)
        have i8 : decide (D.length ≤ pre.length) = false := decide_eq_false (by omega)
        have i7 : (pre.length : Int) < (D.length : Int) := by omega
        have hgd : Try.prog.eqGuardType Try.prog.depth 39 = false := by kernel_rfl
        clear hOI
        by_cases hzx : z = x
        · obtain rfl := hzx.symm
          by_cases hst0 : (pre.length : Int) = st
          · have t1 : ((pre.length : Int) == st) = true := by simpa using hst0
            have hst := hid hst0
            clear hst0
            gi_wp2
            refine wpIn_region_quiet_round (F := Fence.wide) rfl (by kernel_rfl) (by kernel_rfl) (by kernel_rfl) ?_
            repeat (gi_big_quiet_step (fail))
            refine wpQuietIn_nil ?_
            intro _ hw'
            obtain ⟨nq, hw2⟩ := hw'
            subst hw2
            have hdr : Below W.heap.size W (W.drewN nq) := below_drewN (Below.refl _ _) nq
            have hok := hid (okk_below (m := m) (B := W0.heap.size) (n₀ := n₀) (by have := hWB.out; have := hmW.out; omega) hdr)
            have hO1 := hid (hO.out.keeps hSB.out hmW.out (keeps_below hdr))
            have kx1 := hid (kx.out.below_all hdr)
            have hrec1 := hid ((hdr.block l (Array.getElem?_eq_some_iff.1 hrec.out).1).trans hrec.out)
            clear x0 x1 x2 y0 y1 y2 y3 c7 c9 f9 c3 hO kx hdr
            generalize W.drewN nq = Wd at *
            have c9 := hO1.out.k9.cell 0
            have c3 := hO1.out.inv.k3.cell 0
            have c8 := (hO1.out.inv.k8.alloc (.cells #[.int .i64 0] 3)).cell 0
            gi_wp2
            have hszd := hid hok.out.1.size
            have hal : Below Wd.heap.size Wd (Wd.alloc (.cells #[.int .i64 0] 3)) := (Below.refl _ _).alloc (Nat.le_refl _) _
            have kk0 := hid (Blk.new Wd 3 #[.int .i64 0])
            have hO2 := hid (hO1.out.keeps hSB.out hmW.out (keeps_below hal))
            have kx2 := hid (kx1.out.below_all hal)
            have hrec2 := hid ((hal.block l (Array.getElem?_eq_some_iff.1 hrec1.out).1).trans hrec1.out)
            have hok2 := hid (hok.out.trans (okk_below (by have := hWB.out; have := hmW.out; have := hszd.out; omega) hal))
            have hb9d := hid hO1.out.k9.lt
            have hb8d := hid hO1.out.inv.k8.lt
            have hBd := hid (show W0.heap.size ≤ W.heap.size from hWB.out)
            have hgr := hid hal.size
            clear c9 c3 c8 hok hO1 kx1 hrec1 hrec hal
            generalize hbk : Wd.heap.size = bk at *
            generalize Wd.alloc (.cells #[.int .i64 0] 3) = Wi at *
            have hPi := hid (hO2.out.sto (by rw [hst.out]; omega))
            have hEk := hid (show ¬ EB m n₀ q (q + 1) (q + 1 + 1) bk from fun h => by have := hq.out; have := hm2.out; have := hsz2.out; have := hb8d.out; rcases h with h | h | h | h | h | h <;> omega)
            have hSk := hid (show ¬ S bk from fun h => by have := hSn.out _ h; have := hq.out; have := hb8d.out; omega)
            have hmk := hid (show m ≤ bk by have := hm9.out; have := hb9d.out; omega)
            have h9k := hid (show q + 1 + 1 + 1 ≠ bk from by have := hb9d.out; omega)
            refine wpIn_rangeFunc_ownN (l₀ := l) (r₀ := rec) rfl hrec2.out (by decide) (gf := 22) (lb := #[.pointer (some ⟨q + 1, 0, none⟩)]) rfl trivial (enters_of Try.func22 (by kernel_rfl) rfl)
              ((each_stops 17 (q + 1) n₀ (by decide) hPi.out hO2.out.inv.kn (by have := hq.out; have := hb8d.out; have := hgr.out; omega)).inRound l) (fun h k => h.trans k) kpI_b (Below.refl _ _) (fun _ => rfl)
              (fun pre' W' => pre' <+: D ∧ Blk W' bk 3 #[.int .i64 pre'.length] ∧ II S s n₀ m n₀ q (q + 1) (q + 1 + 1) (q + 1 + 1 + 1) g W0.heap.size Bx st (some ⟨b, o, none⟩) c' D pre x W W')
              (fun c pre' W' => (c = .ret ∧ ¬ pre' <+: D) ∨ (c = .exit 2 ∧ II S s n₀ m n₀ q (q + 1) (q + 1 + 1) (q + 1 + 1 + 1) g W0.heap.size Bx st (some ⟨b, o, none⟩) c' D pre x W W'))
              (fun pre' X Y row h hg hr => ⟨h.1, h.2.1.keeps (keeps_grown hg hr), h.2.2.grown (by have := hszd.out; have := hgr.out; omega) (fun j hj => by have := hSB.out j hj; have := hBd.out; have := hszd.out; have := hgr.out; omega) (by have := hmW.out; have := hBd.out; have := hszd.out; have := hgr.out; omega) hg hr⟩)
              (fun c pre' X Y row h hg hr => h.imp id fun h => ⟨h.1, h.2.grown (by have := hszd.out; have := hgr.out; omega) (fun j hj => by have := hSB.out j hj; have := hBd.out; have := hszd.out; have := hgr.out; omega) (by have := hmW.out; have := hBd.out; have := hszd.out; have := hgr.out; omega) hg hr⟩)
              ⟨List.nil_prefix, kk0.out, ⟨hO2.out.inv, hO2.out.k9, kx2.out, hPi.out, hok2.out.1, hok2.out.2.1, hok2.out.2.2⟩⟩
              (fun y a' W' => ∃ By, Blk W' By 37 #[.int .i64 y.2.k, .int .i64 y.2.n, .string y.2.s] ∧ a' = { tmps := #[.agg #[.int .i64 (p : Nat), .int .i64 (r : Nat), .slice A us.length c], .int .i64 st, .pointer (some ⟨m, 0, none⟩), .pointer (some ⟨m + 1, 0, none⟩), .pointer (some ⟨m + 1 + 1, 0, none⟩), .pointer (some ⟨n₀, 0, none⟩), .pointer (some ⟨r', 0, none⟩), .pointer (some ⟨q, 0, none⟩), .pointer (some ⟨q + 1 + 1, 0, none⟩), .pointer (some ⟨q + 1 + 1 + 1, 0, none⟩), .string x.1, .pointer (some ⟨Bx, 0, none⟩), .pointer (some ⟨bk, 0, none⟩), .string y.1, .pointer (some ⟨By, 0, none⟩), .agg #[.int .i64 (p : Nat), .int .i64 (r : Nat), .slice A us.length c], .bool false, .tuple #[.pointer (some ⟨g, 0, none⟩), .pointer (some ⟨r', 0, none⟩)], .agg #[.int .i64 (p : Nat), .int .i64 (r : Nat), .slice A us.length c], .tuple #[.pointer (some ⟨g, 0, none⟩), .pointer (some ⟨r', 0, none⟩)], .pointer (some ⟨g, 0, none⟩), .pointer (some ⟨r', 0, none⟩), .pointer (some ⟨g, 0, none⟩), .bool false, undef, undef, undef, undef, undef, .pointer (some ⟨r', 0, none⟩), .slice (some ⟨b, o, none⟩) D.length c', .pointer (some ⟨g, 0, none⟩), .func (.func 22) #[] #[.pointer (some ⟨q + 1, 0, none⟩)], .func (.func 22) #[] #[.pointer (some ⟨q + 1, 0, none⟩)], .bool false, .func (.func 22) #[] #[.pointer (some ⟨q + 1, 0, none⟩)], .string x.1, .agg #[.int .i64 x.2.k, .int .i64 x.2.n, .string x.2.s], .int .i64 (pre.length : Nat), .slice (some ⟨b, o, none⟩) D.length c', .int .i64 (D.length : Nat), .bool false, .bool false, .slice (some ⟨b, o, none⟩) D.length c', .int .i64 (pre.length : Nat), .pointer (some ⟨b, o + pre.length * 4, none⟩), .agg #[.string x.1, .int .i64 x.2.k, .int .i64 x.2.n, .string x.2.s], .string x.1, .agg #[.int .i64 x.2.k, .int .i64 x.2.n, .string x.2.s], .agg #[.string x.1, .int .i64 x.2.k, .int .i64 x.2.n, .string x.2.s], .bool false, .bool false, .int .i64 (pre.length : Nat), .int .i64 st, .bool true, .func (.func 22) #[] #[.pointer (some ⟨q + 1, 0, none⟩)], .string y.1, .agg #[.int .i64 y.2.k, .int .i64 y.2.n, .string y.2.s], undef, undef, undef, undef, undef, undef, undef, undef, undef, undef, undef, undef, undef, undef, undef, undef, undef, undef, undef, undef, undef, undef, undef, undef, undef, undef, undef, undef, undef, undef], defers := [] })
              (fun y a' _ X Y row h hg hr => by obtain ⟨By, h1, h2⟩ := h; exact ⟨By, h1.keeps (keeps_grown hg hr), h2⟩)
              ?assign2 ?body2 ?done2 ?stop2
            case assign2 =>
              rintro l2 pre' y W2 K hi hK
              have hi := hid hi
              simp only [encV]
              gi_wp2
              exact hK _ _ ((KeepsOthers.alloc _ _).from _) (.bel ((Below.refl _ _).alloc (Nat.le_refl _) _)) ⟨hi.out.1, hi.out.2.1.alloc _, hi.out.2.2.below ((Below.refl _ _).alloc (Nat.le_refl _) _)⟩ ⟨W2.heap.size, Blk.new _ _ _, rfl⟩
            case body2 =>
              rintro l2 pre' y a'' W2 _ _ ⟨hp0, kk, hJ0⟩ ⟨By, ky0, rfl⟩ hlt2
              rw [hDD] at hlt2
              have hJ := hid hJ0
              have hp2 := hid hp0
              have c7 := hJ0.inv.k7.cell 0
              have ck := kk.cell 0
              have x0 := ky0.cell 0
              have x1 := ky0.cell 1
              have x2 := ky0.cell 2
              obtain ⟨b', o', hAe, _, _, y0, y1, y2, y3⟩ := rd_kv (Rd.of_own' hJ0.inv.row) hlt2
              injection hAe with hAe
              injection hAe with e1 e2 e3
              subst e1 e2
              have kk := hid kk
              obtain ⟨z, hz0⟩ : ∃ z, z = D[pre'.length] := ⟨_, rfl⟩
              rw [← hz0] at y0 y1 y2 y3
              have hzz := hid hz0
              have i9 : decide ((D.length : Int) ≤ (pre'.length : Int)) = false := decide_eq_false (by omega)
              have i8 : decide (D.length ≤ pre'.length) = false := decide_eq_false (by omega)
              have i7 : (pre'.length : Int) < (D.length : Int) := by omega
              clear hz0 hJ0 ky0 e3 hp0
              by_cases hzy : z = y
              · obtain rfl := hzy.symm
                gi_wp2
                refine wpIn_region_quiet_round (F := Fence.wide) rfl (by kernel_rfl) (by kernel_rfl) (by kernel_rfl) ?_
                repeat (gi_big_quiet_step (fail))
                refine wpQuietIn_nil ?_
                intro _ hw'
                obtain ⟨nq, hw2⟩ := hw'
                subst hw2
                have hdr : Below W2.heap.size W2 (W2.drewN nq) := below_drewN (Below.refl _ _) nq
                have hok3 := hid (okk_below (m := m) (B := Wi.heap.size) (n₀ := n₀) (by have := hJ.out.inv.k4.lt; omega) hdr)
                have hJ1 := hid (hJ.out.below hdr)
                have kk1 := hid (kk.out.below_all hdr)
                clear x0 x1 x2 y0 y1 y2 y3 c7 ck hJ kk hdr
                generalize W2.drewN nq = Wd2 at *
                have ck := kk1.out.cell 0
                have fk := kk1.out.frozen 0
                have i6 : IntKind.i64.wrap ((pre'.length : Int) + 1) = (pre'.length : Int) + 1 := by rw [IntKind.wrap_i64]; have := hdl.out; omega
                have hsetk := hid (okk_set (m := m) (B := Wi.heap.size) (n₀ := n₀) hmk.out kk1.out (by decide) 0 (.int .i64 ((pre'.length : Int) + 1)))
                have hJ2 := hid (hJ1.out.set kk1.out hEk.out h9k.out hSk.out hmk.out 0 (.int .i64 ((pre'.length : Int) + 1)))
                by_cases h2 : (2 : Int) < (pre'.length : Int) + 1
                · have t2 : decide ((2 : Int) < (pre'.length : Int) + 1) = true := decide_eq_true h2
                  clear h2
                  gi_wp2
                  exact ⟨(hok3.out.trans hsetk.out).1, .inr ⟨rfl, hJ2.out⟩⟩
                · have t2 : decide ((2 : Int) < (pre'.length : Int) + 1) = false := decide_eq_false h2
                  clear h2
                  gi_wp2
                  exact ⟨(hok3.out.trans hsetk.out).1, (hok3.out.trans hsetk.out).2.1, pre_next hp2.out hlt2 hzz.out, by have := kk1.out.set_ 0 (.int .i64 ((pre'.length : Int) + 1)); simpa using this, hJ2.out⟩
              · have hbad : Hid (¬ pre' ++ [y] <+: D) := hid fun hp => hzy (by
                  obtain ⟨t, ht⟩ := hp
                  rw [hzz.out]
                  simp [← ht])
                have hne := item_ne hzy
                have c4 := hJ.out.inv.k4.cell 0
                have f4 := hJ.out.inv.k4.frozen 0
                clear hzy
                rcases hne with h1 | ⟨h1, h2⟩ | ⟨h1, h2, h3⟩ | ⟨h1, h2, h3, h4⟩
                all_goals
                  gi_wp2
                  refine wpIn_region_quiet_round (F := Fence.wide) rfl (by kernel_rfl) (by kernel_rfl) (by kernel_rfl) ?_
                  repeat (gi_big_quiet_step (fail))
                  refine wpQuietIn_nil ?_
                  intro _ hw'
                  obtain ⟨nq, hw2⟩ := hw'
                  subst hw2
                  gi_wp2
                  exact ⟨((okk_below (m := m) (B := Wi.heap.size) (n₀ := n₀) (by have := hJ.out.inv.k4.lt; omega) (below_drewN (Below.refl W2.heap.size W2) nq)).trans (okk_set (by omega) (hJ.out.inv.k4.drewN nq) (by decide) 0 _)).1, .inl ⟨rfl, hbad.out⟩⟩
            case done2 =>
              rintro D9 W9 hD9 ⟨_, _, hJ0⟩
              have hJ := hid hJ0
              have hkey := hid (dump_key hPi.out.ok hDD (x := x) (by rw [hz.out]; exact List.getElem_mem hlt))
              have c5 := (hJ.out.inv.k5.alloc (.cells #[.string x.1, .bool true, .int .i64 0, .int .i64 0, .string ⟨#[]⟩] 43)).cell 0
              have c5a := hJ.out.inv.k5.cell 0
              have hal : Below W9.heap.size W9 (W9.alloc (.cells #[.string x.1, .bool true, .int .i64 0, .int .i64 0, .string ⟨#[]⟩] 43)) := (Below.refl _ _).alloc (Nat.le_refl _) _
              have hJ2 := hid (hJ.out.below hal)
              have hrow := hid (Rd.new W9 43 5 1 #[.string x.1, .bool true, .int .i64 0, .int .i64 0, .string ⟨#[]⟩] W9.heap.size rfl rfl)
              have hap := hid (apply_any (c := 1) [⟨x.1, true, vl0⟩] hJ2.out.sto hrow.out (fun j hj hS => by have h1 := hSn.out j hS; have h2 := hJ.out.inv.k8.lt; have h3 := hq.out; omega) (by intro y hy; simp at hy; subst hy; exact ⟨hkey.out, show vl0.s.size ≤ 9223372036854775806 by decide⟩) (by simp))
              clear hal
              gi_wp2
              refine ⟨trivial, (CallsIn.inRound l (callsIn_wide.2 hap.out)).mono ?_⟩
              rintro e Wa ⟨rfl, hpa, hua⟩
              have hoka := hid ((show Okk m W0.heap.size n₀ W _ from ⟨hJ2.out.kf, hJ2.out.kp, hJ2.out.kb⟩).trans (okk_upd (by have := hJ2.out.inv.k4.lt; omega) hmS.out hua hSn.out (by have := hq.out; have := hszW.out; omega)))
              have hia := hid (hJ2.out.inv.upd hua hES.out hSn.out)
              have k9a := hid (hJ2.out.k9.upd hua hS9.out)
              clear hap hJ2 hua c5 c5a hrow
              have c9 := k9a.out.cell 0
              have f9 := k9a.out.frozen 0
              have i6 : IntKind.i64.wrap ((pre.length : Int) + 1) = (pre.length : Int) + 1 := by rw [IntKind.wrap_i64]; have := hdl.out; omega
              gi_wp2
              exact ⟨(hoka.out.trans (okk_set hm9.out k9a.out (by decide) 0 _)).1, (hoka.out.trans (okk_set hm9.out k9a.out (by decide) 0 _)).2.1, oi_next hia.out k9a.out (pre_next hO2.out.pf hlt hz.out) hE9.out hS9.out (fun e => absurd e (by have := hst.out; omega)) (hbW.out.trans hoka.out.2.2) hm9.out⟩
            case stop2 =>
              rintro c9 pre9 W9 hp9 (⟨_, hb9⟩ | ⟨rfl, hJ0⟩)
              · rw [hDD] at hp9
                exact absurd hp9 hb9
              have hJ := hid hJ0
              have hkey := hid (dump_key hPi.out.ok hDD (x := x) (by rw [hz.out]; exact List.getElem_mem hlt))
              have c5 := (hJ.out.inv.k5.alloc (.cells #[.string x.1, .bool true, .int .i64 0, .int .i64 0, .string ⟨#[]⟩] 43)).cell 0
              have c5a := hJ.out.inv.k5.cell 0
              have hal : Below W9.heap.size W9 (W9.alloc (.cells #[.string x.1, .bool true, .int .i64 0, .int .i64 0, .string ⟨#[]⟩] 43)) := (Below.refl _ _).alloc (Nat.le_refl _) _
              have hJ2 := hid (hJ.out.below hal)
              have hrow := hid (Rd.new W9 43 5 1 #[.string x.1, .bool true, .int .i64 0, .int .i64 0, .string ⟨#[]⟩] W9.heap.size rfl rfl)
              have hap := hid (apply_any (c := 1) [⟨x.1, true, vl0⟩] hJ2.out.sto hrow.out (fun j hj hS => by have h1 := hSn.out j hS; have h2 := hJ.out.inv.k8.lt; have h3 := hq.out; omega) (by intro y hy; simp at hy; subst hy; exact ⟨hkey.out, show vl0.s.size ≤ 9223372036854775806 by decide⟩) (by simp))
              clear hal
              gi_wp2
              refine ⟨trivial, (CallsIn.inRound l (callsIn_wide.2 hap.out)).mono ?_⟩
              rintro e Wa ⟨rfl, hpa, hua⟩
              have hoka := hid ((show Okk m W0.heap.size n₀ W _ from ⟨hJ2.out.kf, hJ2.out.kp, hJ2.out.kb⟩).trans (okk_upd (by have := hJ2.out.inv.k4.lt; omega) hmS.out hua hSn.out (by have := hq.out; have := hszW.out; omega)))
              have hia := hid (hJ2.out.inv.upd hua hES.out hSn.out)
              have k9a := hid (hJ2.out.k9.upd hua hS9.out)
              clear hap hJ2 hua c5 c5a hrow
              have c9 := k9a.out.cell 0
              have f9 := k9a.out.frozen 0
              have i6 : IntKind.i64.wrap ((pre.length : Int) + 1) = (pre.length : Int) + 1 := by rw [IntKind.wrap_i64]; have := hdl.out; omega
              gi_wp2
              exact ⟨(hoka.out.trans (okk_set hm9.out k9a.out (by decide) 0 _)).1, (hoka.out.trans (okk_set hm9.out k9a.out (by decide) 0 _)).2.1, oi_next hia.out k9a.out (pre_next hO2.out.pf hlt hz.out) hE9.out hS9.out (fun e => absurd e (by have := hst.out; omega)) (hbW.out.trans hoka.out.2.2) hm9.out⟩
          · have t1 : ((pre.length : Int) == st) = false := by simpa using hst0
            clear hst0
            gi_wp2
            refine wpIn_region_quiet_round (F := Fence.wide) rfl (by kernel_rfl) (by kernel_rfl) (by kernel_rfl) ?_
            repeat (gi_big_quiet_step (fail))
            refine wpQuietIn_nil ?_
            intro _ hw'
            obtain ⟨nq, hw2⟩ := hw'
            subst hw2
            have hdr : Below W.heap.size W (W.drewN nq) := below_drewN (Below.refl _ _) nq
            have hok := hid (okk_below (m := m) (B := W0.heap.size) (n₀ := n₀) (by have := hWB.out; have := hmW.out; omega) hdr)
            have hO1 := hid (hO.out.keeps hSB.out hmW.out (keeps_below hdr))
            clear x0 x1 x2 y0 y1 y2 y3 c7 c9 f9 c3 hO kx hdr
            generalize W.drewN nq = Wd at *
            have c9 := hO1.out.k9.cell 0
            have f9 := hO1.out.k9.frozen 0
            have c3 := hO1.out.inv.k3.cell 0
            have i6 : IntKind.i64.wrap ((pre.length : Int) + 1) = (pre.length : Int) + 1 := by rw [IntKind.wrap_i64]; have := hdl.out; omega
            gi_wp2
            exact ⟨(hok.out.trans (okk_set hm9.out hO1.out.k9 (by decide) 0 _)).1, (hok.out.trans (okk_set hm9.out hO1.out.k9 (by decide) 0 _)).2.1, oi_next hO1.out.inv hO1.out.k9 (pre_next hO1.out.pf hlt hz.out) hE9.out hS9.out (fun e => hO1.out.sto (by omega)) hO1.out.bel hm9.out⟩
        · have hbad : Hid (¬ pre ++ [x] <+: D) := hid fun hp => hzx (by
            obtain ⟨t, ht⟩ := hp
            rw [hz.out]
            simp [← ht])
          have hne := item_ne hzx
          clear hzx
          have c4 := hO.out.inv.k4.cell 0
          have f4 := hO.out.inv.k4.frozen 0
          rcases hne with h1 | ⟨h1, h2⟩ | ⟨h1, h2, h3⟩ | ⟨h1, h2, h3, h4⟩
          all_goals
            gi_wp2
            refine wpIn_region_quiet_round (F := Fence.wide) rfl (by kernel_rfl) (by kernel_rfl) (by kernel_rfl) ?_
            repeat (gi_big_quiet_step (fail))
            refine wpQuietIn_nil ?_
            intro _ hw'
            obtain ⟨nq, hw2⟩ := hw'
            subst hw2
            gi_wp2
            exact ⟨((okk_below (m := m) (B := W0.heap.size) (n₀ := n₀) (by have := hO.out.inv.k4.lt; omega) (below_drewN (Below.refl W.heap.size W) nq)).trans (okk_set (by omega) (hO.out.inv.k4.drewN nq) (by decide) 0 _)).1, rfl, hbad.out⟩
      case done =>
        rintro D9 xs W hD9 hxs hOI hK
        rw [hDD] at hxs
        subst hxs
        have hO := hid hOI
        have c9 := hOI.k9.cell 0
        have c7 := hOI.inv.k7.cell 0
        have k4 := hid hOI.inv.k4
        have hBl := hid hOI.bel
        have hK := hid hK
        clear hOI
        gi_wp2
        refine ⟨trivial, (callsIn_wide.2 (live_any _)).mono ?_⟩
        rintro e W4 ⟨rfl, hb4⟩
        have k4 := hid (k4.out.below_all hb4)
        have hB4 := hid (hBl.out.trans (hb4.mono (le_eq hwm hBl.out.size)))
        have hK4 := hid ((hb4.block D9 (Array.getElem?_eq_some_iff.1 hK.out).1).trans hK.out)
        have c4 := k4.out.cell 0
        have f4 := k4.out.frozen 0
        clear hb4 hK hO c9 c7
        gi_wp2
        have hK5 := (KeepsOthers.setCell W4 ⟨m + 1 + 1, 0, none⟩ (.bool true)).same D9 _ hK4.out rfl
        refine ⟨by simp, .inl ⟨_, _, rfl, run_takeDeferred hK5, ?_⟩⟩
        have hc5 := cell_kept ((k4.out.set_ 0 (.bool true)).cell 0) (grownBy_putObj' _ D9 (.deferred none)) (fun r e => by cases e; exact ⟨_, hK5, rfl⟩)
        refine ⟨.bool true, ?_, rfl, by rw [hwm]; exact (hB4.out.setCell (p := ⟨m + 1 + 1, 0, none⟩) (by simp only; omega) _).trans (belowK_b (w := W0) hmW.out _ D9 _ _ hD9 hK5 rfl rfl)⟩
        simp [results, Try.f3, go_sem, hc5]
      case stop =>
        rintro D' c9 pre W hD hpre ⟨_, hn⟩ _
        rw [hDD] at hpre
        exact absurd hpre hn
end
end Go.Proofs.Ytnbbdjbjbjlcpaa

/- value: ValueBytes: the walk. -/
import Derived.Test.YtbnpidmlcjofiaaDoorJ12
import Derived.Deep.RegionHeld3
import Derived.Laws.MakeOwn
namespace Go.Proofs.YtbnpidmlcjofiaaDoor
open Go.RowKit
set_option linter.unusedVariables false
set_option linter.unusedSimpArgs false

theorem same_any {S S' : Nat → Prop} {A B : Option Addr} {la lb : List Nat} {c d : Nat} {w : World} (ha : Rd S w 1 A la.length (bcells la)) (hb : Rd S' w 1 B lb.length (bcells lb)) : Calls Tryd.prog 12 #[.slice A la.length c, .slice B lb.length d] w fun e w' => e = .returned (.bool (decide (bt la = bt lb))) ∧ w' = w := by
  have h1 : (convert 22 9 (.slice A la.length c)).run Tryd.prog w = .ok (.string (bt la)) w := convB ha rfl
  have h2 : (convert 22 9 (.slice B lb.length d)).run Tryd.prog w = .ok (.string (bt lb)) w := convB hb rfl
  have hd := hid (bytes_dec (bt la) (bt lb))
  generalize bt la = x at *
  generalize bt lb = y at *
  clear ha hb
  go_enter Tryd.func12, Tryd.ntmps12
  go_wp2_with fail
  go_ret
  exact ⟨by rw [← hd.out]; rfl, by first | rfl | trivial⟩
theorem same_true {S S' : Nat → Prop} {A B : Option Addr} {l : List Nat} {c d : Nat} {w : World} (ha : Rd S w 1 A l.length (bcells l)) (hb : Rd S' w 1 B l.length (bcells l)) : Calls Tryd.prog 12 #[.slice A l.length c, .slice B l.length d] w fun e w' => e = .returned (.bool true) ∧ w' = w := by
  have := same_any (c := c) (d := d) ha hb
  rwa [decide_eq_true rfl] at this
theorem Rd.front {S : Nat → Prop} {w : World} {A : Option Addr} {l m : List Nat} (h : Rd S w 1 A (l ++ m).length (bcells (l ++ m))) : Rd S w 1 A l.length (bcells l) := by
  refine ⟨by unfold bcells; simp, fun hn => ?_⟩
  obtain ⟨b, o, e, hS, hb, hc⟩ := h.2 (by rw [List.length_append]; omega)
  refine ⟨b, o, e, hS, hb, fun j u hu => hc j u ?_⟩
  have hj := (List.getElem?_eq_some_iff.1 hu).1
  rw [bcells_append, List.getElem?_append_left hj]
  exact hu
theorem rd_seven {S : Nat → Prop} {w : World} {g : Nat} {bl : List Nat} (h : Rd S w 1 (some ⟨g, 0, none⟩) (bl ++ [7]).length (bcells (bl ++ [7]))) : w.cell? ⟨g, bl.length, none⟩ = some (.int .u8 7) := by
  obtain ⟨b, o, e, _, _, hc⟩ := h.2 (by simp)
  injection e with e
  injection e with e1 e2
  subst e1 e2
  have := hc bl.length (.int .u8 7) (by rw [bcells_snoc, List.getElem?_append_right (by simp [bcells])]; simp [bcells])
  simpa using this
theorem own_le {w : World} {base n : Nat} {e : TypeId} {v : Value} {xs : List Value} (h : w.ownsRow base e 1 v n xs) : n ≤ 9223372036854775807 := by
  obtain ⟨A, c, _, h1, h2⟩ := own_form h
  unfold maxLen at h2
  omega

set_option maxRecDepth 100000 in
set_option maxHeartbeats 8000000 in
theorem bytes_walk (A0 : Option Addr) (c0 : Nat) (bl : List Nat) (v : Vl) (w : World) (ha : Rd (fun b => b < w.heap.size) w 1 A0 bl.length (bcells bl)) (hl : bl.length ≤ 140737488351232) (hvs : v.s.size ≤ 140737488351232) (hr : v.rng) (he : Env w) : Calls Tryd.prog 3 #[.slice A0 bl.length c0, .agg #[.int .i64 v.k, .int .i64 v.n, .string v.s]] w fun e w' => e = .returned (.bool true) ∧ Below w.heap.size w w' := by
  obtain ⟨ib, hu0, hu1, hu2, hu3⟩ := info_parts info_u8
  obtain ⟨W, hW⟩ : ∃ W, W = w.alloc (.cells #[.int .i64 v.k, .int .i64 v.n, .string v.s] 24) := ⟨_, rfl⟩
  have hB : Hid (Below w.heap.size w W) := hid (by subst hW; exact (Below.refl _ _).alloc (Nat.le_refl _) _)
  have kv : Hid (Blk W w.heap.size 24 #[.int .i64 v.k, .int .i64 v.n, .string v.s]) := hid (by subst hW; exact Blk.new w _ _)
  have hev := hid (he.below hB.out)
  have hb9 := hid hl
  have h6w : Hid (6 ≤ w.heap.size) := hid he.big
  have hvr := hid hr; have hvz := hid hvs
  have hA := hid (ha.below hB.out fun b h => h)
  have hl9 : (bl.length : Int) ≤ 140737488351232 := by omega
  obtain ⟨Wm, hmk0, hmo0, hmg⟩ := run_make_own (P := Tryd.prog) W W.heap.size 22 5 ib _ 1 Tryd.underlying22 hu0 hu1 hu2 .i64 .i64 (bl.length + 200) (by rw [hu3]; omega) (by simp only [maxLen]; omega) (Nat.le_refl _)
  have hmk : (Instr.makeSlice 22 (.int .i64 0) (.int .i64 ((bl.length : Int) + 200))).run Tryd.prog W = .ok (.slice (some ⟨W.heap.size, 0, none⟩) 0 (bl.length + 200)) Wm := hmk0
  have hbm : Hid (Below W.heap.size W Wm) := hid ((Below.refl _ _).grown hmg (Nat.le_refl _) (by intro k hk; cases hk))
  have hmo := hid hmo0
  have hAm := hid (hA.out.below_all hbm.out)
  clear ha hl hvs hr he hmo0 hmg hmk0
  go_enter Tryd.func3, Tryd.ntmps3
  go_upto_region 1 with fail
  rw [← hW]
  clear hW
  go_upto_region 2 with (first
    | (at_builtin
       refine wpList_append_rd _ rfl (.tmp 12) (.tmp 13) 22 rfl W.heap.size 5 ib _ 1 1 Tryd.underlying22 hu0 hu1 hu2 hu3 rfl (by omega) (.slice (some ⟨W.heap.size, 0, none⟩) 0 (bl.length + 200)) 0 [] rfl hmo.out _ A0 bl.length c0 (bcells bl) rfl hAm.out (bcells_one bl) (by simp only [maxLen]; have := hb9.out; omega) (by have := hb9.out; omega) (by have := hbm.out.size; omega) ?_
       intro v5 w5 hown5 hg5 hat5
       have hB5 := hid (hbm.out.grown hg5 hbm.out.size fun k hk => (hmo.out.lt k hk).1)
       obtain ⟨A5, c5, rfl, _⟩ := own_form hown5
       have hown5 := hid hown5
       clear hg5 hat5 hmo hAm)
    | (at_builtin
       have hgate := hown5
       clear hgate
       refine wpList_append_rd _ rfl (.tmp 14) (.tmp 15) 22 rfl W.heap.size 5 ib _ 1 1 Tryd.underlying22 hu0 hu1 hu2 hu3 rfl (by omega) (.slice A5 (0 + bl.length) c5) (0 + bl.length) ([] ++ bcells bl) (by simp [Act.eval]) (hown5.out.alloc _) (fun b => b = w5.heap.size) (some ⟨w5.heap.size, 0, none⟩) 1 1 [.int .u8 7] rfl (Rd.new w5 5 1 1 #[.int .u8 7] _ rfl rfl) (by intro u hu; simp at hu; subst hu; rfl) (by simp only [maxLen]; have := hb9.out; omega) (by have := hb9.out; omega) (by have := hB5.out.size; simp; omega) ?_
       intro v6 w6 hown6 hg6 hat6
       have hB6 := hid ((hB5.out.alloc hB5.out.size (.cells #[.int .u8 7] 5)).grown hg6 (by have := hB5.out.size; simp; omega) fun k hk => (hown5.out.lt k hk).1)
       obtain ⟨A6, c6, rfl, hc6, _⟩ := own_form hown6
       have hcc6 := hid hc6
       have hown6 : Hid (w6.ownsRow W.heap.size 5 1 (.slice A6 (bl ++ [7]).length c6) (bl ++ [7]).length (bcells (bl ++ [7]))) := hid (by
         have e1 : (bl ++ [7]).length = 0 + bl.length + 1 := by simp
         have e2 : bcells (bl ++ [7]) = [] ++ bcells bl ++ [.int .u8 7] := by rw [bcells_snoc]; simp
         rw [e1, e2]; exact hown6)
       clear hg6 hat6 hc6))
  obtain ⟨g6, hA6e, hg6b⟩ : ∃ g, A6 = some ⟨g, 0, none⟩ ∧ W.heap.size ≤ g := by
    obtain ⟨g, cap, hv, h1, _⟩ := hown6.out.form (by simp)
    exact ⟨g, by injection hv, h1⟩
  subst hA6e
  have hG : Hid (Rd (fun b => b < w6.heap.size) w6 1 (some ⟨g6, 0, none⟩) (bl ++ [7]).length (bcells (bl ++ [7]))) := hid ((Rd.of_own' hown6.out).more fun b hS hb => hb)
  have i7 : (bl.length : Int) ≤ (c6 : Int) := by have := hcc6.out; omega
  have i8 : ¬ c6 = 0 := by have := hcc6.out; omega
  have i9 : (bl.length : Int) < (bl.length : Int) + 1 := by omega
  have hbd := hid hown6.out
  have hww6 : Hid (w.heap.size < w6.heap.size) := hid (by have h1 := kv.out.lt; have h2 := hB6.out.size; omega)
  clear hbd hown6 hg6b hcc6
  obtain ⟨P, hP⟩ : ∃ P, P = bl ++ vput v := ⟨_, rfl⟩
  have hbw := hB6
  have hB := hid (hB.out.trans (hbw.out.mono hB.out.size))
  have hA := hid (hA.out.below_all hbw.out)
  have kv := hid (kv.out.below_all hbw.out)
  have hev := hid (hev.out.below hbw.out)
  clear hbw hB5 hB6 hbm hmk
  have hput := hid (vput_any _ (some ⟨g6, 0, none⟩) c6 bl v w6.drew (Rd.front hG.out).drew (by have := hvz.out; omega) hvr.out.1 hvr.out.2 (by have := hb9.out; omega))
  rw [← hP] at hput
  have hPh := hid hP
  clear hP
  have x0 : w6.cell? ⟨w.heap.size, 0, none⟩ = some (.int .i64 v.k) := kv.out.cell 0
  have x1 : w6.cell? ⟨w.heap.size, 1, none⟩ = some (.int .i64 v.n) := kv.out.cell 1
  have x2 : w6.cell? ⟨w.heap.size, 2, none⟩ = some (.string v.s) := kv.out.cell 2
  have hkk := hid (show ∀ W', Below w6.heap.size w6 W' → W'.cell? ⟨w.heap.size, 0, none⟩ = some (.int .i64 v.k) ∧ W'.cell? ⟨w.heap.size, 1, none⟩ = some (.int .i64 v.n) ∧ W'.cell? ⟨w.heap.size, 2, none⟩ = some (.string v.s) from fun W' hb => ⟨(kv.out.below_all hb).cell 0, (kv.out.below_all hb).cell 1, (kv.out.below_all hb).cell 2⟩)
  have hbX : Hid (Below w6.heap.size w6 w6) := hid (Below.refl _ _)
  go_region_held3 (fun W' => W'.cell? ⟨w.heap.size, 0, none⟩ = some (.int .i64 v.k) ∧ W'.cell? ⟨w.heap.size, 1, none⟩ = some (.int .i64 v.n) ∧ W'.cell? ⟨w.heap.size, 2, none⟩ = some (.string v.s)) (first | exact hkk.out _ hbX.out | exact hkk.out _ hbX.out.drew)
    ((go_at_call 11
      refine hput.out.mono ?_
      rintro e w7 ⟨x, rfl, hx0, hb1⟩
      obtain ⟨XA, Xc, rfl, _⟩ := own_form hx0
      have hbX : Hid (Below w6.heap.size w6 w7) := hid ((Below.refl w6.heap.size w6).drew.trans hb1)
      have hX : Hid (w7.ownsRow w6.heap.size 5 1 (.slice XA P.length Xc) P.length (bcells P)) := hid hx0
      clear hb1 hx0))
  clear x0 x1 x2
  have hB := hid (hB.out.trans (hbX.out.mono hB.out.size))
  have hA := hid (hA.out.below_all hbX.out)
  have kv := hid (kv.out.below_all hbX.out)
  have hev := hid (hev.out.below hbX.out)
  have hG := hid (hG.out.below_all hbX.out)
  have hw67 := hid hbX.out.size
  clear hbX hput hkk
  have x0 : w7.cell? ⟨w.heap.size, 0, none⟩ = some (.int .i64 v.k) := kv.out.cell 0
  have x1 : w7.cell? ⟨w.heap.size, 1, none⟩ = some (.int .i64 v.n) := kv.out.cell 1
  have x2 : w7.cell? ⟨w.heap.size, 2, none⟩ = some (.string v.s) := kv.out.cell 2
  go_wp2_with fail
  refine (rvput_any _ A0 c0 bl v w7 hA.out (by have := hvz.out; omega) hvr.out.1 hvr.out.2 (by have := hb9.out; omega)).mono ?_
  rintro e w8 ⟨y, rfl, hy0, hb1⟩
  rw [← hPh.out] at hy0
  obtain ⟨YA, Yc, rfl, _⟩ := own_form hy0
  have hB := hid (hB.out.trans (hb1.mono hB.out.size))
  have hA := hid (hA.out.below_all hb1)
  have kv := hid (kv.out.below_all hb1)
  have hev := hid (hev.out.below hb1)
  have hG := hid (hG.out.below_all hb1)
  have hX := hid (own_below hX.out hb1)
  have hY := hid (Rd.of_own' hy0)
  have hw78 := hid hb1.size
  clear hb1 hy0
  clear x0 x1 x2
  have x0 : w8.cell? ⟨w.heap.size, 0, none⟩ = some (.int .i64 v.k) := kv.out.cell 0
  have x1 : w8.cell? ⟨w.heap.size, 1, none⟩ = some (.int .i64 v.n) := kv.out.cell 1
  have x2 : w8.cell? ⟨w.heap.size, 2, none⟩ = some (.string v.s) := kv.out.cell 2
  have r0 := rd_seven hG.out
  have hs1 := hid (same_true (c := Xc) (d := Yc) (Rd.of_own' hX.out) hY.out)
  have hs2 := hid (same_true (c := c6) (d := c0) (Rd.front hG.out) hA.out)
  go_wp2_with fail
  refine hs1.out.mono ?_
  rintro e wq ⟨rfl, hwq⟩
  obtain rfl := hwq.symm
  go_wp2_with fail
  refine hs2.out.mono ?_
  rintro e wq ⟨rfl, hwq⟩
  obtain rfl := hwq.symm
  clear hs1 hs2 hY
  go_upto_region 5 with fail
  have hxb := hid (fun k hk => hX.out.lt k hk)
  have h68 := hid (Nat.le_trans hw67.out hw78.out)
  clear x0 x1 x2 r0
  have hput := hid (vput_any _ (some ⟨g6, 0, none⟩) c6 bl v w8.drew (Rd.front hG.out).drew (by have := hvz.out; omega) hvr.out.1 hvr.out.2 (by have := hb9.out; omega))
  rw [← hPh.out] at hput
  have x0 : w8.cell? ⟨w.heap.size, 0, none⟩ = some (.int .i64 v.k) := kv.out.cell 0
  have x1 : w8.cell? ⟨w.heap.size, 1, none⟩ = some (.int .i64 v.n) := kv.out.cell 1
  have x2 : w8.cell? ⟨w.heap.size, 2, none⟩ = some (.string v.s) := kv.out.cell 2
  have hkk := hid (show ∀ W', Below w8.heap.size w8 W' → W'.cell? ⟨w.heap.size, 0, none⟩ = some (.int .i64 v.k) ∧ W'.cell? ⟨w.heap.size, 1, none⟩ = some (.int .i64 v.n) ∧ W'.cell? ⟨w.heap.size, 2, none⟩ = some (.string v.s) from fun W' hb => ⟨(kv.out.below_all hb).cell 0, (kv.out.below_all hb).cell 1, (kv.out.below_all hb).cell 2⟩)
  have hbX : Hid (Below w8.heap.size w8 w8) := hid (Below.refl _ _)
  go_region_held3 (fun W' => W'.cell? ⟨w.heap.size, 0, none⟩ = some (.int .i64 v.k) ∧ W'.cell? ⟨w.heap.size, 1, none⟩ = some (.int .i64 v.n) ∧ W'.cell? ⟨w.heap.size, 2, none⟩ = some (.string v.s)) (first | exact hkk.out _ hbX.out | exact hkk.out _ hbX.out.drew)
    ((go_at_call 11
      refine hput.out.mono ?_
      rintro e w9 ⟨x, rfl, hx0, hb1⟩
      obtain ⟨YA, Yc, rfl, _⟩ := own_form hx0
      have hbX : Hid (Below w8.heap.size w8 w9) := hid ((Below.refl w8.heap.size w8).drew.trans hb1)
      have hY : Hid (Rd (fun b => w8.heap.size ≤ b) w9 1 (YA) P.length (bcells P)) := hid (Rd.of_own' hx0)
      clear hb1 hx0))
  clear x0 x1 x2
  have hB := hid (hB.out.trans (hbX.out.mono hB.out.size))
  have hA := hid (hA.out.below_all hbX.out)
  have kv := hid (kv.out.below_all hbX.out)
  have hev := hid (hev.out.below hbX.out)
  have hG := hid (hG.out.below_all hbX.out)
  have hX := hid (own_below hX.out hbX.out)
  have hw89 := hid hbX.out.size
  clear hbX hput hkk
  have hP9 : (P.length : Int) ≤ 9223372036854775807 := by have := own_le hX.out; omega
  go_wp2_with fail
  have hX9 := hid hX.out
  go_loopw [8] (fun v8 wr => ∃ k : Nat, v8 = .int .i64 k ∧ k ≤ P.length ∧ Upd (fun b => (Value.slice XA P.length Xc).ownBlock = some b) w9 wr ∧ ∀ g, (Value.slice XA P.length Xc).ownBlock = some g → ∃ cur, Blk wr g 5 cur ∧ P.length ≤ cur.size ∧ ∀ j (hj : j < P.length), k ≤ j → cur[j]? = some (.int .u8 (P[j] : Nat))) (fun v8 _ => P.length - (intOf v8).toNat)
  case atStart =>
    refine ⟨0, rfl, Nat.zero_le _, Upd.refl _ _, fun g hg => ?_⟩
    have hX := hX9.out
    rcases hX.2 with ⟨h0, _⟩ | ⟨g', cap, cur, hv, _, hh, hc, _, hsz, _⟩
    · rw [h0] at hg; cases hg
    · injection hv with q1 q2 q3
      subst q1
      simp only [Value.ownBlock, Option.some.injEq] at hg
      subst hg
      refine ⟨cur, hh, by omega, fun j hj _ => ?_⟩
      have h1 := hX.cellAt j (by omega)
      rw [Blk.cell (show Blk w9 _ _ cur from hh) j] at h1
      rw [h1, bcells_at hj]
  case round =>
    obtain ⟨k, rfl, hk, hU0, hcur0⟩ := hrel
    have hU := hid hU0; have hcur := hid hcur0
    clear hU0 hcur0
    by_cases hlt : k < P.length
    · have i1 : (k : Int) < (P.length : Int) := by omega
      obtain ⟨gx, hXe, hgx⟩ : ∃ g, XA = some ⟨g, 0, none⟩ ∧ (Value.slice XA P.length Xc).ownBlock = some g := by
        obtain ⟨g, cap, hv, h1, _⟩ := hX9.out.form (by omega)
        injection hv with q1
        exact ⟨g, q1, by rw [q1]; rfl⟩
      obtain ⟨cur, hcb, hcs, hcv⟩ := hcur.out gx hgx
      have c0' := hcb.cell k
      rw [hcv k hlt (Nat.le_refl _)] at c0'
      have fz := fun q => hcb.frozen q
      have hlw := hcb.lt
      have hnx := hid (fun val => (⟨hU.out.setCell (p := ⟨gx, k, none⟩) (fun _ => hgx) val, fun g hg => by
        have e : g = gx := Option.some.inj (hg.symm.trans hgx)
        subst e
        refine ⟨_, hcb.set_ k val, by rw [Array.size_setIfInBounds]; exact hcs, fun j hj hkj => ?_⟩
        rw [Array.getElem?_setIfInBounds_ne (by omega)]
        exact hcv j hj (by omega)⟩ : Upd (fun b => (Value.slice XA P.length Xc).ownBlock = some b) w9 (wr.setCell ⟨gx, k, none⟩ val) ∧ ∀ g, (Value.slice XA P.length Xc).ownBlock = some g → ∃ cur, Blk (wr.setCell ⟨gx, k, none⟩ val) g 5 cur ∧ P.length ≤ cur.size ∧ ∀ j (hj : j < P.length), k + 1 ≤ j → cur[j]? = some (.int .u8 (P[j] : Nat))))
      have hkn := hid hlt
      generalize P[k]'hlt = pk at c0'
      clear hcb hcs hcv hcur hU hk hlt hgx
      subst hXe
      go_wp2_with fail
      refine ⟨⟨k + 1, by first | rfl | simp, hkn.out, (hnx.out _).1, (hnx.out _).2⟩, ?_⟩
      simp [intOf]
      have := hkn.out
      omega
    · have i1 : ¬ ((k : Int) < (P.length : Int)) := by omega
      clear hlt hk
      have hUU := hU.out
      have hwB : Hid (∀ b, (Value.slice XA P.length Xc).ownBlock = some b → w6.heap.size ≤ b ∧ b < w8.heap.size) := hxb
      have hB := hid (hB.out.trans (hUU.below (B := w.heap.size) hB.out.size fun b hb e => by have := (hwB.out b e).1; have := hww6.out; omega))
      have hA := hid (hA.out.upd hUU fun b hb e => by have := (hwB.out b e).1; have := hww6.out; omega)
      have kv := hid (kv.out.upd hUU fun e => by have := (hwB.out _ e).1; have := hww6.out; omega)
      have hG := hid (hG.out.upd hUU fun b hb e => by have := (hwB.out b e).1; omega)
      have hY := hid (hY.out.upd hUU fun b hb e => by have := (hwB.out b e).2; omega)
      have hev := hid (hev.out.over (hUU.below (B := w.heap.size) (Nat.le_trans (Nat.le_of_lt hww6.out) (Nat.le_trans h68.out hw89.out)) fun b hb e => by have := (hwB.out b e).1; have := hww6.out; omega) h6w.out)
      clear hUU hU hcur hxb hwB hX9
      have x0 : wr.cell? ⟨w.heap.size, 0, none⟩ = some (.int .i64 v.k) := kv.out.cell 0
      have x1 : wr.cell? ⟨w.heap.size, 1, none⟩ = some (.int .i64 v.n) := kv.out.cell 1
      have x2 : wr.cell? ⟨w.heap.size, 2, none⟩ = some (.string v.s) := kv.out.cell 2
      go_wp2_with fail
      refine (rvput_any _ A0 c0 bl v wr hA.out (by have := hvz.out; omega) hvr.out.1 hvr.out.2 (by have := hb9.out; omega)).mono ?_
      rintro e wz ⟨z, rfl, hz0, hb1⟩
      rw [← hPh.out] at hz0
      obtain ⟨ZA, Zc, rfl, _⟩ := own_form hz0
      have hZ := hid (Rd.of_own' hz0)
      have hB := hid (hB.out.trans (hb1.mono hB.out.size))
      have hY := hid (hY.out.below_all hb1)
      have hG := hid (hG.out.below_all hb1)
      have hA := hid (hA.out.below_all hb1)
      have hev := hid (hev.out.below hb1)
      clear hz0 hb1 x0 x1 x2
      have hs1 := hid (same_true (c := Yc) (d := Zc) hY.out hZ.out)
      have hs2 := hid (same_true (c := c6) (d := c0) (Rd.front hG.out) hA.out)
      go_wp2_with fail
      refine hs1.out.mono ?_
      rintro e wq ⟨rfl, hwq⟩
      obtain rfl := hwq.symm
      go_wp2_with fail
      refine hs2.out.mono ?_
      rintro e wq ⟨rfl, hwq⟩
      obtain rfl := hwq.symm
      go_wp2_with fail
      refine (live_any _ hev.out).mono ?_
      rintro e wl ⟨rfl, hb1⟩
      have hB := hid (hB.out.trans (hb1.mono hB.out.size))
      clear hb1
      go_wp2_with fail
      go_ret
      exact ⟨rfl, hB.out⟩


end Go.Proofs.YtbnpidmlcjofiaaDoor

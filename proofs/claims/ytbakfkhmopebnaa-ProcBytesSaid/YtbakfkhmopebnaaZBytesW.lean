/- ProcBytes: the walk. -/
import Derived.Test.YtbakfkhmopebnaaZBytesP
namespace Go.Proofs.Ytbakfkhmopebnaa
open Go.RowKit
set_option linter.unusedVariables false
set_option linter.unusedSimpArgs false

theorem own_blk {w : World} {base g n c size : Nat} {e : TypeId} {xs : List Value} (h : w.ownsRow base e size (.slice (some ⟨g, 0, none⟩) n c) n xs) : ∃ cur, Blk w g e cur ∧ n * size ≤ cur.size := by
  rcases h.2 with ⟨h0, _⟩ | ⟨g', cap', cur, hv', _, hh, hc', _, hs', _⟩
  · cases h0
  · have e : g' = g := by injection hv' with h1; injection h1 with h1; injection h1 with h1; exact h1.symm
    subst e
    exact ⟨cur, hh, by rw [hs']; exact Nat.mul_le_mul_right _ hc'⟩
theorem own_updS {M : Nat → Prop} {w w' : World} {base : Nat} {e t : TypeId} {size n : Nat} {v : Value} {xs : List Value} (h : w.ownsRow base e size v n xs) (hu : Upd M w w') (hM : ∀ b, M b → ∃ cs, Blk w b t cs) (hne : e ≠ t) : w'.ownsRow base e size v n xs := by
  refine ⟨h.1, ?_⟩
  rcases h.2 with hn | ⟨g', cap, cur, rfl, hbb, hh, rest⟩
  · exact .inl hn
  · refine .inr ⟨g', cap, cur, rfl, hbb, (hu.block g' (Array.getElem?_eq_some_iff.1 hh).1 fun hm => ?_).trans hh, rest⟩
    obtain ⟨cs, hc⟩ := hM _ hm
    exact Blk.ne_ hh hc hne rfl
theorem row_nine {w : World} {base g c : Nat} {e : TypeId} {l : List Nat} (h : w.ownsRow base e 1 (.slice (some ⟨g, 0, none⟩) (l ++ [9, 8]).length c) (l ++ [9, 8]).length (bcells (l ++ [9, 8]))) : w.cell? ⟨g, l.length, none⟩ = some (.int .u8 9) := by
  have := h.cells (g := g) rfl l.length (.int .u8 9) (by unfold bcells; rw [List.getElem?_map, List.getElem?_append_right (Nat.le_refl _), Nat.sub_self]; rfl)
  rwa [add_zero, Nat.zero_add] at this
theorem snoc_row {w : World} {base : Nat} {e : TypeId} {A : Option Addr} {c : Nat} {l : List Nat} (h : w.ownsRow base e 1 (.slice A (l.length + 2) c) (l.length + 2) (bcells l ++ [.int .u8 9, .int .u8 8])) : w.ownsRow base e 1 (.slice A (l ++ [9, 8]).length c) (l ++ [9, 8]).length (bcells (l ++ [9, 8])) := by
  have e1 : (l ++ [9, 8]).length = l.length + 2 := by simp
  have e2 : bcells (l ++ [9, 8]) = bcells l ++ [.int .u8 9, .int .u8 8] := by unfold bcells; rw [List.map_append]; rfl
  rw [e1, e2]
  exact h
set_option maxRecDepth 100000 in
set_option maxHeartbeats 4000000 in
theorem bytes_walk (p : Pr) (A1 A2 AA BA : Option Addr) (c1 c2 ca cb : Nat) (al bl : List Nat) (w : World) (hp : PrArg w A1 A2 p) (ha : Rd (fun b => b < w.heap.size) w 1 AA al.length (bcells al)) (hbd : Rd (fun b => b < w.heap.size) w 1 BA bl.length (bcells bl)) (hal : al.length ≤ 1000000000000000) (hbl : bl.length ≤ 1000000000000000) (hax : ∀ x ∈ al, x < 256) (hbx : ∀ x ∈ bl, x < 256) :
    Calls Try.prog 5 #[.slice AA al.length ca, .agg #[.int .i64 p.args, .slice A1 p.cs.length c1, .slice A2 p.code.length c2], .slice BA bl.length cb] w fun e w' => e = .returned (.bool true) ∧ Below w.heap.size w w' := by
  have hPw : Hid (∀ W, Below w.heap.size w W → p.code.length + p.cs.length ≤ 2000 → PrIn (fun b => b < w.heap.size) W A1 A2 p) := hid fun W hb hl => (hp.prIn hl).below hb
  have hlen := hid hp.n
  have hvr := hid hp.v
  have hA := hid ha; have hBd := hid hbd; have hAx := hid hax; have hBx := hid hbx
  clear hp ha hbd hax hbx
  obtain ⟨W0, hW0⟩ : ∃ W0, W0 = w.alloc (.cells #[.int .i64 p.args, .slice A1 p.cs.length c1, .slice A2 p.code.length c2] 29) := ⟨_, rfl⟩
  have hB0 : Hid (Below w.heap.size w W0) := hid (by subst hW0; exact (Below.refl _ _).alloc (Nat.le_refl _) _)
  have k0 : Hid (Blk W0 w.heap.size 29 #[.int .i64 p.args, .slice A1 p.cs.length c1, .slice A2 p.code.length c2]) := hid (by subst hW0; exact Blk.new w _ _)
  go_enter Try.func5, Try.ntmps5
  go_upto_region 1 with fail
  rw [← hW0]
  clear hW0
  have x0 : W0.cell? ⟨w.heap.size, 0, none⟩ = some (.int .i64 p.args) := k0.out.cell 0
  have x1 : W0.cell? ⟨w.heap.size, 1, none⟩ = some (.slice A1 p.cs.length c1) := k0.out.cell 1
  have x2 : W0.cell? ⟨w.heap.size, 2, none⟩ = some (.slice A2 p.code.length c2) := k0.out.cell 2
  have hlg := hid (long_any (fun _ => True) A1 A2 c1 c2 p.cs.length p.code.length p.args W0 hlen.out)
  have hlb : Hid (al.length ≤ 1000000000000000 ∧ bl.length ≤ 1000000000000000) := hid ⟨hal, hbl⟩
  by_cases hlo : 2000 < p.code.length + p.cs.length
  · have t0 : Hid (decide ((2000 : Int) < ((p.code.length + p.cs.length : Nat) : Int)) = true) := hid (decide_eq_true (by omega))
    clear hlo hal hbl
    go_wp2_with fail
    refine hlg.out.mono ?_
    rintro e w1 ⟨rfl, hb0⟩
    have hB := hid (hB0.out.trans (hb0.mono hB0.out.size))
    rw [t0.out]
    clear hb0
    go_wp2_with (first | (go_at_call 10; refine (live_any _).mono ?_; rintro e wn ⟨rfl, hb0⟩; have hB := hid (hB.out.trans (hb0.mono hB.out.size)); clear hb0))
    go_ret
    exact ⟨rfl, hB.out⟩
  have t0 : Hid (decide ((2000 : Int) < ((p.code.length + p.cs.length : Nat) : Int)) = false) := hid (decide_eq_false (by omega))
  have hlh := hid (show p.code.length + p.cs.length ≤ 2000 by omega)
  clear hlo
  by_cases hb5 : 50000 < bl.length
  · have i5 : (50000 : Int) < (bl.length : Int) := by omega
    clear hb5 hal hbl
    go_wp2_with fail
    refine hlg.out.mono ?_
    rintro e w1 ⟨rfl, hb0⟩
    have hB := hid (hB0.out.trans (hb0.mono hB0.out.size))
    rw [t0.out]
    clear hb0
    go_wp2_with (first | (go_at_call 10; refine (live_any _).mono ?_; rintro e wn ⟨rfl, hb0⟩; have hB := hid (hB.out.trans (hb0.mono hB.out.size)); clear hb0))
    go_ret
    exact ⟨rfl, hB.out⟩
  have i5 : ¬ ((50000 : Int) < (bl.length : Int)) := by omega
  by_cases ha5 : 50000 < al.length
  · have i6 : (50000 : Int) < (al.length : Int) := by omega
    clear hb5 ha5 hal hbl
    go_wp2_with fail
    refine hlg.out.mono ?_
    rintro e w1 ⟨rfl, hb0⟩
    have hB := hid (hB0.out.trans (hb0.mono hB0.out.size))
    rw [t0.out]
    clear hb0
    go_wp2_with (first | (go_at_call 10; refine (live_any _).mono ?_; rintro e wn ⟨rfl, hb0⟩; have hB := hid (hB.out.trans (hb0.mono hB.out.size)); clear hb0))
    go_ret
    exact ⟨rfl, hB.out⟩
  have i6 : ¬ ((50000 : Int) < (al.length : Int)) := by omega
  have ha9 := hid (show al.length ≤ 50000 by omega)
  have hb9 := hid (show bl.length ≤ 50000 by omega)
  clear hb5 ha5 hal hbl hlb
  go_wp2_with fail
  refine hlg.out.mono ?_
  rintro e w1 ⟨rfl, hb0⟩
  rw [t0.out]
  have hB := hid (hB0.out.trans (hb0.mono hB0.out.size))
  have hA := hid (hA.out.below hB.out fun b h => h)
  have hBd := hid (hBd.out.below hB.out fun b h => h)
  have hPr := hid (hPw.out _ hB.out hlh.out)
  have hrng := hid (show ∀ v ∈ p.cs, v.rng from fun v hv => (hvr.out v hv).1)
  have kp := hid (k0.out.below_all hb0)
  have hwp := hid kp.out.lt
  clear hb0 hlg hPw hvr hB0 k0 t0
  obtain ⟨ib, hu0, hu1, hu2, hu3⟩ := info_parts info_u8
  go_upto_region 4 with (first
    | (at_builtin
       refine wpList_copy_rd w1 rfl (.tmp 39) (.tmp 40) 39 rfl 5 ib _ 1 1 Try.underlying39 hu0 hu1 hu2 hu3 rfl (by omega) w1.heap.size rfl rfl _ AA al.length ca (bcells al) rfl hA.out (bcells_one al) (by have := ha9.out; simp only [maxLen]; omega) (by have := ha9.out; omega) ?_
       intro Y1 y1 wa howna hba
       have howa := hid howna; have hbwa := hid hba
       clear howna hba)
    | (at_builtin
       have hgate := howa
       clear hgate
       go_loud (refine wpList_append_rd _ rfl (.tmp 41) (.tmp 42) 39 rfl w1.heap.size 5 ib _ 1 1 Try.underlying39 hu0 hu1 hu2 hu3 rfl (by omega) (.slice Y1 al.length y1) al.length (bcells al) rfl (own_below howa.out ((Below.refl _ _).alloc (Nat.le_refl _) _)) (fun b => b = wa.heap.size) (some ⟨wa.heap.size, 0, none⟩) 2 2 [.int .u8 9, .int .u8 8] rfl (Rd.new wa 5 1 2 #[.int .u8 9, .int .u8 8] _ rfl rfl) (by intro u hu; simp at hu; rcases hu with rfl | rfl <;> rfl) (by have := ha9.out; simp only [maxLen]; omega) (by have := ha9.out; omega) (by have := hbwa.out.size; simp; omega) ?_)
       intro v9 wb hown9 hg9 hat9
       go_loud (obtain ⟨FA, fc, rfl, _, _⟩ := own_form hown9)
       go_loud (have hb0 : Below w1.heap.size w1 wb := (hbwa.out.alloc hbwa.out.size (.cells #[.int .u8 9, .int .u8 8] 5)).grown hg9 (Nat.le_trans hbwa.out.size (by simp)) (fun k hk => (howa.out.lt k hk).1))
       go_loud (have hFA : Hid (wb.ownsRow w1.heap.size 5 1 (.slice FA (al ++ [9, 8]).length fc) (al ++ [9, 8]).length (bcells (al ++ [9, 8]))) := hid (snoc_row hown9))
       have hbw := hid hb0
       clear hown9 hg9 hat9 hb0 howa hbwa))
  have hB := hid (hB.out.trans (hbw.out.mono hB.out.size))
  have hA := hid (hA.out.below_all hbw.out)
  have hBd := hid (hBd.out.below_all hbw.out)
  have hPr := hid (hPr.out.below hbw.out)
  have kp := hid (kp.out.below_all hbw.out)
  clear hbw
  have x0 : wb.cell? ⟨w.heap.size, 0, none⟩ = some (.int .i64 p.args) := kp.out.cell 0
  have x1 : wb.cell? ⟨w.heap.size, 1, none⟩ = some (.slice A1 p.cs.length c1) := kp.out.cell 1
  have x2 : wb.cell? ⟨w.heap.size, 2, none⟩ = some (.slice A2 p.code.length c2) := kp.out.cell 2
  go_wp2_with fail
  refine (own_any p _ A1 A2 c1 c2 wb hPr.out).mono ?_
  rintro e w4 ⟨G1, G2, g1, g2, rfl, ho0, hb0⟩
  have hB := hid (hB.out.trans (hb0.mono hB.out.size))
  have hA := hid (hA.out.below_all hb0)
  have hBd := hid (hBd.out.below_all hb0)
  have hPr := hid (hPr.out.below hb0)
  have kp := hid (kp.out.below_all hb0)
  have hFA := hid (own_below hFA.out hb0)
  have hgo := hid ho0
  have hwb4 := hid hb0.size
  clear hb0 ho0 x0 x1 x2
  go_upto_region 5 with fail
  obtain ⟨b8, hb8⟩ : ∃ b, b = w4.heap.size := ⟨_, rfl⟩
  have k8 := hid (Blk.new' w4 29 #[.int .i64 p.args, .slice G1 p.cs.length g1, .slice G2 p.code.length g2] hb8)
  have hb0 : Below w4.heap.size w4 (w4.alloc (.cells #[.int .i64 p.args, .slice G1 p.cs.length g1, .slice G2 p.code.length g2] 29)) := (Below.refl _ _).alloc (Nat.le_refl _) _
  have hB := hid (hB.out.trans (hb0.mono hB.out.size))
  have hA := hid (hA.out.below_all hb0)
  have hBd := hid (hBd.out.below_all hb0)
  have hPr := hid (hPr.out.below hb0)
  have kp := hid (kp.out.below_all hb0)
  have hFA := hid (own_below hFA.out hb0)
  have hgo := hid (hgo.out.below hb0)
  generalize w4.alloc (.cells #[.int .i64 p.args, .slice G1 p.cs.length g1, .slice G2 p.code.length g2] 29) = w5 at *
  rw [← hb8]
  clear hb8 hb0
  have y0 : w5.cell? ⟨b8, 0, none⟩ = some (.int .i64 p.args) := k8.out.cell 0
  have y1 : w5.cell? ⟨b8, 1, none⟩ = some (.slice G1 p.cs.length g1) := k8.out.cell 1
  have y2 : w5.cell? ⟨b8, 2, none⟩ = some (.slice G2 p.code.length g2) := k8.out.cell 2
  obtain ⟨gf, hFe, hgf⟩ : ∃ gf, FA = some ⟨gf, 0, none⟩ ∧ w1.heap.size ≤ gf := by
    obtain ⟨g, cap, hv, h1, _⟩ := hFA.out.form (by simp)
    exact ⟨g, by injection hv, h1⟩
  subst hFe
  have hgfh := hid hgf
  have hfc : Hid ((al ++ [9, 8]).length ≤ fc) := hid (by obtain ⟨_, _, hv, h1, _⟩ := own_form hFA.out; injection hv with _ _ h3; omega)
  have i7 : (al.length : Int) ≤ (fc : Int) := by have := hfc.out; simp at this; omega
  have i8 : ¬ fc = 0 := by have := hfc.out; simp at this; omega
  have hput := hid (put_all _ _ (some ⟨gf, 0, none⟩) G1 G2 fc g1 g2 al p w5.drew (Rd.front (Rd.of_own' hFA.out)).drew ((hgo.out.prIn hPr.out.t hPr.out.l).below (Below.refl _ _).drew) hrng.out (by have := ha9.out; omega))
  clear hgf
  go_region_held3 (fun W => W.cell? ⟨b8, 0, none⟩ = some (.int .i64 p.args) ∧ W.cell? ⟨b8, 1, none⟩ = some (.slice G1 p.cs.length g1) ∧ W.cell? ⟨b8, 2, none⟩ = some (.slice G2 p.code.length g2)) (first | exact ⟨y0, y1, y2⟩ | exact hyy.out)
    ((go_at_call 21
      refine hput.out.mono ?_
      rintro e w6 ⟨hb1, XA, Xc, rfl, hx0⟩
      have hbq := hid ((Below.refl w5.heap.size w5).drew.trans hb1)
      have hX := hid hx0
      have hyy := hid (show w6.cell? ⟨b8, 0, none⟩ = some (.int .i64 p.args) ∧ w6.cell? ⟨b8, 1, none⟩ = some (.slice G1 p.cs.length g1) ∧ w6.cell? ⟨b8, 2, none⟩ = some (.slice G2 p.code.length g2) from ⟨(k8.out.below_all hbq.out).cell 0, (k8.out.below_all hbq.out).cell 1, (k8.out.below_all hbq.out).cell 2⟩)
      clear hb1 hx0))
  have hB := hid (hB.out.trans (hbq.out.mono hB.out.size))
  have hA := hid (hA.out.below_all hbq.out)
  have hBd := hid (hBd.out.below_all hbq.out)
  have hPr := hid (hPr.out.below hbq.out)
  have kp := hid (kp.out.below_all hbq.out)
  have hFA := hid (own_below hFA.out hbq.out)
  have hgo := hid (hgo.out.below hbq.out)
  have k8 := hid (k8.out.below_all hbq.out)
  clear hbq hput y0 y1 y2 hyy i7 i8
  have x0 : w6.cell? ⟨w.heap.size, 0, none⟩ = some (.int .i64 p.args) := kp.out.cell 0
  have x1 : w6.cell? ⟨w.heap.size, 1, none⟩ = some (.slice A1 p.cs.length c1) := kp.out.cell 1
  have x2 : w6.cell? ⟨w.heap.size, 2, none⟩ = some (.slice A2 p.code.length c2) := kp.out.cell 2
  go_wp2_with fail
  refine (rput_all _ _ AA A1 A2 ca c1 c2 al p w6 hA.out hPr.out hrng.out (by have := ha9.out; omega)).mono ?_
  rintro e w7 ⟨hb0, YA, Yc, rfl, hy0⟩
  have hB := hid (hB.out.trans (hb0.mono hB.out.size))
  have hA := hid (hA.out.below_all hb0)
  have hBd := hid (hBd.out.below_all hb0)
  have hPr := hid (hPr.out.below hb0)
  have kp := hid (kp.out.below_all hb0)
  have hFA := hid (own_below hFA.out hb0)
  have hgo := hid (hgo.out.below hb0)
  have k8 := hid (k8.out.below_all hb0)
  have hX := hid (hX.out.below_all hb0)
  have hY := hid hy0
  clear hb0 hy0 x0 x1 x2
  have hw7 := hid hB.out.size
  go_upto_region 8 with (first
    | (at_builtin
       refine wpList_copy_rd w7 rfl (.tmp 61) (.tmp 62) 39 rfl 5 ib _ 1 1 Try.underlying39 hu0 hu1 hu2 hu3 rfl (by omega) w7.heap.size rfl rfl _ BA bl.length cb (bcells bl) rfl hBd.out (bcells_one bl) (by have := hb9.out; simp only [maxLen]; omega) (by have := hb9.out; omega) ?_
       intro Y1 y1 wc howna hba
       have howc := hid howna; have hbwa := hid hba
       clear howna hba)
    | (at_builtin
       have hgate := howc
       clear hgate
       go_loud (refine wpList_append_rd _ rfl (.tmp 63) (.tmp 64) 39 rfl w7.heap.size 5 ib _ 1 1 Try.underlying39 hu0 hu1 hu2 hu3 rfl (by omega) (.slice Y1 bl.length y1) bl.length (bcells bl) rfl (own_below howc.out ((Below.refl _ _).alloc (Nat.le_refl _) _)) (fun b => b = wc.heap.size) (some ⟨wc.heap.size, 0, none⟩) 2 2 [.int .u8 9, .int .u8 8] rfl (Rd.new wc 5 1 2 #[.int .u8 9, .int .u8 8] _ rfl rfl) (by intro u hu; simp at hu; rcases hu with rfl | rfl <;> rfl) (by have := hb9.out; simp only [maxLen]; omega) (by have := hb9.out; omega) (by have := hbwa.out.size; simp; omega) ?_)
       intro v9 wd hown9 hg9 hat9
       go_loud (obtain ⟨LA, lc, rfl, _, _⟩ := own_form hown9)
       go_loud (have hb0 : Below w7.heap.size w7 wd := (hbwa.out.alloc hbwa.out.size (.cells #[.int .u8 9, .int .u8 8] 5)).grown hg9 (Nat.le_trans hbwa.out.size (by simp)) (fun k hk => (howc.out.lt k hk).1))
       go_loud (have hLA : Hid (wd.ownsRow w7.heap.size 5 1 (.slice LA (bl ++ [9, 8]).length lc) (bl ++ [9, 8]).length (bcells (bl ++ [9, 8]))) := hid (snoc_row hown9))
       have hbw := hid hb0
       clear hown9 hg9 hat9 hb0 howc hbwa))
  have hB := hid (hB.out.trans (hbw.out.mono hB.out.size))
  have hA := hid (hA.out.below_all hbw.out)
  have hBd := hid (hBd.out.below_all hbw.out)
  have hPr := hid (hPr.out.below hbw.out)
  have kp := hid (kp.out.below_all hbw.out)
  have hFA := hid (own_below hFA.out hbw.out)
  have hgo := hid (hgo.out.below hbw.out)
  have k8 := hid (k8.out.below_all hbw.out)
  have hX := hid (hX.out.below_all hbw.out)
  have hY := hid (hY.out.below_all hbw.out)
  clear hbw
  obtain ⟨gl, hLe, hgl⟩ : ∃ gl, LA = some ⟨gl, 0, none⟩ ∧ w7.heap.size ≤ gl := by
    obtain ⟨g, cap, hv, h1, _⟩ := hLA.out.form (by simp)
    exact ⟨g, by injection hv, h1⟩
  subst hLe
  have hglh := hid hgl
  have hlc : Hid ((bl ++ [9, 8]).length ≤ lc) := hid (by obtain ⟨_, _, hv, h1, _⟩ := own_form hLA.out; injection hv with _ _ h3; omega)
  have i7 : (bl.length : Int) ≤ (lc : Int) := by have := hlc.out; simp at this; omega
  have i8 : ¬ lc = 0 := by have := hlc.out; simp at this; omega
  clear hgl
  have hwd := hid hB.out.size
  go_wp2_with fail
  refine (get_all _ (some ⟨gl, 0, none⟩) lc bl wd (Rd.front (Rd.of_own' hLA.out)) (by have := hb9.out; omega) hBx.out).mono ?_
  rintro e w8 ⟨hb0, Q1, Q2, q1, q2, rfl, hq0, hqt0⟩
  have hB := hid (hB.out.trans (hb0.mono hB.out.size))
  have hA := hid (hA.out.below_all hb0)
  have hBd := hid (hBd.out.below_all hb0)
  have hPr := hid (hPr.out.below hb0)
  have kp := hid (kp.out.below_all hb0)
  have hFA := hid (own_below hFA.out hb0)
  have hgo := hid (hgo.out.below hb0)
  have k8 := hid (k8.out.below_all hb0)
  have hX := hid (hX.out.below_all hb0)
  have hY := hid (hY.out.below_all hb0)
  have hLA := hid (own_below hLA.out hb0)
  have hq := hid hq0; have hqt := hid hqt0
  clear hb0 hq0 hqt0 i7 i8
  go_upto_region 9 with fail
  obtain ⟨b14, hb14⟩ : ∃ b, b = w8.heap.size := ⟨_, rfl⟩
  have k14 := hid (Blk.new' w8 29 #[.int .i64 (gPr bl).args, .slice Q1 (gPr bl).cs.length q1, .slice Q2 (gPr bl).code.length q2] hb14)
  have hb0 : Below w8.heap.size w8 (w8.alloc (.cells #[.int .i64 (gPr bl).args, .slice Q1 (gPr bl).cs.length q1, .slice Q2 (gPr bl).code.length q2] 29)) := (Below.refl _ _).alloc (Nat.le_refl _) _
  have hB := hid (hB.out.trans (hb0.mono hB.out.size))
  have hA := hid (hA.out.below_all hb0)
  have hBd := hid (hBd.out.below_all hb0)
  have hPr := hid (hPr.out.below hb0)
  have kp := hid (kp.out.below_all hb0)
  have hFA := hid (own_below hFA.out hb0)
  have hgo := hid (hgo.out.below hb0)
  have k8 := hid (k8.out.below_all hb0)
  have hX := hid (hX.out.below_all hb0)
  have hY := hid (hY.out.below_all hb0)
  have hLA := hid (own_below hLA.out hb0)
  have hq := hid (hq.out.below hb0)
  generalize w8.alloc (.cells #[.int .i64 (gPr bl).args, .slice Q1 (gPr bl).cs.length q1, .slice Q2 (gPr bl).code.length q2] 29) = w9 at *
  rw [← hb14]
  clear hb14 hb0
  have hql := hid (show (∀ k, (Value.slice Q1 (gPr bl).cs.length q1).ownBlock = some k → k < w9.heap.size) ∧ (∀ k, (Value.slice Q2 (gPr bl).code.length q2).ownBlock = some k → k < w9.heap.size) from ⟨fun k hk => (hq.out.1.lt k hk).2, fun k hk => (hq.out.2.lt k hk).2⟩)
  have h9s := hid (Nat.le_refl w9.heap.size)
  go_wp2_with fail
  refine (rget_all _ BA cb bl w9 hBd.out (by have := hb9.out; omega) hBx.out).mono ?_
  rintro e w10 ⟨hb0, V1, V2, v1, v2, rfl, hv0, _⟩
  have hB := hid (hB.out.trans (hb0.mono hB.out.size))
  have hA := hid (hA.out.below_all hb0)
  have hBd := hid (hBd.out.below_all hb0)
  have hPr := hid (hPr.out.below hb0)
  have kp := hid (kp.out.below_all hb0)
  have hFA := hid (own_below hFA.out hb0)
  have hgo := hid (hgo.out.below hb0)
  have k8 := hid (k8.out.below_all hb0)
  have hX := hid (hX.out.below_all hb0)
  have hY := hid (hY.out.below_all hb0)
  have hLA := hid (own_below hLA.out hb0)
  have hq := hid (hq.out.below hb0)
  have h9s := hid (Nat.le_trans h9s.out hb0.size)
  have k14 := hid (k14.out.below_all hb0)
  have hv := hid hv0
  have hs910 := hid hb0.size
  clear hb0 hv0
  go_upto_region 10 with fail
  obtain ⟨b17, hb17⟩ : ∃ b, b = w10.heap.size := ⟨_, rfl⟩
  have k17 := hid (Blk.new' w10 29 #[.int .i64 (gPr bl).args, .slice V1 (gPr bl).cs.length v1, .slice V2 (gPr bl).code.length v2] hb17)
  have hb0 : Below w10.heap.size w10 (w10.alloc (.cells #[.int .i64 (gPr bl).args, .slice V1 (gPr bl).cs.length v1, .slice V2 (gPr bl).code.length v2] 29)) := (Below.refl _ _).alloc (Nat.le_refl _) _
  have hB := hid (hB.out.trans (hb0.mono hB.out.size))
  have hA := hid (hA.out.below_all hb0)
  have hBd := hid (hBd.out.below_all hb0)
  have hPr := hid (hPr.out.below hb0)
  have kp := hid (kp.out.below_all hb0)
  have hFA := hid (own_below hFA.out hb0)
  have hgo := hid (hgo.out.below hb0)
  have k8 := hid (k8.out.below_all hb0)
  have hX := hid (hX.out.below_all hb0)
  have hY := hid (hY.out.below_all hb0)
  have hLA := hid (own_below hLA.out hb0)
  have hq := hid (hq.out.below hb0)
  have h9s := hid (Nat.le_trans h9s.out hb0.size)
  have k14 := hid (k14.out.below_all hb0)
  have hv := hid (hv.out.below hb0)
  generalize w10.alloc (.cells #[.int .i64 (gPr bl).args, .slice V1 (gPr bl).cs.length v1, .slice V2 (gPr bl).code.length v2] 29) = w11 at *
  rw [← hb17]
  clear hb17 hb0
  have x0 : w11.cell? ⟨w.heap.size, 0, none⟩ = some (.int .i64 p.args) := kp.out.cell 0
  have x1 : w11.cell? ⟨w.heap.size, 1, none⟩ = some (.slice A1 p.cs.length c1) := kp.out.cell 1
  have x2 : w11.cell? ⟨w.heap.size, 2, none⟩ = some (.slice A2 p.code.length c2) := kp.out.cell 2
  have y0 : w11.cell? ⟨b8, 0, none⟩ = some (.int .i64 p.args) := k8.out.cell 0
  have y1 : w11.cell? ⟨b8, 1, none⟩ = some (.slice G1 p.cs.length g1) := k8.out.cell 1
  have y2 : w11.cell? ⟨b8, 2, none⟩ = some (.slice G2 p.code.length g2) := k8.out.cell 2
  have s0 : w11.cell? ⟨b14, 0, none⟩ = some (.int .i64 (gPr bl).args) := k14.out.cell 0
  have s1 : w11.cell? ⟨b14, 1, none⟩ = some (.slice Q1 (gPr bl).cs.length q1) := k14.out.cell 1
  have s2 : w11.cell? ⟨b14, 2, none⟩ = some (.slice Q2 (gPr bl).code.length q2) := k14.out.cell 2
  have t0 : w11.cell? ⟨b17, 0, none⟩ = some (.int .i64 (gPr bl).args) := k17.out.cell 0
  have t1 : w11.cell? ⟨b17, 1, none⟩ = some (.slice V1 (gPr bl).cs.length v1) := k17.out.cell 1
  have t2 : w11.cell? ⟨b17, 2, none⟩ = some (.slice V2 (gPr bl).code.length v2) := k17.out.cell 2
  have r0 : w11.cell? ⟨gf, al.length, none⟩ = some (.int .u8 9) := row_nine hFA.out
  have r1 : w11.cell? ⟨gl, bl.length, none⟩ = some (.int .u8 9) := row_nine hLA.out
  have hcx : (convert 39 9 (.slice XA (putL al p).length Xc)).run Try.prog w11 = .ok (.string (bt (putL al p))) w11 := convB hX.out rfl
  have hcy : (convert 39 9 (.slice YA (putL al p).length Yc)).run Try.prog w11 = .ok (.string (bt (putL al p))) w11 := convB hY.out rfl
  have i7 : (al.length : Int) < (((al ++ [9, 8]).length : Nat) : Int) := by simp; omega
  have i8 : (bl.length : Int) < (((bl ++ [9, 8]).length : Nat) : Int) := by simp; omega
  go_wp2_with (go_at_call 9; refine (num_any _ _).mono ?_; rintro e wq ⟨rfl, hwq⟩; obtain rfl := hwq.symm; clear hwq)
  refine (rsame_any (gPr bl) (gPr bl) _ _ Q1 Q2 V1 V2 q1 q2 v1 v2 w11 (hq.out.prIn hqt.out (gPr_len bl)) (hv.out.prIn hqt.out (gPr_len bl))).mono ?_
  rintro e w12 ⟨rfl, hb0⟩
  have hB := hid (hB.out.trans (hb0.mono hB.out.size))
  have hA := hid (hA.out.below_all hb0)
  have hBd := hid (hBd.out.below_all hb0)
  have hPr := hid (hPr.out.below hb0)
  have kp := hid (kp.out.below_all hb0)
  have hFA := hid (own_below hFA.out hb0)
  have hgo := hid (hgo.out.below hb0)
  have k8 := hid (k8.out.below_all hb0)
  have hX := hid (hX.out.below_all hb0)
  have hY := hid (hY.out.below_all hb0)
  have hLA := hid (own_below hLA.out hb0)
  have hq := hid (hq.out.below hb0)
  have h9s := hid (Nat.le_trans h9s.out hb0.size)
  have k14 := hid (k14.out.below_all hb0)
  have hv := hid (hv.out.below hb0)
  have k17 := hid (k17.out.below_all hb0)
  clear hb0 hcx hcy
  clear x0 x1 x2 y0 y1 y2 s0 s1 s2 t0 t1 t2 r0 r1
  have x0 : w12.cell? ⟨w.heap.size, 0, none⟩ = some (.int .i64 p.args) := kp.out.cell 0
  have x1 : w12.cell? ⟨w.heap.size, 1, none⟩ = some (.slice A1 p.cs.length c1) := kp.out.cell 1
  have x2 : w12.cell? ⟨w.heap.size, 2, none⟩ = some (.slice A2 p.code.length c2) := kp.out.cell 2
  have y0 : w12.cell? ⟨b8, 0, none⟩ = some (.int .i64 p.args) := k8.out.cell 0
  have y1 : w12.cell? ⟨b8, 1, none⟩ = some (.slice G1 p.cs.length g1) := k8.out.cell 1
  have y2 : w12.cell? ⟨b8, 2, none⟩ = some (.slice G2 p.code.length g2) := k8.out.cell 2
  have s0 : w12.cell? ⟨b14, 0, none⟩ = some (.int .i64 (gPr bl).args) := k14.out.cell 0
  have s1 : w12.cell? ⟨b14, 1, none⟩ = some (.slice Q1 (gPr bl).cs.length q1) := k14.out.cell 1
  have s2 : w12.cell? ⟨b14, 2, none⟩ = some (.slice Q2 (gPr bl).code.length q2) := k14.out.cell 2
  have t0 : w12.cell? ⟨b17, 0, none⟩ = some (.int .i64 (gPr bl).args) := k17.out.cell 0
  have t1 : w12.cell? ⟨b17, 1, none⟩ = some (.slice V1 (gPr bl).cs.length v1) := k17.out.cell 1
  have t2 : w12.cell? ⟨b17, 2, none⟩ = some (.slice V2 (gPr bl).code.length v2) := k17.out.cell 2
  have r0 : w12.cell? ⟨gf, al.length, none⟩ = some (.int .u8 9) := row_nine hFA.out
  have r1 : w12.cell? ⟨gl, bl.length, none⟩ = some (.int .u8 9) := row_nine hLA.out
  go_wp2_with fail
  refine (rsame_any p p _ _ G1 G2 A1 A2 g1 g2 c1 c2 w12 (hgo.out.prIn hPr.out.t hPr.out.l) hPr.out).mono ?_
  rintro e w13 ⟨rfl, hb0⟩
  have hB := hid (hB.out.trans (hb0.mono hB.out.size))
  have hA := hid (hA.out.below_all hb0)
  have hBd := hid (hBd.out.below_all hb0)
  have hPr := hid (hPr.out.below hb0)
  have kp := hid (kp.out.below_all hb0)
  have hFA := hid (own_below hFA.out hb0)
  have hgo := hid (hgo.out.below hb0)
  have k8 := hid (k8.out.below_all hb0)
  have hX := hid (hX.out.below_all hb0)
  have hY := hid (hY.out.below_all hb0)
  have hLA := hid (own_below hLA.out hb0)
  have hq := hid (hq.out.below hb0)
  have h9s := hid (Nat.le_trans h9s.out hb0.size)
  have k14 := hid (k14.out.below_all hb0)
  have hv := hid (hv.out.below hb0)
  have k17 := hid (k17.out.below_all hb0)
  clear hb0
  clear x0 x1 x2 y0 y1 y2 s0 s1 s2 t0 t1 t2 r0 r1
  have x0 : w13.cell? ⟨w.heap.size, 0, none⟩ = some (.int .i64 p.args) := kp.out.cell 0
  have x1 : w13.cell? ⟨w.heap.size, 1, none⟩ = some (.slice A1 p.cs.length c1) := kp.out.cell 1
  have x2 : w13.cell? ⟨w.heap.size, 2, none⟩ = some (.slice A2 p.code.length c2) := kp.out.cell 2
  have y0 : w13.cell? ⟨b8, 0, none⟩ = some (.int .i64 p.args) := k8.out.cell 0
  have y1 : w13.cell? ⟨b8, 1, none⟩ = some (.slice G1 p.cs.length g1) := k8.out.cell 1
  have y2 : w13.cell? ⟨b8, 2, none⟩ = some (.slice G2 p.code.length g2) := k8.out.cell 2
  have s0 : w13.cell? ⟨b14, 0, none⟩ = some (.int .i64 (gPr bl).args) := k14.out.cell 0
  have s1 : w13.cell? ⟨b14, 1, none⟩ = some (.slice Q1 (gPr bl).cs.length q1) := k14.out.cell 1
  have s2 : w13.cell? ⟨b14, 2, none⟩ = some (.slice Q2 (gPr bl).code.length q2) := k14.out.cell 2
  have t0 : w13.cell? ⟨b17, 0, none⟩ = some (.int .i64 (gPr bl).args) := k17.out.cell 0
  have t1 : w13.cell? ⟨b17, 1, none⟩ = some (.slice V1 (gPr bl).cs.length v1) := k17.out.cell 1
  have t2 : w13.cell? ⟨b17, 2, none⟩ = some (.slice V2 (gPr bl).code.length v2) := k17.out.cell 2
  have r0 : w13.cell? ⟨gf, al.length, none⟩ = some (.int .u8 9) := row_nine hFA.out
  have r1 : w13.cell? ⟨gl, bl.length, none⟩ = some (.int .u8 9) := row_nine hLA.out
  go_wp2_with fail
  clear x0 x1 x2 y0 y1 y2 s0 s1 s2 t0 t1 t2 r0 r1
  clear hA hX hY hgo hFA
  obtain ⟨cur0, hcur0, hcs0⟩ := own_blk hLA.out
  have hc0 := hid hcur0
  have hc13 := hid hcur0
  have hcz := hid (show bl.length + 2 ≤ cur0.size by simpa using hcs0)
  clear hcur0 hcs0
  go_loopw [20] (fun v wr => ∃ k : Nat, v = .int .i64 k ∧ k ≤ bl.length + 2 ∧ Upd (fun b => b = gl) w13 wr ∧ ∃ cur, Blk wr gl 5 cur ∧ bl.length + 2 ≤ cur.size) (fun v _ => bl.length + 2 - (intOf v).toNat)
  case atStart => exact ⟨0, rfl, Nat.zero_le _, Upd.refl _ _, cur0, hc0.out, hcz.out⟩
  case round =>
    clear hc0 hcz
    obtain ⟨k, rfl, hk, hU0, cur, hcb, hcs⟩ := hrel
    have hU := hid hU0
    clear hU0
    by_cases hlt : k < bl.length + 2
    · have i1 : (k : Int) < (bl.length : Int) + 2 := by omega
      have hck : k < cur.size := by omega
      obtain ⟨uu, c0⟩ : ∃ u, wr.cell? ⟨gl, k, none⟩ = some u := ⟨_, (hcb.cell k).trans (Array.getElem?_eq_getElem hck)⟩
      have fz := fun q => hcb.frozen q
      have hlw := hcb.lt
      have hnx : Hid (Upd (fun b => b = gl) w13 (wr.setCell ⟨gl, k, none⟩ (.int .u8 238)) ∧ ∃ cur, Blk (wr.setCell ⟨gl, k, none⟩ (.int .u8 238)) gl 5 cur ∧ bl.length + 2 ≤ cur.size) := hid ⟨hU.out.setCell (p := ⟨gl, k, none⟩) (fun _ => rfl) _, _, hcb.set_ k _, by rw [Array.size_setIfInBounds]; exact hcs⟩
      have hkn := hid hlt
      have hw := hid (show wrap64 ((k : Int) + 1) = ((k + 1 : Nat) : Int) by have := hb9.out; unfold wrap64; omega)
      clear hcb hcs hck hlt hk hU
      go_wp2_with fail
      go_roundw
      case rel => exact ⟨k + 1, by first | (rw [hw.out]; done) | (go_num), hkn.out, hnx.out⟩
      case measure =>
        first | rw [hw.out] | skip
        have h2 := hkn.out
        simp [intOf]; omega
    · have i1 : ¬ ((k : Int) < (bl.length : Int) + 2) := by omega
      have hwg : Hid (w.heap.size ≤ gl) := hid (by have := hglh.out; have := hw7.out; omega)
      have hcbh := hid hcb
      have U1 := hU.out
      have hB := hid (hB.out.trans (U1.below hB.out.size fun b hb e => by have := hwg.out; omega))
      have hBd := hid (hBd.out.upd U1 (fun b hb e => by have := hwg.out; omega))
      have hPt := hid hPr.out.t
      have hPl := hid hPr.out.l
      have kp := hid (kp.out.upd U1 (kp.out.ne_ hc13.out (by decide)))
      have k14 := hid (k14.out.upd U1 (k14.out.ne_ hc13.out (by decide)))
      have k17 := hid (k17.out.upd U1 (k17.out.ne_ hc13.out (by decide)))
      have hq := hid (show OwnP (gPr bl) _ wr Q1 Q2 q1 q2 from ⟨own_updT hq.out.1 U1 hc13.out (by decide), own_updT hq.out.2 U1 hc13.out (by decide)⟩)
      have hv := hid (show OwnP (gPr bl) _ wr V1 V2 v1 v2 from ⟨own_updT hv.out.1 U1 hc13.out (by decide), own_updT hv.out.2 U1 hc13.out (by decide)⟩)
      have hwr := hid (show w9.heap.size ≤ wr.heap.size from Nat.le_trans h9s.out U1.size)
      clear U1 hU hlt hk hcb hcs hcbh hPr hLA
      go_upto_region 17 with (first
        | (at_builtin
           refine wpList_copy_rd wr rfl (.tmp 141) (.tmp 142) 39 rfl 5 ib _ 1 1 Try.underlying39 hu0 hu1 hu2 hu3 rfl (by omega) wr.heap.size rfl rfl _ BA bl.length cb (bcells bl) rfl hBd.out (bcells_one bl) (by have := hb9.out; simp only [maxLen]; omega) (by have := hb9.out; omega) ?_
           intro Y1 y1 wa howna hba
           have howa := hid howna; have hbwa := hid hba
           clear howna hba)
        | (go_at_call 23
           refine (get_all _ Y1 y1 bl wa (Rd.of_own' howa.out) (by have := hb9.out; omega) hBx.out).mono ?_
           rintro e w16 ⟨hb1, Z1, Z2, zz1, zz2, rfl, hz0, _⟩
           have hz := hid hz0
           have hbw := hid (hbwa.out.trans (hb1.mono hbwa.out.size))
           have hzb := hid hbwa.out.size
           clear hz0 hb1 howa hbwa))
      have hB := hid (hB.out.trans (hbw.out.mono hB.out.size))
      have kp := hid (kp.out.below_all hbw.out)
      have k14 := hid (k14.out.below_all hbw.out)
      have k17 := hid (k17.out.below_all hbw.out)
      have hq := hid (hq.out.below hbw.out)
      have hv := hid (hv.out.below hbw.out)
      clear hbw hBd
      obtain ⟨b21, hb21⟩ : ∃ b, b = w16.heap.size := ⟨_, rfl⟩
      have k21 := hid (Blk.new' w16 29 #[.int .i64 (gPr bl).args, .slice Z1 (gPr bl).cs.length zz1, .slice Z2 (gPr bl).code.length zz2] hb21)
      have hb0 : Below w16.heap.size w16 (w16.alloc (.cells #[.int .i64 (gPr bl).args, .slice Z1 (gPr bl).cs.length zz1, .slice Z2 (gPr bl).code.length zz2] 29)) := (Below.refl _ _).alloc (Nat.le_refl _) _
      have hB := hid (hB.out.trans (hb0.mono hB.out.size))
      have kp := hid (kp.out.below_all hb0)
      have k14 := hid (k14.out.below_all hb0)
      have k17 := hid (k17.out.below_all hb0)
      have hq := hid (hq.out.below hb0)
      have hv := hid (hv.out.below hb0)
      have hz := hid (hz.out.below hb0)
      generalize w16.alloc (.cells #[.int .i64 (gPr bl).args, .slice Z1 (gPr bl).cs.length zz1, .slice Z2 (gPr bl).code.length zz2] 29) = w17 at *
      rw [← hb21]
      clear hb21 hb0
      have hz := hid (hz.out.base (Nat.le_trans hwr.out hzb.out))
      clear hwr hzb
      have hbc : Hid (∀ g, (Value.slice Q2 (gPr bl).code.length q2).ownBlock = some g → ∃ cur, Blk w17 g 49 cur ∧ (gPr bl).code.length * 2 ≤ cur.size) := hid (fun g hg => by
        rcases hq.out.2.2 with ⟨h0, _⟩ | ⟨g', cap, cur, hv, _, hh, hc, _, hsz, _⟩
        · rw [h0] at hg; cases hg
        · rw [hv] at hg
          simp only [Value.ownBlock, Option.some.injEq] at hg
          subst hg
          exact ⟨cur, hh, by rw [hsz]; exact Nat.mul_le_mul_right _ hc⟩)
      have hform : Hid (0 < (gPr bl).code.length → ∃ g, Q2 = some ⟨g, 0, none⟩) := hid (fun hn => by
        obtain ⟨g, cap, hv, _, _⟩ := hq.out.2.form hn
        exact ⟨g, by injection hv⟩)
      have hne : Hid (∀ b C, Blk w17 b 29 C → ¬ ((Value.slice Q2 (gPr bl).code.length q2).ownBlock = some b)) := hid (fun b C hb e => by
        obtain ⟨cur, hc, _⟩ := hbc.out _ e
        exact hb.ne_ hc (by decide) rfl)
      have hgB : Hid (∀ g, (Value.slice Q2 (gPr bl).code.length q2).ownBlock = some g → w.heap.size ≤ g) := hid (fun g hg => Nat.le_trans hwd.out (hq.out.2.lt g hg).1)
      go_wp2_with fail
      go_loopw [24] (fun v wr => ∃ k : Nat, v = .int .i64 k ∧ k ≤ (gPr bl).code.length ∧ Upd (fun b => (Value.slice Q2 (gPr bl).code.length q2).ownBlock = some b) w17 wr ∧ ∀ g, (Value.slice Q2 (gPr bl).code.length q2).ownBlock = some g → ∃ cur, Blk wr g 49 cur ∧ (gPr bl).code.length * 2 ≤ cur.size) (fun v _ => (gPr bl).code.length - (intOf v).toNat)
      case atStart => exact ⟨0, rfl, Nat.zero_le _, Upd.refl _ _, hbc.out⟩
      case round =>
        obtain ⟨k, rfl, hk, hU0, hbk0⟩ := hrel
        have hU := hid hU0; have hbk := hid hbk0
        clear hU0 hbk0
        have k14r := hid (k14.out.upd hU.out (hne.out _ _ k14.out))
        have s0 : wr.cell? ⟨b14, 2, none⟩ = some (.slice Q2 (gPr bl).code.length q2) := k14r.out.cell 2
        by_cases hlt : k < (gPr bl).code.length
        · have i1 : (k : Int) < ((gPr bl).code.length : Int) := by omega
          obtain ⟨g, hg⟩ := hform.out (by omega)
          obtain ⟨cur, hcb, hcs0⟩ := hbk.out g (by rw [hg]; rfl)
          have hcs : k * 2 + 2 ≤ cur.size := Nat.le_trans (by have := Nat.mul_le_mul_right 2 hlt; omega) hcs0
          have hk0 : k * 2 + 0 < cur.size := by have := hcs; omega
          obtain ⟨u0, c0⟩ : ∃ u, wr.cell? ⟨g, k * 2, none⟩ = some u := ⟨_, (hcb.cell _).trans (Array.getElem?_eq_getElem hk0)⟩
          have hk1 : k * 2 + 1 < cur.size := by have := hcs; omega
          obtain ⟨u1, c1⟩ : ∃ u, wr.cell? ⟨g, k * 2 + 1, none⟩ = some u := ⟨_, (hcb.cell _).trans (Array.getElem?_eq_getElem hk1)⟩
          have fz := fun q => hcb.frozen q
          have hlw := hcb.lt
          have hob : Hid ((Value.slice Q2 (gPr bl).code.length q2).ownBlock = some g) := hid (by rw [hg]; rfl)
          have hnx : Hid (Upd (fun b => (Value.slice Q2 (gPr bl).code.length q2).ownBlock = some b) w17 ((wr.setCell ⟨g, k * 2, none⟩ (.int .i64 99)).setCell ⟨g, k * 2 + 1, none⟩ (.int .i64 0)) ∧ ∀ g', (Value.slice Q2 (gPr bl).code.length q2).ownBlock = some g' → ∃ cur, Blk ((wr.setCell ⟨g, k * 2, none⟩ (.int .i64 99)).setCell ⟨g, k * 2 + 1, none⟩ (.int .i64 0)) g' 49 cur ∧ (gPr bl).code.length * 2 ≤ cur.size) := hid ⟨((hU.out.setCell (p := ⟨g, k * 2, none⟩) (fun _ => hob.out) _).setCell (p := ⟨g, k * 2 + 1, none⟩) (fun _ => hob.out) _), fun g' hg' => by
            have e : g' = g := by have := hob.out; rw [hg'] at this; injection this
            subst e
            exact ⟨_, ((hcb.set_ (k * 2) _).set_ (k * 2 + 1) _), by simpa using hcs0⟩⟩
          have hkn := hid hlt
          have hw := hid (show wrap64 ((k : Int) + 1) = ((k + 1 : Nat) : Int) by have := (gPr_len bl).2; unfold wrap64; omega)
          have hgh := hid hg
          rw [hg] at s0 ⊢
          clear hcb hcs hcs0 hlt hk hg hU hbk k14r hk0 hk1
          go_wp2_with fail
          go_roundw
          case rel => exact ⟨k + 1, by first | (rw [hw.out]; done) | (go_num), hkn.out, by rw [← hgh.out]; exact hnx.out.1, by rw [← hgh.out]; exact hnx.out.2⟩
          case measure =>
            first | rw [hw.out] | skip
            have h2 := hkn.out
            simp [intOf]; omega
        · have i1 : ¬ ((k : Int) < ((gPr bl).code.length : Int)) := by omega
          have U1 := hU.out
          have hB := hid (hB.out.trans (U1.below hB.out.size fun b hb e => by have := hgB.out b e; omega))
          have kp := hid (kp.out.upd U1 (hne.out _ _ kp.out))
          have k17 := hid (k17.out.upd U1 (hne.out _ _ k17.out))
          have k21 := hid (k21.out.upd U1 (hne.out _ _ k21.out))
          have k14 := hid k14r.out
          have hv := hid (show OwnP (gPr bl) _ wr V1 V2 v1 v2 from ⟨own_updB hv.out.1 U1 fun b h1 _ e => by have := hql.out.2 b e; have := hs910.out; omega, own_updB hv.out.2 U1 fun b h1 _ e => by have := hql.out.2 b e; have := hs910.out; omega⟩)
          have hz := hid (show OwnP (gPr bl) _ wr Z1 Z2 zz1 zz2 from ⟨own_updB hz.out.1 U1 fun b h1 _ e => by have := hql.out.2 b e; omega, own_updB hz.out.2 U1 fun b h1 _ e => by have := hql.out.2 b e; omega⟩)
          have hq := hid (own_updS hq.out.1 U1 (fun b hb => (hbc.out b hb).imp fun _ h => h.1) (by decide))
          clear U1 hU hlt hk hbk k14r hbc hform hne hgB
          rename World => w18
          have hbc : Hid (∀ g, (Value.slice Q1 (gPr bl).cs.length q1).ownBlock = some g → ∃ cur, Blk w18 g 51 cur ∧ (gPr bl).cs.length * 3 ≤ cur.size) := hid (fun g hg => by
            rcases hq.out.2 with ⟨h0, _⟩ | ⟨g', cap, cur, hv, _, hh, hc, _, hsz, _⟩
            · rw [h0] at hg; cases hg
            · rw [hv] at hg
              simp only [Value.ownBlock, Option.some.injEq] at hg
              subst hg
              exact ⟨cur, hh, by rw [hsz]; exact Nat.mul_le_mul_right _ hc⟩)
          have hform : Hid (0 < (gPr bl).cs.length → ∃ g, Q1 = some ⟨g, 0, none⟩) := hid (fun hn => by
            obtain ⟨g, cap, hv, _, _⟩ := hq.out.form hn
            exact ⟨g, by injection hv⟩)
          have hne : Hid (∀ b C, Blk w18 b 29 C → ¬ ((Value.slice Q1 (gPr bl).cs.length q1).ownBlock = some b)) := hid (fun b C hb e => by
            obtain ⟨cur, hc, _⟩ := hbc.out _ e
            exact hb.ne_ hc (by decide) rfl)
          have hgB : Hid (∀ g, (Value.slice Q1 (gPr bl).cs.length q1).ownBlock = some g → w.heap.size ≤ g) := hid (fun g hg => Nat.le_trans hwd.out (hq.out.lt g hg).1)
          go_wp2_with fail
          go_loopw [25] (fun v wr => ∃ k : Nat, v = .int .i64 k ∧ k ≤ (gPr bl).cs.length ∧ Upd (fun b => (Value.slice Q1 (gPr bl).cs.length q1).ownBlock = some b) w18 wr ∧ ∀ g, (Value.slice Q1 (gPr bl).cs.length q1).ownBlock = some g → ∃ cur, Blk wr g 51 cur ∧ (gPr bl).cs.length * 3 ≤ cur.size) (fun v _ => (gPr bl).cs.length - (intOf v).toNat)
          case atStart => exact ⟨0, rfl, Nat.zero_le _, Upd.refl _ _, hbc.out⟩
          case round =>
            obtain ⟨k, rfl, hk, hU0, hbk0⟩ := hrel
            have hU := hid hU0; have hbk := hid hbk0
            clear hU0 hbk0
            have k14r := hid (k14.out.upd hU.out (hne.out _ _ k14.out))
            have s0 : wr.cell? ⟨b14, 1, none⟩ = some (.slice Q1 (gPr bl).cs.length q1) := k14r.out.cell 1
            by_cases hlt : k < (gPr bl).cs.length
            · have i1 : (k : Int) < ((gPr bl).cs.length : Int) := by omega
              obtain ⟨g, hg⟩ := hform.out (by omega)
              obtain ⟨cur, hcb, hcs0⟩ := hbk.out g (by rw [hg]; rfl)
              have hcs : k * 3 + 3 ≤ cur.size := Nat.le_trans (by have := Nat.mul_le_mul_right 3 hlt; omega) hcs0
              have hk0 : k * 3 + 0 < cur.size := by have := hcs; omega
              obtain ⟨u0, c0⟩ : ∃ u, wr.cell? ⟨g, k * 3, none⟩ = some u := ⟨_, (hcb.cell _).trans (Array.getElem?_eq_getElem hk0)⟩
              have hk1 : k * 3 + 1 < cur.size := by have := hcs; omega
              obtain ⟨u1, c1⟩ : ∃ u, wr.cell? ⟨g, k * 3 + 1, none⟩ = some u := ⟨_, (hcb.cell _).trans (Array.getElem?_eq_getElem hk1)⟩
              have hk2 : k * 3 + 2 < cur.size := by have := hcs; omega
              obtain ⟨u2, c2⟩ : ∃ u, wr.cell? ⟨g, k * 3 + 2, none⟩ = some u := ⟨_, (hcb.cell _).trans (Array.getElem?_eq_getElem hk2)⟩
              have fz := fun q => hcb.frozen q
              have hlw := hcb.lt
              have hob : Hid ((Value.slice Q1 (gPr bl).cs.length q1).ownBlock = some g) := hid (by rw [hg]; rfl)
              have hnx : Hid (Upd (fun b => (Value.slice Q1 (gPr bl).cs.length q1).ownBlock = some b) w18 (((wr.setCell ⟨g, k * 3, none⟩ (.int .i64 99)).setCell ⟨g, k * 3 + 1, none⟩ (.int .i64 0)).setCell ⟨g, k * 3 + 2, none⟩ (.string ⟨#[]⟩)) ∧ ∀ g', (Value.slice Q1 (gPr bl).cs.length q1).ownBlock = some g' → ∃ cur, Blk (((wr.setCell ⟨g, k * 3, none⟩ (.int .i64 99)).setCell ⟨g, k * 3 + 1, none⟩ (.int .i64 0)).setCell ⟨g, k * 3 + 2, none⟩ (.string ⟨#[]⟩)) g' 51 cur ∧ (gPr bl).cs.length * 3 ≤ cur.size) := hid ⟨(((hU.out.setCell (p := ⟨g, k * 3, none⟩) (fun _ => hob.out) _).setCell (p := ⟨g, k * 3 + 1, none⟩) (fun _ => hob.out) _).setCell (p := ⟨g, k * 3 + 2, none⟩) (fun _ => hob.out) _), fun g' hg' => by
                have e : g' = g := by have := hob.out; rw [hg'] at this; injection this
                subst e
                exact ⟨_, (((hcb.set_ (k * 3) _).set_ (k * 3 + 1) _).set_ (k * 3 + 2) _), by simpa using hcs0⟩⟩
              have hkn := hid hlt
              have hw := hid (show wrap64 ((k : Int) + 1) = ((k + 1 : Nat) : Int) by have := (gPr_len bl).1; unfold wrap64; omega)
              have hgh := hid hg
              rw [hg] at s0 ⊢
              clear hcb hcs hcs0 hlt hk hg hU hbk k14r hk0 hk1 hk2
              go_wp2_with fail
              go_roundw
              case rel => exact ⟨k + 1, by first | (rw [hw.out]; done) | (go_num), hkn.out, by rw [← hgh.out]; exact hnx.out.1, by rw [← hgh.out]; exact hnx.out.2⟩
              case measure =>
                first | rw [hw.out] | skip
                have h2 := hkn.out
                simp [intOf]; omega
            · have i1 : ¬ ((k : Int) < ((gPr bl).cs.length : Int)) := by omega
              have U1 := hU.out
              have hB := hid (hB.out.trans (U1.below hB.out.size fun b hb e => by have := hgB.out b e; omega))
              have kp := hid (kp.out.upd U1 (hne.out _ _ kp.out))
              have k17 := hid (k17.out.upd U1 (hne.out _ _ k17.out))
              have k21 := hid (k21.out.upd U1 (hne.out _ _ k21.out))
              have k14 := hid k14r.out
              have hv := hid (show OwnP (gPr bl) _ wr V1 V2 v1 v2 from ⟨own_updB hv.out.1 U1 fun b h1 _ e => by have := hql.out.1 b e; have := hs910.out; omega, own_updB hv.out.2 U1 fun b h1 _ e => by have := hql.out.1 b e; have := hs910.out; omega⟩)
              have hz := hid (show OwnP (gPr bl) _ wr Z1 Z2 zz1 zz2 from ⟨own_updB hz.out.1 U1 fun b h1 _ e => by have := hql.out.1 b e; omega, own_updB hz.out.2 U1 fun b h1 _ e => by have := hql.out.1 b e; omega⟩)
              clear U1 hU hlt hk hbk k14r hbc hform hne hgB
              have t0 : wr.cell? ⟨b17, 0, none⟩ = some (.int .i64 (gPr bl).args) := k17.out.cell 0
              have t1 : wr.cell? ⟨b17, 1, none⟩ = some (.slice V1 (gPr bl).cs.length v1) := k17.out.cell 1
              have t2 : wr.cell? ⟨b17, 2, none⟩ = some (.slice V2 (gPr bl).code.length v2) := k17.out.cell 2
              have s0 : wr.cell? ⟨b21, 0, none⟩ = some (.int .i64 (gPr bl).args) := k21.out.cell 0
              have s1 : wr.cell? ⟨b21, 1, none⟩ = some (.slice Z1 (gPr bl).cs.length zz1) := k21.out.cell 1
              have s2 : wr.cell? ⟨b21, 2, none⟩ = some (.slice Z2 (gPr bl).code.length zz2) := k21.out.cell 2
              go_wp2_with fail
              refine (rsame_any (gPr bl) (gPr bl) _ _ Z1 Z2 V1 V2 zz1 zz2 v1 v2 wr (hz.out.prIn hqt.out (gPr_len bl)) (hv.out.prIn hqt.out (gPr_len bl))).mono ?_
              rintro e wy ⟨rfl, hb0⟩
              have hB := hid (hB.out.trans (hb0.mono hB.out.size))
              have hsame : decide (gPr bl = gPr bl) = true := decide_eq_true rfl
              clear hb0 t0 t1 t2 s0 s1 s2
              go_wp2_with (first | (go_at_call 10; refine (live_any _).mono ?_; rintro e wn ⟨rfl, hb0⟩; have hB := hid (hB.out.trans (hb0.mono hB.out.size)); clear hb0))
              go_ret
              exact ⟨rfl, hB.out⟩

end Go.Proofs.Ytbakfkhmopebnaa

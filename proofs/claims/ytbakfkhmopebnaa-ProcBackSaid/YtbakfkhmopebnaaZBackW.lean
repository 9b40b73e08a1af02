/- ProcBack: the walk. -/
import Derived.Test.YtbakfkhmopebnaaZPutLen
namespace Go.Proofs.Ytbakfkhmopebnaa
open Go.RowKit
set_option linter.unusedVariables false
set_option linter.unusedSimpArgs false

theorem own_setOther {w : World} {base : Nat} {e t : TypeId} {size n g : Nat} {v : Value} {xs : List Value} {cs : Array Value} (h : w.ownsRow base e size v n xs) (hb : Blk w g t cs) (hne : e ≠ t) (j : Nat) (u : Value) : (w.setCell ⟨g, j, none⟩ u).ownsRow base e size v n xs := by
  refine ⟨h.1, ?_⟩
  rcases h.2 with hn | ⟨g', cap, cur, rfl, hbb, hh, rest⟩
  · exact .inl hn
  · refine .inr ⟨g', cap, cur, rfl, hbb, (Below.heap_setCell w ⟨g, j, none⟩ u g' ?_).trans hh, rest⟩
    rintro rfl
    unfold Blk at hb
    rw [hh] at hb
    injection hb with hb
    injection hb with _ ht
    exact hne ht
set_option maxRecDepth 100000 in
set_option maxHeartbeats 4000000 in
theorem back_walk (p : Pr) (A1 A2 : Option Addr) (c1 c2 : Nat) (at_ : Int) (x : Is) (w : World) (hp : PrArg w A1 A2 p) : Calls Try.prog 7 #[.agg #[.int .i64 p.args, .slice A1 p.cs.length c1, .slice A2 p.code.length c2], .int .i64 at_, .agg #[.int .i64 x.op, .int .i64 x.n]] w fun e w' => e = .returned (.bool true) ∧ Below w.heap.size w w' := by
  have hPw : Hid (∀ W, Below w.heap.size w W → p.code.length + p.cs.length ≤ 2000 → PrIn (fun b => b < w.heap.size) W A1 A2 p) := hid fun W hb hl => (hp.prIn hl).below hb
  have hlen := hid hp.n
  have hvr := hid hp.v
  clear hp
  obtain ⟨W0, hW0⟩ : ∃ W0, W0 = (w.alloc (.cells #[.int .i64 p.args, .slice A1 p.cs.length c1, .slice A2 p.code.length c2] 29)).alloc (.cells #[.int .i64 x.op, .int .i64 x.n] 49) := ⟨_, rfl⟩
  have hB0 : Hid (Below w.heap.size w W0) := hid (by subst hW0; exact ((Below.refl _ _).alloc (Nat.le_refl _) _).alloc (by simp) _)
  have k0 : Hid (Blk W0 w.heap.size 29 #[.int .i64 p.args, .slice A1 p.cs.length c1, .slice A2 p.code.length c2]) := hid (by subst hW0; exact (Blk.new w _ _).alloc _)
  have ki : Hid (Blk W0 (w.heap.size + 1) 49 #[.int .i64 x.op, .int .i64 x.n]) := hid (by subst hW0; exact Blk.new' _ _ _ (by simp))
  go_enter Try.func7, Try.ntmps7
  go_upto_region 1 with fail
  rw [← hW0]
  clear hW0
  have x0 : W0.cell? ⟨w.heap.size, 0, none⟩ = some (.int .i64 p.args) := k0.out.cell 0
  have x1 : W0.cell? ⟨w.heap.size, 1, none⟩ = some (.slice A1 p.cs.length c1) := k0.out.cell 1
  have x2 : W0.cell? ⟨w.heap.size, 2, none⟩ = some (.slice A2 p.code.length c2) := k0.out.cell 2
  have hlg := hid (long_any (fun _ => True) A1 A2 c1 c2 p.cs.length p.code.length p.args W0 hlen.out)
  go_wp2_with fail
  refine hlg.out.mono ?_
  rintro e w1 ⟨rfl, hb0⟩
  have hB1 := hid (hB0.out.trans (hb0.mono hB0.out.size))
  have k1 := hid (k0.out.below_all hb0)
  have ki1 := hid (ki.out.below_all hb0)
  clear hb0 hlg x0 x1 x2 k0 ki hB0
  have hbX := hid (Below.refl w1.heap.size w1)
  by_cases hlo : 2000 < p.code.length + p.cs.length
  · have t0 : decide ((2000 : Int) < ((p.code.length + p.cs.length : Nat) : Int)) = true := decide_eq_true (by omega)
    rw [t0]
    clear t0 hlo
    go_wp2_with (first | (go_at_call 10; refine (live_any _).mono ?_; rintro e wn ⟨rfl, hb0⟩; have hbX : Hid (Below w1.heap.size w1 wn) := hid (hbX.out.trans (hb0.mono hbX.out.size)); clear hb0) | (go_at_call 9; refine (num_any _ _).mono ?_; rintro e wq ⟨rfl, hwq⟩; obtain rfl := hwq.symm; clear hwq))
    go_ret
    exact ⟨rfl, hB1.out.trans (hbX.out.mono hB1.out.size)⟩
  have t0 : decide ((2000 : Int) < ((p.code.length + p.cs.length : Nat) : Int)) = false := decide_eq_false (by omega)
  rw [t0]
  have hle : p.code.length + p.cs.length ≤ 2000 := by omega
  have hlh := hid hle
  have hcell := hid (show ∀ W, Below w1.heap.size w1 W → W.cell? ⟨w.heap.size, 0, none⟩ = some (.int .i64 p.args) ∧ W.cell? ⟨w.heap.size, 1, none⟩ = some (.slice A1 p.cs.length c1) ∧ W.cell? ⟨w.heap.size, 2, none⟩ = some (.slice A2 p.code.length c2) ∧ W.cell? ⟨w.heap.size + 1, 0, none⟩ = some (.int .i64 x.op) ∧ W.cell? ⟨w.heap.size + 1, 1, none⟩ = some (.int .i64 x.n) from fun W hb => by
    have h1 := k1.out.below_all hb
    have h2 := ki1.out.below_all hb
    exact ⟨h1.cell 0, h1.cell 1, h1.cell 2, h2.cell 0, h2.cell 1⟩)
  have hPb : Hid (∀ W, Below w1.heap.size w1 W → PrIn (fun b => b < w.heap.size) W A1 A2 p) := hid fun W hb => hPw.out W (hB1.out.trans (hb.mono hB1.out.size)) hle
  have hrng := hid (show ∀ v ∈ p.cs, v.rng from fun v hv => (hvr.out v hv).1)
  have ht := hid (hPb.out _ hbX.out).t
  have hl9 := hid (hPb.out _ hbX.out).l
  clear t0 hlo hle hPw hvr k1 ki1
  obtain ⟨x0, x1, x2, z0, z1⟩ := hcell.out _ hbX.out
  go_wp2_with fail
  refine (own_any p _ A1 A2 c1 c2 _ (hPb.out _ hbX.out)).mono ?_
  rintro e w2 ⟨B1, B2, d1, d2, rfl, ho0, hb0⟩
  have hbX : Hid (Below w1.heap.size w1 w2) := hid (hbX.out.trans (hb0.mono hbX.out.size))
  have ho2 := hid ho0
  clear hb0 ho0 x0 x1 x2 z0 z1
  obtain ⟨x0, x1, x2, z0, z1⟩ := hcell.out _ hbX.out
  have hpo := hid (ho2.out.prIn ht.out hl9.out)
  by_cases hck : p.check.1 = 0
  · have hckh := hid hck
    have hpl := hid (put_le hck)
    have hpb := hid (put_lt hck hrng.out)
    have hgp := hid (get_put hck hrng.out)
    have hput := hid (pput_any (fun _ => True) _ none B1 B2 0 d1 d2 [] p w2 Rd.nil_ hpo.out hrng.out (by simp) hck)
    obtain ⟨d, hfd, hfo, hde⟩ := deps_len hck
    obtain ⟨_, _, _, _, hc0, hc256, _⟩ := form_ok hfo
    obtain ⟨hd00, hdr, _⟩ := find_ok hfd
    have hdn : Hid (p.deps.length = p.code.length) := hid (by rw [hde]; simp)
    have hdg : Hid (∀ j, j < p.code.length → (p.deps.map (Value.int .i64))[j]? = some (.int .i64 (d j))) := hid (fun j hj => by
      rw [List.getElem?_map, hde, List.getElem?_map, List.getElem?_range (by omega)]; rfl)
    have hN0 : 0 < p.code.length := by omega
    have hN0h := hid hN0
    have hN256 := hid (show p.code.length ≤ 256 by omega)
    have hdrh := hid hdr
    have hfdh := hid hfd
    clear hck hpo hfo hde hc0 hc256 hd00 hdr hN0 hfd
    go_wp2_with fail
    refine hput.out.mono ?_
    rintro e w3 ⟨hb0, PA, Pc, rfl, hown⟩
    rw [List.nil_append] at hown ⊢
    have hprd := hid ((Rd.of_own' hown).all)
    have hbX : Hid (Below w1.heap.size w1 w3) := hid (hbX.out.trans (hb0.mono hbX.out.size))
    clear hb0 hown hput x0 x1 x2 z0 z1
    obtain ⟨x0, x1, x2, z0, z1⟩ := hcell.out _ hbX.out
    go_upto_region 6 with (go_at_call 9; refine (num_any _ _).mono ?_; rintro e wq ⟨rfl, hwq⟩; obtain rfl := hwq.symm; clear hwq)
    go_wp2_with fail
    refine (get_any _ PA Pc p.put w3 hprd.out (by have := hpl.out; omega) hpb.out).mono ?_
    rintro e w4 ⟨hb0, hg⟩
    rw [hgp.out] at hg
    obtain ⟨Q1, Q2, q1, q2, rfl, ho1, ho2', _⟩ := hg
    have hbX : Hid (Below w1.heap.size w1 w4) := hid (hbX.out.trans (hb0.mono hbX.out.size))
    have hq4 := hid (show OwnP p w3.heap.size w4 Q1 Q2 q1 q2 from ⟨ho1, ho2'⟩)
    clear hb0 ho1 ho2' hprd x0 x1 x2 z0 z1
    go_upto_region 7 with fail
    obtain ⟨b9, hb9⟩ : ∃ b, b = w4.heap.size := ⟨_, rfl⟩
    have k5 := hid (Blk.new' w4 29 #[.int .i64 p.args, .slice Q1 p.cs.length q1, .slice Q2 p.code.length q2] hb9)
    have hBw : Below w4.heap.size w4 (w4.alloc (.cells #[.int .i64 p.args, .slice Q1 p.cs.length q1, .slice Q2 p.code.length q2] 29)) := (Below.refl _ _).alloc (Nat.le_refl _) _
    have hbX : Hid (Below w1.heap.size w1 (w4.alloc (.cells #[.int .i64 p.args, .slice Q1 p.cs.length q1, .slice Q2 p.code.length q2] 29))) := hid (hbX.out.trans (hBw.mono hbX.out.size))
    have hq5 := hid (hq4.out.below hBw)
    generalize w4.alloc (.cells #[.int .i64 p.args, .slice Q1 p.cs.length q1, .slice Q2 p.code.length q2] 29) = w5 at *
    rw [← hb9]
    clear hb9 hBw hq4
    have hb15 := hid hbX.out
    have hcell5 := hid (show ∀ W, Below w5.heap.size w5 W → W.cell? ⟨b9, 0, none⟩ = some (.int .i64 p.args) ∧ W.cell? ⟨b9, 1, none⟩ = some (.slice Q1 p.cs.length q1) ∧ W.cell? ⟨b9, 2, none⟩ = some (.slice Q2 p.code.length q2) from fun W hb => by
      have h1 := k5.out.below_all hb
      exact ⟨h1.cell 0, h1.cell 1, h1.cell 2⟩)
    obtain ⟨x0, x1, x2, z0, z1⟩ := hcell.out _ hbX.out
    go_wp2_with fail
    refine (own_any p _ A1 A2 c1 c2 _ (hPb.out _ hbX.out)).mono ?_
    rintro e w6 ⟨B3, B4, d3, d4, rfl, ho0, hb0⟩
    have hb56 := hid hb0
    have hbX : Hid (Below w1.heap.size w1 w6) := hid (hbX.out.trans (hb0.mono hbX.out.size))
    have ho6 := hid (ho0.prIn ht.out hl9.out)
    clear hb0 ho0 x0 x1 x2 z0 z1
    obtain ⟨x0, x1, x2, z0, z1⟩ := hcell.out _ hbX.out
    go_wp2_with fail
    refine (depths_any p _ B3 B4 d3 d4 w6 ho6.out).mono ?_
    rintro e w7 ⟨v, rfl, hd0, hb0⟩
    obtain ⟨DA, Dc, rfl, _⟩ := own_form hd0
    have hb57 := hid (hb56.out.trans (hb0.mono hb56.out.size))
    have hbX : Hid (Below w1.heap.size w1 w7) := hid (hbX.out.trans (hb0.mono hbX.out.size))
    have hrd := hid ((Rd.of_own' hd0).all)
    rw [hdn.out] at hrd
    rw [hdn.out]
    obtain ⟨g, o, hA, _, hgl, hcl⟩ := hrd.out.at_ hN0h.out
    have hcw : Hid (∀ W, Below w7.heap.size w7 W → ∀ j, j < p.code.length → W.cell? ⟨g, o + j, none⟩ = some (.int .i64 (d j))) := hid (fun W hb j hj => (hb.cell (p := ⟨g, o + j, none⟩) hgl).trans (hcl j _ (hdg.out j hj)))
    subst hA
    clear hb0 hd0 ho6 x0 x1 x2 z0 z1 hrd hgl hcl hb56
    obtain ⟨x0, x1, x2, z0, z1⟩ := hcell.out _ hbX.out
    obtain ⟨y0, y1, y2⟩ := hcell5.out _ hb57.out
    have hsame : decide (p = p) = true := decide_eq_true rfl
    have n1 : ((p.code.length : Int) != (p.code.length : Int)) = false := by simp
    go_upto_region 10 with (first
      | (go_at_call 9; refine (num_any _ _).mono ?_; rintro e wq ⟨rfl, hwq⟩; obtain rfl := hwq.symm; clear hwq)
      | (go_at_call 20; refine (rsame_any p p _ _ Q1 Q2 A1 A2 q1 q2 c1 c2 _ ((hq5.out.below hb57.out).prIn ht.out hl9.out) (hPb.out _ hbX.out)).mono ?_; rintro e w8 ⟨rfl, hb0⟩; have hb78 := hid hb0; have hbX : Hid (Below w1.heap.size w1 w8) := hid (hbX.out.trans (hb0.mono hbX.out.size)); clear hb0; obtain ⟨x0, x1, x2, z0, z1⟩ := hcell.out _ hbX.out))
    have hb18 := hid hbX.out
    clear y0 y1 y2 hcell5 hq5 hb57 hsame n1
    by_cases hneg : at_ < 0
    · clear hb78
      go_wp2_with (first | (go_at_call 10; refine (live_any _).mono ?_; rintro e wn ⟨rfl, hb0⟩; have hbX : Hid (Below w1.heap.size w1 wn) := hid (hbX.out.trans (hb0.mono hbX.out.size)); clear hb0) | (go_at_call 9; refine (num_any _ _).mono ?_; rintro e wq ⟨rfl, hwq⟩; obtain rfl := hwq.symm; clear hwq))
      go_ret
      exact ⟨rfl, hB1.out.trans (hbX.out.mono hB1.out.size)⟩
    by_cases hfar : (p.code.length : Int) ≤ at_
    · have g1 : ¬ at_ < 0 := hneg
      clear hb78
      go_wp2_with (first | (go_at_call 10; refine (live_any _).mono ?_; rintro e wn ⟨rfl, hb0⟩; have hbX : Hid (Below w1.heap.size w1 wn) := hid (hbX.out.trans (hb0.mono hbX.out.size)); clear hb0) | (go_at_call 9; refine (num_any _ _).mono ?_; rintro e wq ⟨rfl, hwq⟩; obtain rfl := hwq.symm; clear hwq))
      go_ret
      exact ⟨rfl, hB1.out.trans (hbX.out.mono hB1.out.size)⟩
    obtain ⟨m, hm⟩ : ∃ m : Nat, at_ = (m : Int) := ⟨at_.toNat, by omega⟩
    subst hm
    have hml : m < p.code.length := by omega
    have hdm := hcw.out _ hb78.out m hml
    have g3 : (m : Int) < (p.code.length : Int) := by omega
    have g4 : ¬ ((p.code.length : Int) ≤ (m : Int)) := by omega
    have hmh := hid hml
    clear hneg hfar hml
    rcases hdrh.out m with hdv | hdv
    · rw [hdv] at hdm
      have hbc := hid (back_check (x := x) hckh.out hfdh.out hdv)
      clear hdv
      go_wp2_with fail
      refine (own_any p _ A1 A2 c1 c2 w8 (hPb.out _ hbX.out)).mono ?_
      rintro e w9 ⟨O1, O2, e1, e2, rfl, ho0, hb0⟩
      have hbX : Hid (Below w1.heap.size w1 w9) := hid (hbX.out.trans (hb0.mono hbX.out.size))
      have ho9 := hid ho0
      clear hb0 ho0 x0 x1 x2 z0 z1 hdm g3 g4 hb78
      go_upto_region 13 with fail
      obtain ⟨b13, hb13⟩ : ∃ b, b = w9.heap.size := ⟨_, rfl⟩
      have k10 := hid (Blk.new' w9 29 #[.int .i64 p.args, .slice O1 p.cs.length e1, .slice O2 p.code.length e2] hb13)
      have hBw : Below w9.heap.size w9 (w9.alloc (.cells #[.int .i64 p.args, .slice O1 p.cs.length e1, .slice O2 p.code.length e2] 29)) := (Below.refl _ _).alloc (Nat.le_refl _) _
      have hbX : Hid (Below w1.heap.size w1 (w9.alloc (.cells #[.int .i64 p.args, .slice O1 p.cs.length e1, .slice O2 p.code.length e2] 29))) := hid (hbX.out.trans (hBw.mono hbX.out.size))
      have ho10 := hid (ho9.out.below hBw)
      have hg2 := ho9.out.2.lt
      generalize w9.alloc (.cells #[.int .i64 p.args, .slice O1 p.cs.length e1, .slice O2 p.code.length e2] 29) = w10 at *
      rw [← hb13]
      obtain ⟨g2, cap, hv, _, hg2l⟩ := ho10.out.2.form (by have := hmh.out; omega)
      have hO2 : O2 = some ⟨g2, 0, none⟩ := by injection hv
      subst hO2
      have hgg := hg2 g2 rfl
      have hne13 : b13 ≠ g2 := by omega
      obtain ⟨x0, x1, x2, z0, z1⟩ := hcell.out _ hbX.out
      have y0 : w10.cell? ⟨b13, 0, none⟩ = some (.int .i64 p.args) := k10.out.cell 0
      have y1 : w10.cell? ⟨b13, 1, none⟩ = some (.slice O1 p.cs.length e1) := k10.out.cell 1
      have y2 : w10.cell? ⟨b13, 2, none⟩ = some (.slice (some ⟨g2, 0, none⟩) p.code.length e2) := k10.out.cell 2
      obtain ⟨cur, hcur, hcsz⟩ : ∃ cur, Blk w10 g2 49 cur ∧ p.code.length * 2 ≤ cur.size := by
        rcases ho10.out.2.2 with ⟨h0, _⟩ | ⟨g', cap', cur, hv', _, hh, hc', _, hs', _⟩
        · cases h0
        · have e : g' = g2 := by injection hv' with h1; injection h1 with h1; injection h1 with h1; exact h1.symm
          subst e
          exact ⟨cur, hh, by omega⟩
      have fz := fun q => hcur.frozen q
      obtain ⟨uu, q0⟩ : ∃ u, w10.cell? ⟨g2, m * 2, none⟩ = some u := ⟨_, (hcur.cell _).trans (Array.getElem?_eq_getElem (show m * 2 < cur.size by have := hmh.out; omega))⟩
      obtain ⟨vv, q1'⟩ : ∃ u, w10.cell? ⟨g2, m * 2 + 1, none⟩ = some u := ⟨_, (hcur.cell _).trans (Array.getElem?_eq_getElem (show m * 2 + 1 < cur.size by have := hmh.out; omega))⟩
      obtain ⟨w11, hw11⟩ : ∃ W, W = (w10.setCell ⟨g2, m * 2, none⟩ (.int .i64 x.op)).setCell ⟨g2, m * 2 + 1, none⟩ (.int .i64 x.n) := ⟨_, rfl⟩
      obtain ⟨p', hp'⟩ : ∃ p' : Pr, p' = { p with code := p.code.set m x } := ⟨_, rfl⟩
      have ea : p'.args = p.args := by rw [hp']
      have ec : p'.cs = p.cs := by rw [hp']
      have el : p'.code.length = p.code.length := by rw [hp']; simp
      have hb118 : w1.heap.size ≤ g2 := by have := hb18.out.size; omega
      have hbX : Hid (Below w1.heap.size w1 w11) := hid (by
        subst hw11
        exact (hbX.out.setCell (p := ⟨g2, m * 2, none⟩) hb118 _).setCell (p := ⟨g2, m * 2 + 1, none⟩) hb118 _)
      have ho11 : Hid (OwnP p' w8.heap.size w11 O1 (some ⟨g2, 0, none⟩) e1 e2) := hid (by
        have r2 := own_set (own_set ho10.out.2 (m * 2) (by have := hmh.out; omega) (.int .i64 x.op)) (m * 2 + 1) (by have := hmh.out; omega) (.int .i64 x.n)
        rw [← icells_set] at r2
        have r1 := own_setOther (own_setOther ho10.out.1 hcur (by decide) (m * 2) (.int .i64 x.op)) (hcur.set_ (m * 2) _) (by decide) (m * 2 + 1) (.int .i64 x.n)
        rw [← hw11] at r1 r2
        refine ⟨by rw [ec]; exact r1, ?_⟩
        rw [el]
        have e3 : p'.code = p.code.set m x := by rw [hp']
        rw [e3]
        exact r2)
      have k11 := hid (show Blk w11 b13 29 #[.int .i64 p'.args, .slice O1 p'.cs.length e1, .slice (some ⟨g2, 0, none⟩) p'.code.length e2] from by
        rw [ea, ec, el]
        subst hw11
        exact (k10.out.far (p := ⟨g2, m * 2, none⟩) hne13 _).far (p := ⟨g2, m * 2 + 1, none⟩) hne13 _)
      have hbc' := hid (show p'.check.1 = p'.form.1 from by rw [hp']; exact hbc.out)
      have hl9' := hid (show p'.cs.length ≤ 1000000000 ∧ p'.code.length ≤ 1000000000 from by rw [ec, el]; exact hl9.out)
      have ht' := hid (show ∀ v ∈ p'.cs, v.s.size ≤ 9223372036854775806 from by rw [ec]; exact ht.out)
      have hw11h := hid hw11
      have hlq := hcur.lt
      have hl13 := k10.out.lt
      have g5 : (m : Int) < (p.code.length : Int) := by have := hmh.out; omega
      clear hcur hcsz hp' ea ec el hv hgg hg2 hg2l hb13 hBw hw11 hb118 hne13 hbc
      go_upto_region 14 with fail
      rw [← hw11h.out]
      clear x0 x1 x2 z0 z1 y0 y1 y2 q0 q1' fz hlq hl13 g5
      have hb111 := hid hbX.out
      have hcell11 := hid (show ∀ W, Below w11.heap.size w11 W → W.cell? ⟨b13, 0, none⟩ = some (.int .i64 p'.args) ∧ W.cell? ⟨b13, 1, none⟩ = some (.slice O1 p'.cs.length e1) ∧ W.cell? ⟨b13, 2, none⟩ = some (.slice (some ⟨g2, 0, none⟩) p'.code.length e2) from fun W hb => by
        have h1 := k11.out.below_all hb
        exact ⟨h1.cell 0, h1.cell 1, h1.cell 2⟩)
      have hbX := hid (Below.refl w11.heap.size w11)
      obtain ⟨y0, y1, y2⟩ := hcell11.out _ hbX.out
      have hce : (p'.form.1 == p'.check.1) = true := by rw [hbc'.out]; simp
      go_wp2_with (first
        | (go_at_call 9; refine (num_any _ _).mono ?_; rintro e wq ⟨rfl, hwq⟩; obtain rfl := hwq.symm; clear hwq)
        | (go_at_call 12; refine (own_any p' _ _ _ _ _ _ ((ho11.out.below hbX.out).prIn ht'.out hl9'.out)).mono ?_; rintro e wn ⟨F1, F2, f1, f2, rfl, ho0, hb0⟩; have hoo := hid (ho0.prIn ht'.out hl9'.out); have hbX : Hid (Below w11.heap.size w11 wn) := hid (hbX.out.trans (hb0.mono hbX.out.size)); clear hb0 ho0; obtain ⟨y0, y1, y2⟩ := hcell11.out _ hbX.out)
        | (go_at_call 13; refine (form_any p' _ _ _ _ _ _ hoo.out).mono ?_; rintro e wn ⟨rfl, hb0⟩; have hbX : Hid (Below w11.heap.size w11 wn) := hid (hbX.out.trans (hb0.mono hbX.out.size)); clear hb0; obtain ⟨y0, y1, y2⟩ := hcell11.out _ hbX.out)
        | (go_at_call 14; refine (check_any p' _ _ _ _ _ _ hoo.out).mono ?_; rintro e wn ⟨rfl, hb0⟩; have hbX : Hid (Below w11.heap.size w11 wn) := hid (hbX.out.trans (hb0.mono hbX.out.size)); clear hb0; obtain ⟨y0, y1, y2⟩ := hcell11.out _ hbX.out)
        | (go_at_call 10; refine (live_any _).mono ?_; rintro e wn ⟨rfl, hb0⟩; have hbX : Hid (Below w11.heap.size w11 wn) := hid (hbX.out.trans (hb0.mono hbX.out.size)); clear hb0))
      go_ret
      exact ⟨rfl, (hB1.out.trans (hb111.out.mono hB1.out.size)).trans (hbX.out.mono (Nat.le_trans hB1.out.size hb111.out.size))⟩
    · have g5 : (0 : Int) ≤ d m := hdv.1
      have g6 : ¬ d m < 0 := by omega
      generalize d m = dm at *
      clear hdv hb78
      go_wp2_with (first | (go_at_call 10; refine (live_any _).mono ?_; rintro e wn ⟨rfl, hb0⟩; have hbX : Hid (Below w1.heap.size w1 wn) := hid (hbX.out.trans (hb0.mono hbX.out.size)); clear hb0) | (go_at_call 9; refine (num_any _ _).mono ?_; rintro e wq ⟨rfl, hwq⟩; obtain rfl := hwq.symm; clear hwq))
      go_ret
      exact ⟨rfl, hB1.out.trans (hbX.out.mono hB1.out.size)⟩
  · have t1 : (p.check.1 != 0) = true := by simpa using hck
    have hput := hid (pput_bad (fun _ => True) _ none B1 B2 0 d1 d2 [] p w2 hpo.out hck)
    clear hck
    generalize p.check.1 = ck1 at *
    go_wp2_with fail
    refine hput.out.mono ?_
    rintro e w3 ⟨rfl, hb0⟩
    have hbX : Hid (Below w1.heap.size w1 w3) := hid (hbX.out.trans (hb0.mono hbX.out.size))
    clear hb0 hput x0 x1 x2 z0 z1
    go_wp2_with (first | (go_at_call 10; refine (live_any _).mono ?_; rintro e wn ⟨rfl, hb0⟩; have hbX : Hid (Below w1.heap.size w1 wn) := hid (hbX.out.trans (hb0.mono hbX.out.size)); clear hb0) | (go_at_call 9; refine (num_any _ _).mono ?_; rintro e wq ⟨rfl, hwq⟩; obtain rfl := hwq.symm; clear hwq))
    go_ret
    exact ⟨rfl, hB1.out.trans (hbX.out.mono hB1.out.size)⟩

end Go.Proofs.Ytbakfkhmopebnaa

/- ProcChecks: the walk. -/
import Derived.Test.YtbakfkhmopebnaaZOpen
namespace Go.Proofs.Ytbakfkhmopebnaa
open Go.RowKit
set_option linter.unusedVariables false
set_option linter.unusedSimpArgs false

theorem deps_le (p : Pr) : p.deps.length ≤ p.code.length := by
  unfold Pr.deps
  split
  · simp
  · split <;> simp
set_option maxRecDepth 100000 in
set_option maxHeartbeats 4000000 in
theorem checks_walk (p : Pr) (A1 A2 : Option Addr) (c1 c2 : Nat) (w : World) (hp : PrArg w A1 A2 p) : Calls Try.prog 4 #[.agg #[.int .i64 p.args, .slice A1 p.cs.length c1, .slice A2 p.code.length c2]] w fun e w' => e = .returned (.bool true) ∧ Below w.heap.size w w' := by
  have hPw : Hid (∀ W, Below w.heap.size w W → p.code.length + p.cs.length ≤ 2000 → PrIn (fun b => b < w.heap.size) W A1 A2 p) := hid fun W hb hl => (hp.prIn hl).below hb
  have hlen := hid hp.n
  have hvr := hid hp.v
  clear hp
  obtain ⟨W0, hW0⟩ : ∃ W0, W0 = w.alloc (.cells #[.int .i64 p.args, .slice A1 p.cs.length c1, .slice A2 p.code.length c2] 29) := ⟨_, rfl⟩
  have hB0 : Hid (Below w.heap.size w W0) := hid (by subst hW0; exact (Below.refl _ _).alloc (Nat.le_refl _) _)
  have k0 : Hid (Blk W0 w.heap.size 29 #[.int .i64 p.args, .slice A1 p.cs.length c1, .slice A2 p.code.length c2]) := hid (by subst hW0; exact Blk.new w _ _)
  go_enter Try.func4, Try.ntmps4
  go_upto_region 1 with fail
  rw [← hW0]
  clear hW0
  have x0 : W0.cell? ⟨w.heap.size, 0, none⟩ = some (.int .i64 p.args) := k0.out.cell 0
  have x1 : W0.cell? ⟨w.heap.size, 1, none⟩ = some (.slice A1 p.cs.length c1) := k0.out.cell 1
  have x2 : W0.cell? ⟨w.heap.size, 2, none⟩ = some (.slice A2 p.code.length c2) := k0.out.cell 2
  have hlg := hid (long_any (fun _ => True) A1 A2 c1 c2 p.cs.length p.code.length p.args W0 hlen.out)
  go_wp2_with fail
  refine hlg.out.mono ?_
  rintro e w1 ⟨rfl, hb0⟩
  have hB1 := hid (hB0.out.trans (hb0.mono hB0.out.size))
  have k1 := hid (k0.out.below_all hb0)
  clear hb0 hlg x0 x1 x2 k0 hB0
  by_cases hlo : 2000 < p.code.length + p.cs.length
  · have t0 : decide ((2000 : Int) < ((p.code.length + p.cs.length : Nat) : Int)) = true := decide_eq_true (by omega)
    rw [t0]
    clear t0 hlo
    go_wp2_with fail
    refine (live_any w1).mono ?_
    rintro e w2 ⟨rfl, hb0⟩
    have hB2 := hid (hB1.out.trans (hb0.mono hB1.out.size))
    clear hb0
    go_wp2_with fail
    go_ret
    exact ⟨rfl, hB2.out⟩
  have t0 : decide ((2000 : Int) < ((p.code.length + p.cs.length : Nat) : Int)) = false := decide_eq_false (by omega)
  rw [t0]
  have hle : p.code.length + p.cs.length ≤ 2000 := by omega
  have hP := hid (fun W hb => hPw.out W hb hle)
  have hlh := hid hle
  clear t0 hlo hle hPw
  have x0 : w1.cell? ⟨w.heap.size, 0, none⟩ = some (.int .i64 p.args) := k1.out.cell 0
  have x1 : w1.cell? ⟨w.heap.size, 1, none⟩ = some (.slice A1 p.cs.length c1) := k1.out.cell 1
  have x2 : w1.cell? ⟨w.heap.size, 2, none⟩ = some (.slice A2 p.code.length c2) := k1.out.cell 2
  go_wp2_with fail
  refine (own_any p _ A1 A2 c1 c2 w1 (hP.out _ hB1.out)).mono ?_
  rintro e w2 ⟨B1, B2, d1, d2, rfl, ho0, hb0⟩
  have hB2 := hid (hB1.out.trans (hb0.mono hB1.out.size))
  have k2 := hid (k1.out.below_all hb0)
  have ho2 := hid ho0
  clear hb0 ho0 k1 hB1 x0 x1 x2
  go_upto_region 4 with fail
  obtain ⟨b3, hb3⟩ : ∃ b, b = w2.heap.size := ⟨_, rfl⟩
  obtain ⟨W3, hW3⟩ : ∃ W3, W3 = w2.alloc (.cells #[.int .i64 p.args, .slice B1 p.cs.length d1, .slice B2 p.code.length d2] 29) := ⟨_, rfl⟩
  have hBa : Below w2.heap.size w2 W3 := by subst hW3; exact (Below.refl _ _).alloc (Nat.le_refl _) _
  have k3 : Blk W3 b3 29 #[.int .i64 p.args, .slice B1 p.cs.length d1, .slice B2 p.code.length d2] := by subst hW3; exact Blk.new' _ _ _ hb3
  have hB3 := hid (hB2.out.trans (hBa.mono hB2.out.size))
  have kk := k2.out.below_all hBa
  have ho3 := ho2.out.below hBa
  have hq : Hid (∀ W, Below W3.heap.size W3 W → PrIn (fun b => w1.heap.size ≤ b) W B1 B2 p) := hid (fun W hb => ⟨(Rd.of_own' ho3.1).below_all hb, (Rd.of_own' ho3.2).below_all hb, (hP.out _ hB3.out).t, (hP.out _ hB3.out).l⟩)
  have hcell : Hid (∀ W, Below W3.heap.size W3 W → W.cell? ⟨w.heap.size, 0, none⟩ = some (.int .i64 p.args) ∧ W.cell? ⟨w.heap.size, 1, none⟩ = some (.slice A1 p.cs.length c1) ∧ W.cell? ⟨w.heap.size, 2, none⟩ = some (.slice A2 p.code.length c2) ∧ W.cell? ⟨b3, 0, none⟩ = some (.int .i64 p.args) ∧ W.cell? ⟨b3, 1, none⟩ = some (.slice B1 p.cs.length d1) ∧ W.cell? ⟨b3, 2, none⟩ = some (.slice B2 p.code.length d2)) := hid (fun W hb => by
    have h1 := kk.below_all hb
    have h2 := k3.below_all hb
    exact ⟨h1.cell 0, h1.cell 1, h1.cell 2, h2.cell 0, h2.cell 1, h2.cell 2⟩)
  have hbl : Hid (w.heap.size < W3.heap.size ∧ Blk W3 w.heap.size 29 #[.int .i64 p.args, .slice A1 p.cs.length c1, .slice A2 p.code.length c2]) := hid ⟨kk.lt, kk⟩
  have hpp : Hid (∀ W, Below W3.heap.size W3 W → PrIn (fun b => b < w.heap.size) W A1 A2 p) := hid (fun W hb => hP.out W (hB3.out.trans (hb.mono hB3.out.size)))
  rw [← hW3, ← hb3]
  clear hW3 hb3 hBa k3 kk ho3 ho2 k2 hB2
  have hbX := hid (Below.refl W3.heap.size W3)
  obtain ⟨x0, x1, x2, y0, y1, y2⟩ := hcell.out _ hbX.out
  go_upto_region 8 with (first
    | (go_at_call 13; refine (form_any p _ B1 B2 d1 d2 _ (hq.out _ hbX.out)).mono ?_; rintro e wn ⟨rfl, hb0⟩; have hbX : Hid (Below W3.heap.size W3 wn) := hid (hbX.out.trans (hb0.mono hbX.out.size)); clear hb0; obtain ⟨x0, x1, x2, y0, y1, y2⟩ := hcell.out _ hbX.out)
    | (go_at_call 14; refine (check_any p _ B1 B2 d1 d2 _ (hq.out _ hbX.out)).mono ?_; rintro e wn ⟨rfl, hb0⟩; have hbX : Hid (Below W3.heap.size W3 wn) := hid (hbX.out.trans (hb0.mono hbX.out.size)); clear hb0; obtain ⟨x0, x1, x2, y0, y1, y2⟩ := hcell.out _ hbX.out)
    | (go_at_call 15; refine (rform_any p _ A1 A2 c1 c2 _ (hpp.out _ hbX.out)).mono ?_; rintro e wn ⟨rfl, hb0⟩; have hbX : Hid (Below W3.heap.size W3 wn) := hid (hbX.out.trans (hb0.mono hbX.out.size)); clear hb0; obtain ⟨x0, x1, x2, y0, y1, y2⟩ := hcell.out _ hbX.out)
    | (go_at_call 16; refine (rcheck_any p _ A1 A2 c1 c2 _ (hpp.out _ hbX.out)).mono ?_; rintro e wn ⟨rfl, hb0⟩; have hbX : Hid (Below W3.heap.size W3 wn) := hid (hbX.out.trans (hb0.mono hbX.out.size)); clear hb0; obtain ⟨x0, x1, x2, y0, y1, y2⟩ := hcell.out _ hbX.out))
  go_wp2_with fail
  refine (depths_any p _ B1 B2 d1 d2 _ (hq.out _ hbX.out)).mono ?_
  rintro e w8 ⟨v, rfl, hd0, hb0⟩
  obtain ⟨DA, Dc, rfl, _⟩ := own_form hd0
  have hd8 := hid hd0
  have hs8 := hid (Nat.le_trans (Nat.le_of_lt hbl.out.1) hbX.out.size)
  have hs8' := hid hbX.out.size
  have hgl := hid (hd0.lt)
  have hbX : Hid (Below W3.heap.size W3 w8) := hid (hbX.out.trans (hb0.mono hbX.out.size))
  clear hb0 hd0 x0 x1 x2 y0 y1 y2
  obtain ⟨x0, x1, x2, y0, y1, y2⟩ := hcell.out _ hbX.out
  go_wp2_with fail
  refine (depths_any p _ B1 B2 d1 d2 _ (hq.out _ hbX.out)).mono ?_
  rintro e w9 ⟨v, rfl, ha0, hb0⟩
  obtain ⟨EA, Ec, rfl, _⟩ := own_form ha0
  have ha9 := hid ha0
  have hd9 := hid (own_below hd8.out hb0)
  have hs89 := hid hb0.size
  have hbX : Hid (Below W3.heap.size W3 w9) := hid (hbX.out.trans (hb0.mono hbX.out.size))
  clear hb0 ha0 x0 x1 x2 y0 y1 y2 hd8
  have hb9 := hid hbX.out
  have hall9 : Hid (∀ W, Below w9.heap.size w9 W → Below W3.heap.size W3 W) := hid (fun W hb => hb9.out.trans (hb.mono hb9.out.size))
  have hcell9 : Hid (∀ W, Below w9.heap.size w9 W → W.cell? ⟨w.heap.size, 0, none⟩ = some (.int .i64 p.args) ∧ W.cell? ⟨w.heap.size, 1, none⟩ = some (.slice A1 p.cs.length c1) ∧ W.cell? ⟨w.heap.size, 2, none⟩ = some (.slice A2 p.code.length c2) ∧ W.cell? ⟨b3, 0, none⟩ = some (.int .i64 p.args) ∧ W.cell? ⟨b3, 1, none⟩ = some (.slice B1 p.cs.length d1) ∧ W.cell? ⟨b3, 2, none⟩ = some (.slice B2 p.code.length d2)) := hid (fun W hb => hcell.out W (hall9.out W hb))
  clear hcell
  have hcell := hid hcell9.out
  have hdl := hid (show p.deps.length ≤ 1000000000 from by have := deps_le p; have := hlh.out; omega)
  have hsame : decide (p = p) = true := decide_eq_true rfl
  have hdd : decide (p.deps = p.deps) = true := decide_eq_true rfl
  have hbX := hid (Below.refl w9.heap.size w9)
  obtain ⟨x0, x1, x2, y0, y1, y2⟩ := hcell.out _ hbX.out
  go_upto_region 12 with (first
    | (go_at_call 9; refine (num_any _ _).mono ?_; rintro e wq ⟨rfl, hwq⟩; obtain rfl := hwq.symm; clear hwq)
    | (go_at_call 19; refine (rdepths_any p _ A1 A2 c1 c2 _ (hpp.out _ (hall9.out _ hbX.out))).mono ?_; rintro e wn ⟨v, rfl, hr0, hb0⟩; obtain ⟨RA, Rc, rfl, _⟩ := own_form hr0; have hr := hid (Rd.of_own' hr0); have hbX : Hid (Below w9.heap.size w9 wn) := hid (hbX.out.trans (hb0.mono hbX.out.size)); clear hb0 hr0; obtain ⟨x0, x1, x2, y0, y1, y2⟩ := hcell.out _ hbX.out)
    | (go_at_call 18; refine (ints_any _ _ p.deps p.deps _ _ _ _ _ ((Rd.of_own' hd9.out).below_all hbX.out) hr.out hdl.out).mono ?_; rintro e wn ⟨rfl, hb0⟩; have hbX : Hid (Below w9.heap.size w9 wn) := hid (hbX.out.trans (hb0.mono hbX.out.size)); clear hb0; obtain ⟨x0, x1, x2, y0, y1, y2⟩ := hcell.out _ hbX.out)
    | (go_at_call 20; refine (rsame_any p p _ _ B1 B2 A1 A2 d1 d2 c1 c2 _ (hq.out _ (hall9.out _ hbX.out)) (hpp.out _ (hall9.out _ hbX.out))).mono ?_; rintro e wn ⟨rfl, hb0⟩; have hbX : Hid (Below w9.heap.size w9 wn) := hid (hbX.out.trans (hb0.mono hbX.out.size)); clear hb0; obtain ⟨x0, x1, x2, y0, y1, y2⟩ := hcell.out _ hbX.out))
  have hB10 := hid (hB3.out.trans ((hall9.out _ hbX.out).mono hB3.out.size))
  have hd10 := own_below hd9.out hbX.out
  have ha10 := hid (own_below ha9.out hbX.out)
  have kb10 := hid (hbl.out.2.below_all (hall9.out _ hbX.out))
  have hgB : Hid (∀ g, (Value.slice DA p.deps.length Dc).ownBlock = some g → w.heap.size < g ∧ g < w8.heap.size) := hid (fun g hg => by
    have h1 := hgl.out g hg
    have h2 := hbl.out.1
    have h3 := hs8'.out
    omega)
  have hblk : Hid (∀ g, (Value.slice DA p.deps.length Dc).ownBlock = some g → ∃ cur, Blk wn g 3 cur ∧ p.deps.length ≤ cur.size) := hid (fun g hg => by
    rcases hd10.2 with ⟨h0, _⟩ | ⟨g', cap, cur, hv, _, hh, hc, _, hsz, _⟩
    · rw [h0] at hg; cases hg
    · rw [hv] at hg
      simp only [Value.ownBlock, Option.some.injEq] at hg
      subst hg
      exact ⟨cur, hh, by omega⟩)
  have hform : Hid (0 < p.deps.length → ∃ g, DA = some ⟨g, 0, none⟩) := hid (fun hn => by
    obtain ⟨g, cap, hv, _, _⟩ := hd10.form hn
    exact ⟨g, by injection hv⟩)
  clear hd10 x0 x1 x2 y0 y1 y2
  have hwn := hid hbX.out
  go_wp2_with fail
  go_loopw [14] (fun v wr => ∃ k : Nat, v = .int .i64 k ∧ k ≤ p.deps.length ∧ Upd (fun b => (Value.slice DA p.deps.length Dc).ownBlock = some b) wn wr ∧ (∀ g, (Value.slice DA p.deps.length Dc).ownBlock = some g → ∃ cur, Blk wr g 3 cur ∧ p.deps.length ≤ cur.size)) (fun v _ => p.deps.length - (intOf v).toNat)
  case atStart => exact ⟨0, rfl, Nat.zero_le _, Upd.refl _ _, hblk.out⟩
  case round =>
    obtain ⟨k, rfl, hk, hU0, hbk0⟩ := hrel
    have hU := hid hU0; have hbk := hid hbk0
    clear hU0 hbk0
    by_cases hlt : k < p.deps.length
    · have i1 : (k : Int) < (p.deps.length : Int) := by omega
      obtain ⟨g, hg⟩ := hform.out (by omega)
      obtain ⟨cur, hcb, hcs⟩ := hbk.out g (by rw [hg]; rfl)
      have hck : k < cur.size := by omega
      have c0 : wr.cell? ⟨g, k, none⟩ = some cur[k] := (hcb.cell k).trans (Array.getElem?_eq_getElem hck)
      have fz := fun q => hcb.frozen q
      have hlw := hcb.lt
      have hob : Hid ((Value.slice DA p.deps.length Dc).ownBlock = some g) := hid (by rw [hg]; rfl)
      have hU2 : Hid (Upd (fun b => (Value.slice DA p.deps.length Dc).ownBlock = some b) wn (wr.setCell ⟨g, k, none⟩ (.int .i64 99))) := hid (hU.out.setCell (p := ⟨g, k, none⟩) (fun _ => hob.out) _)
      have hb2 : Hid (∀ g', (Value.slice DA p.deps.length Dc).ownBlock = some g' → ∃ cur, Blk (wr.setCell ⟨g, k, none⟩ (.int .i64 99)) g' 3 cur ∧ p.deps.length ≤ cur.size) := hid (fun g' hg' => by
        have e : g' = g := by have := hob.out; rw [hg'] at this; injection this
        subst e
        exact ⟨_, hcb.set_ k _, by rw [Array.size_setIfInBounds]; exact hcs⟩)
      have hlh2 := hid hlt
      have hdb := hid (show k + 1 ≤ 2000 by have := deps_le p; have := hlh.out; omega)
      have hw := hid (show wrap64 ((k : Int) + 1) = ((k + 1 : Nat) : Int) by have := hdb.out; unfold wrap64; omega)
      generalize cur[k] = u at *
      have hgh := hid hg
      rw [hg]
      clear hcb hcs hck hlt hk hg hU hbk
      go_wp2_with fail
      go_roundw
      case rel => exact ⟨k + 1, by first | (rw [hw.out]; done) | (go_num), hlh2.out, by rw [← hgh.out]; exact hU2.out, by rw [← hgh.out]; exact hb2.out⟩
      case measure =>
        first | rw [hw.out] | skip
        have h2 := hlh2.out
        simp [intOf]; omega
    · have i1 : ¬ ((k : Int) < (p.deps.length : Int)) := by omega
      have hBr : Hid (Below w.heap.size w wr) := hid (hB10.out.trans (hU.out.below hB10.out.size fun b hb e => by have := hgB.out b e; omega))
      have kbr := hid (kb10.out.upd hU.out (fun e => by have := hgB.out _ e; omega))
      have har := hid (own_updB ha10.out hU.out fun b h1 _ e => by have := hgB.out b e; omega)
      have hcr : Hid (∀ W, Below wr.heap.size wr W → W.cell? ⟨w.heap.size, 0, none⟩ = some (.int .i64 p.args) ∧ W.cell? ⟨w.heap.size, 1, none⟩ = some (.slice A1 p.cs.length c1) ∧ W.cell? ⟨w.heap.size, 2, none⟩ = some (.slice A2 p.code.length c2)) := hid (fun W hb => by
        have h1 := kbr.out.below_all hb
        exact ⟨h1.cell 0, h1.cell 1, h1.cell 2⟩)
      clear hlt hk hU hbk hbX
      have hbX := hid (Below.refl wr.heap.size wr)
      obtain ⟨x0, x1, x2⟩ := hcr.out _ hbX.out
      go_wp2_with (first
        | (go_at_call 10; refine (live_any _).mono ?_; rintro e wz ⟨rfl, hb0⟩; have hbX : Hid (Below wr.heap.size wr wz) := hid (hbX.out.trans (hb0.mono hbX.out.size)); clear hb0)
        | (go_at_call 19; refine (rdepths_any p _ A1 A2 c1 c2 _ (hP.out _ (hBr.out.trans (hbX.out.mono hBr.out.size)))).mono ?_; rintro e wz ⟨v, rfl, hr0, hb0⟩; obtain ⟨RA, Rc, rfl, _⟩ := own_form hr0; have hr := hid (Rd.of_own' hr0); have hbX : Hid (Below wr.heap.size wr wz) := hid (hbX.out.trans (hb0.mono hbX.out.size)); clear hb0 hr0)
        | (go_at_call 18; refine (ints_any _ _ p.deps p.deps _ _ _ _ _ ((Rd.of_own' har.out).below_all hbX.out) hr.out hdl.out).mono ?_; rintro e wz ⟨rfl, hb0⟩; have hbX : Hid (Below wr.heap.size wr wz) := hid (hbX.out.trans (hb0.mono hbX.out.size)); clear hb0))
      go_ret
      exact ⟨rfl, hBr.out.trans (hbX.out.mono hBr.out.size)⟩

end Go.Proofs.Ytbakfkhmopebnaa

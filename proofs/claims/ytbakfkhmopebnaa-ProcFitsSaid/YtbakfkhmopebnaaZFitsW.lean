/- ProcFits: the walk. -/
import Derived.Test.YtbakfkhmopebnaaZOpen
namespace Go.Proofs.Ytbakfkhmopebnaa
open Go.RowKit
set_option linter.unusedVariables false
set_option linter.unusedSimpArgs false

set_option maxRecDepth 100000 in
set_option maxHeartbeats 4000000 in
theorem fits_walk (p : Pr) (A1 A2 : Option Addr) (c1 c2 : Nat) (w : World) (hp : PrArg w A1 A2 p) : Calls Try.prog 6 #[.agg #[.int .i64 p.args, .slice A1 p.cs.length c1, .slice A2 p.code.length c2]] w fun e w' => e = .returned (.bool true) ∧ Below w.heap.size w w' := by
  have hPw : Hid (∀ W, Below w.heap.size w W → p.code.length + p.cs.length ≤ 2000 → PrIn (fun b => b < w.heap.size) W A1 A2 p) := hid fun W hb hl => (hp.prIn hl).below hb
  have hlen := hid hp.n
  have hvr := hid hp.v
  clear hp
  obtain ⟨W0, hW0⟩ : ∃ W0, W0 = w.alloc (.cells #[.int .i64 p.args, .slice A1 p.cs.length c1, .slice A2 p.code.length c2] 29) := ⟨_, rfl⟩
  have hB0 : Hid (Below w.heap.size w W0) := hid (by subst hW0; exact (Below.refl _ _).alloc (Nat.le_refl _) _)
  have k0 : Hid (Blk W0 w.heap.size 29 #[.int .i64 p.args, .slice A1 p.cs.length c1, .slice A2 p.code.length c2]) := hid (by subst hW0; exact Blk.new w _ _)
  go_enter Try.func6, Try.ntmps6
  go_upto_region 1 with fail
  rw [← hW0]
  clear hW0
  have x0 : W0.cell? ⟨w.heap.size, 0, none⟩ = some (.int .i64 p.args) := k0.out.cell 0
  have x1 : W0.cell? ⟨w.heap.size, 1, none⟩ = some (.slice A1 p.cs.length c1) := k0.out.cell 1
  have x2 : W0.cell? ⟨w.heap.size, 2, none⟩ = some (.slice A2 p.code.length c2) := k0.out.cell 2
  have hlg := hid (long_any (fun _ => True) A1 A2 c1 c2 p.cs.length p.code.length p.args W0 hlen.out)
  go_wp2_with fail
  refine hlg.out.mono ?_
  rintro e w1 ⟨rfl, hb0⟩
  have hB1 := hid (hB0.out.trans (hb0.mono hB0.out.size))
  have k1 := hid (k0.out.below_all hb0)
  clear hb0 hlg x0 x1 x2 k0 hB0
  by_cases hlo : 2000 < p.code.length + p.cs.length
  · have t0 : decide ((2000 : Int) < ((p.code.length + p.cs.length : Nat) : Int)) = true := decide_eq_true (by omega)
    rw [t0]
    clear t0 hlo
    go_wp2_with fail
    refine (live_any w1).mono ?_
    rintro e w2 ⟨rfl, hb0⟩
    have hB2 := hid (hB1.out.trans (hb0.mono hB1.out.size))
    clear hb0
    go_wp2_with fail
    go_ret
    exact ⟨rfl, hB2.out⟩
  have t0 : decide ((2000 : Int) < ((p.code.length + p.cs.length : Nat) : Int)) = false := decide_eq_false (by omega)
  rw [t0]
  have hle : p.code.length + p.cs.length ≤ 2000 := by omega
  have hP := hid (fun W hb => hPw.out W hb hle)
  have hlh := hid hle
  clear t0 hlo hle hPw
  have x0 : w1.cell? ⟨w.heap.size, 0, none⟩ = some (.int .i64 p.args) := k1.out.cell 0
  have x1 : w1.cell? ⟨w.heap.size, 1, none⟩ = some (.slice A1 p.cs.length c1) := k1.out.cell 1
  have x2 : w1.cell? ⟨w.heap.size, 2, none⟩ = some (.slice A2 p.code.length c2) := k1.out.cell 2
  clear x0 x1 x2
  have hcell := hid (show ∀ W, Below w1.heap.size w1 W → W.cell? ⟨w.heap.size, 0, none⟩ = some (.int .i64 p.args) ∧ W.cell? ⟨w.heap.size, 1, none⟩ = some (.slice A1 p.cs.length c1) ∧ W.cell? ⟨w.heap.size, 2, none⟩ = some (.slice A2 p.code.length c2) from fun W hb => by
    have h1 := k1.out.below_all hb
    exact ⟨h1.cell 0, h1.cell 1, h1.cell 2⟩)
  have hPb : Hid (∀ W, Below w1.heap.size w1 W → PrIn (fun b => b < w.heap.size) W A1 A2 p) := hid fun W hb => hP.out W (hB1.out.trans (hb.mono hB1.out.size))
  clear k1
  have hbX := hid (Below.refl w1.heap.size w1)
  obtain ⟨x0, x1, x2⟩ := hcell.out _ hbX.out
  go_wp2_with fail
  refine (own_any p _ A1 A2 c1 c2 w1 (hPb.out _ hbX.out)).mono ?_
  rintro e w2 ⟨B1, B2, d1, d2, rfl, ho0, hb0⟩
  have hbX : Hid (Below w1.heap.size w1 w2) := hid (hbX.out.trans (hb0.mono hbX.out.size))
  have hpo := hid (show PrIn (fun b => w1.heap.size ≤ b) w2 B1 B2 p from ⟨Rd.of_own' ho0.1, Rd.of_own' ho0.2, (hPb.out _ hbX.out).t, (hPb.out _ hbX.out).l⟩)
  clear hb0 ho0 x0 x1 x2
  obtain ⟨x0, x1, x2⟩ := hcell.out _ hbX.out
  go_wp2_with fail
  refine (check_any p _ B1 B2 d1 d2 w2 hpo.out).mono ?_
  rintro e w3 ⟨rfl, hb0⟩
  have hbX : Hid (Below w1.heap.size w1 w3) := hid (hbX.out.trans (hb0.mono hbX.out.size))
  clear hb0 hpo x0 x1 x2
  obtain ⟨x0, x1, x2⟩ := hcell.out _ hbX.out
  go_wp2_with fail
  refine (own_any p _ A1 A2 c1 c2 w3 (hPb.out _ hbX.out)).mono ?_
  rintro e w4 ⟨B3, B4, d3, d4, rfl, ho0, hb0⟩
  have hbX : Hid (Below w1.heap.size w1 w4) := hid (hbX.out.trans (hb0.mono hbX.out.size))
  have hpo := hid (show PrIn (fun b => w3.heap.size ≤ b) w4 B3 B4 p from ⟨Rd.of_own' ho0.1, Rd.of_own' ho0.2, (hPb.out _ hbX.out).t, (hPb.out _ hbX.out).l⟩)
  clear hb0 ho0 x0 x1 x2
  obtain ⟨x0, x1, x2⟩ := hcell.out _ hbX.out
  go_wp2_with fail
  refine (depths_any p _ B3 B4 d3 d4 w4 hpo.out).mono ?_
  rintro e w5 ⟨v, rfl, hd0, hb0⟩
  obtain ⟨DA, Dc, rfl, _⟩ := own_form hd0
  have hbX : Hid (Below w1.heap.size w1 w5) := hid (hbX.out.trans (hb0.mono hbX.out.size))
  have hrd := hid ((Rd.of_own' hd0).all)
  clear hb0 hd0 hpo x0 x1 x2
  obtain ⟨x0, x1, x2⟩ := hcell.out _ hbX.out
  by_cases hck : p.check.1 = 0
  · have t1 : (p.check.1 != 0) = false := by simpa using hck
    obtain ⟨d, hfd, hfo, hde⟩ := deps_len hck
    obtain ⟨_, _, _, _, hc0, hc256, hins⟩ := form_ok hfo
    obtain ⟨hd00, hdr, hdx⟩ := find_ok hfd
    obtain ⟨N, hN⟩ : ∃ N, N = p.code.length := ⟨_, rfl⟩
    have hdn : p.deps.length = N := by rw [hde]; simp [hN]
    have hdg : ∀ j, j < N → (p.deps.map (Value.int .i64))[j]? = some (.int .i64 (d j)) := fun j hj => by
      rw [List.getElem?_map, hde, List.getElem?_map, List.getElem?_range (by omega)]; rfl
    have hN0 : 0 < N := by omega
    rw [hdn] at hrd
    rw [hdn]
    rw [← hN] at x2 hc256 hdx
    obtain ⟨g, o, hA, _, hgl, hcl⟩ := hrd.out.at_ hN0
    have hcw : Hid (∀ W, Below w5.heap.size w5 W → ∀ j, j < N → W.cell? ⟨g, o + j, none⟩ = some (.int .i64 (d j))) := hid (fun W hb j hj => (hb.cell (p := ⟨g, o + j, none⟩) hgl).trans (hcl j _ (hdg j hj)))
    have e0 : w5.cell? ⟨g, o, none⟩ = some (.int .i64 0) := by
      have := hcw.out _ (Below.refl _ _) 0 hN0
      rw [hd00] at this
      simpa using this
    subst hA
    have n0 : ((N : Int) == 0) = false := by simp; omega
    have n1 : ((N : Int) != (N : Int)) = false := by simp
    have n2 : (0 : Int) < (N : Int) := by omega
    have hNh := hid hN
    have hN256 := hid hc256
    have hinh := hid hins
    have hdxh := hid hdx
    have hdrh := hid hdr
    have hb5 := hid hbX.out
    have hcN : Hid (∀ W, Below w1.heap.size w1 W → W.cell? ⟨w.heap.size, 2, none⟩ = some (.slice A2 N c2)) := hid (fun W hb => by rw [hN]; exact (hcell.out W hb).2.2)
    have hPN : Hid (∀ W, Below w1.heap.size w1 W → Rd (fun b => b < w.heap.size) W 2 A2 p.code.length (icells p.code)) := hid (fun W hb => (hPb.out W hb).i)
    clear hck hfd hfo hde hc0 hc256 hins hd00 hdr hdx hN hdn hdg hN0 hrd hgl hcl hcell
    generalize p.check.1 = ck1 at *
    generalize p.check.2 = ck2 at *
    go_wp2_with (go_at_call 9; refine (num_any _ _).mono ?_; rintro e wq ⟨rfl, hwq⟩; obtain rfl := hwq.symm; clear hwq)
    clear t1 n0 n1 n2 e0 x0 x1 x2 hbX
    go_loopw [6] (fun v wr => ∃ k : Nat, v = .int .i64 k ∧ k ≤ N ∧ Below w5.heap.size w5 wr) (fun v _ => N - (intOf v).toNat)
    case atStart => exact ⟨0, rfl, Nat.zero_le _, Below.refl _ _⟩
    case round =>
      obtain ⟨k, rfl, hk, hBr0⟩ := hrel
      have hBr := hid hBr0
      clear hBr0
      by_cases hlt : k < N
      · have i1 : (k : Int) < (N : Int) := by omega
        have e1 := hcw.out _ hBr.out k hlt
        have hkn := hid hlt
        have hk256 := hid (show k + 1 ≤ 256 by have := hN256.out; omega)
        have hw := hid (wrap_succ (k := k) hk256.out)
        rcases hdxh.out k hlt with hm1 | ⟨hd0, hd1, hd2, hto0⟩
        · rw [hm1] at e1
          have hB2 := hid hBr.out
          clear hm1 hlt hk
          go_wp2_with fail
          go_roundw
          case rel => exact ⟨k + 1, by first | (rw [hw.out]; done) | (go_num), hkn.out, hB2.out⟩
          case measure =>
            first | rw [hw.out] | skip
            have h2 := hkn.out
            simp [intOf]; omega
        · have hlt2 : k < p.code.length := by have := hNh.out; omega
          have hgi : p.code.getD k is0 = p.code[k] := by rw [List.getD_eq_getElem?_getD, List.getElem?_eq_getElem hlt2]; rfl
          have hx := hid (hinh.out _ (List.getElem_mem hlt2))
          obtain ⟨bi, oi, hAi, hbi, a0, a1⟩ := (hPN.out _ (hb5.out.trans (hBr.out.mono hb5.out.size))).ins_at hlt2
          unfold onD at hd2 hto0
          rw [hgi] at hd1 hd2 hto0
          have hrt := takes_range p.code[k].op
          have hrl := lays_range p.code[k].op
          have hdk := hdrh.out k
          generalize p.code[k] = x at *
          have htk := hid (fun W => takes_any x.op W)
          generalize takes x.op = tk at *
          generalize lays x.op = ly at *
          obtain ⟨dk, hdke⟩ : ∃ dk, dk = d k := ⟨_, rfl⟩
          have hdkh := hid hdke
          rw [← hdke] at e1 hd0 hd1 hd2 hdk hto0
          obtain ⟨kv, hkve⟩ : ∃ kv, kv = dk - tk + ly := ⟨_, rfl⟩
          have hkv0 := hkve
          rw [← hkve] at hd2 hto0
          have f1 : IntKind.i64.wrap (dk - tk) = dk - tk := IntWalk.i64_in _ (by omega)
          have f2 : IntKind.i64.wrap (dk - tk + ly) = kv := by rw [hkve]; exact IntWalk.i64_in _ (by omega)
          have l1 : ¬ dk < 0 := by omega
          have l2 : ¬ dk < tk := by omega
          have l3 : ¬ 32 < kv := by omega
          have hto := hid hto0
          have hkv : Hid (kv = kv) := hid rfl
          have x2 := hcN.out _ (hb5.out.trans (hBr.out.mono hb5.out.size))
          clear hd0 hd1 hd2 hto0 hdk hrt hrl hkve hkv0 hdke hgi hlt2 hlt hk
          subst hAi
          go_upto_region 14 with fail
          have kx := hid (Blk.new wr 49 #[.int .i64 x.op, .int .i64 x.n])
          have hBw : Below wr.heap.size wr (wr.alloc (.cells #[.int .i64 x.op, .int .i64 x.n] 49)) := (Below.refl _ _).alloc (Nat.le_refl _) _
          have hB1' := hid (hBr.out.trans (hBw.mono hBr.out.size))
          have b0 : (wr.alloc (.cells #[.int .i64 x.op, .int .i64 x.n] 49)).cell? ⟨wr.heap.size, 0, none⟩ = some (.int .i64 x.op) := kx.out.cell 0
          generalize wr.alloc (.cells #[.int .i64 x.op, .int .i64 x.n] 49) = w1' at *
          clear hBw e1 x2 a0 a1
          go_wp2_with fail
          refine (htk.out w1').mono ?_
          rintro e w2 ⟨rfl, hb0⟩
          have hB2 := hid (hB1'.out.trans (hb0.mono hB1'.out.size))
          have b1 : w2.cell? ⟨wr.heap.size, 1, none⟩ = some (.int .i64 x.n) := (kx.out.below_all hb0).cell 1
          have b0' : w2.cell? ⟨wr.heap.size, 0, none⟩ = some (.int .i64 x.op) := (kx.out.below_all hb0).cell 0
          have hcd := hid (hcw.out _ hB2.out)
          have e1 : w2.cell? ⟨g, o + k, none⟩ = some (.int .i64 dk) := by rw [hdkh.out]; exact hcd.out k hkn.out
          by_cases h18 : x.op = 18
          · have hop := h18
            clear h18
            have o18 : (x.op == 18) = true := by simp [hop]
            have p18 : (x.op != 18) = false := by simp [hop]
            have hn2 := hto.out x.n.toNat (by unfold nexts; simp [hop])
            have j4 : 0 ≤ x.n := hx.out.2.1
            obtain ⟨m, hm⟩ : ∃ m : Nat, x.n = (m : Int) := ⟨x.n.toNat, by omega⟩
            have hn3 : m < N := by have := hn2.1; rw [hm] at this; simpa using this
            have c2' : w2.cell? ⟨g, o + m, none⟩ = some (.int .i64 kv) := by have := hcd.out _ hn2.1; rw [hn2.2, hm] at this; simpa using this
            have j5 : ((m : Nat) : Int) < (N : Int) := by omega
            have j6 : ¬ ((N : Int) ≤ (m : Int)) := by omega
            rw [hm] at b1
            clear hn2 hm hn3 j4
            clear hop
            go_wp2_with fail
            go_roundw
            case rel => exact ⟨k + 1, by first | (rw [hw.out]; done) | (go_num), hkn.out, hB2.out⟩
            case measure =>
              first | rw [hw.out] | skip
              have h2 := hkn.out
              simp [intOf]; omega
          by_cases h19 : x.op = 19
          · have hop := h19
            clear h18 h19
            have o18 : (x.op == 18) = false := by simp [hop]
            have p18 : (x.op != 18) = true := by simp [hop]
            have o19 : (x.op == 19) = true := by simp [hop]
            have p19 : (x.op != 19) = false := by simp [hop]
            have o30 : (x.op == 30) = false := by simp [hop]
            have p30 : (x.op != 30) = true := by simp [hop]
            have o31 : (x.op == 31) = false := by simp [hop]
            have p31 : (x.op != 31) = true := by simp [hop]
            have hn1 := hto.out (k + 1) (by unfold nexts; simp [hop])
            have c1' : w2.cell? ⟨g, o + (k + 1), none⟩ = some (.int .i64 kv) := by have := hcd.out _ hn1.1; rw [hn1.2] at this; exact this
            have j1 : ((k : Int) + 1) < (N : Int) := by have := hn1.1; omega
            have j2 : ¬ ((N : Int) ≤ (k : Int) + 1) := by omega
            have j3 : ((k : Int) + 1).toNat = k + 1 := by omega
            have j0 : (N : Int) ≤ 256 := by have := hN256.out; omega
            have hn2 := hto.out x.n.toNat (by unfold nexts; simp [hop])
            have j4 : 0 ≤ x.n := hx.out.2.1
            obtain ⟨m, hm⟩ : ∃ m : Nat, x.n = (m : Int) := ⟨x.n.toNat, by omega⟩
            have hn3 : m < N := by have := hn2.1; rw [hm] at this; simpa using this
            have c2' : w2.cell? ⟨g, o + m, none⟩ = some (.int .i64 kv) := by have := hcd.out _ hn2.1; rw [hn2.2, hm] at this; simpa using this
            have j5 : ((m : Nat) : Int) < (N : Int) := by omega
            have j6 : ¬ ((N : Int) ≤ (m : Int)) := by omega
            rw [hm] at b1
            clear hn1 hn2 hm hn3 j4
            clear hop
            go_wp2_with fail
            go_roundw
            case rel => exact ⟨k + 1, by first | (rw [hw.out]; done) | (go_num), hkn.out, hB2.out⟩
            case measure =>
              first | rw [hw.out] | skip
              have h2 := hkn.out
              simp [intOf]; omega
          by_cases h30 : x.op = 30
          · have hop := h30
            clear h18 h19 h30
            have o18 : (x.op == 18) = false := by simp [hop]
            have p18 : (x.op != 18) = true := by simp [hop]
            have o19 : (x.op == 19) = false := by simp [hop]
            have p19 : (x.op != 19) = true := by simp [hop]
            have o30 : (x.op == 30) = true := by simp [hop]
            have p30 : (x.op != 30) = false := by simp [hop]
            clear hop
            go_wp2_with fail
            go_roundw
            case rel => exact ⟨k + 1, by first | (rw [hw.out]; done) | (go_num), hkn.out, hB2.out⟩
            case measure =>
              first | rw [hw.out] | skip
              have h2 := hkn.out
              simp [intOf]; omega
          by_cases h31 : x.op = 31
          · have hop := h31
            clear h18 h19 h30 h31
            have o18 : (x.op == 18) = false := by simp [hop]
            have p18 : (x.op != 18) = true := by simp [hop]
            have o19 : (x.op == 19) = false := by simp [hop]
            have p19 : (x.op != 19) = true := by simp [hop]
            have o30 : (x.op == 30) = false := by simp [hop]
            have p30 : (x.op != 30) = true := by simp [hop]
            have o31 : (x.op == 31) = true := by simp [hop]
            have p31 : (x.op != 31) = false := by simp [hop]
            clear hop
            go_wp2_with fail
            go_roundw
            case rel => exact ⟨k + 1, by first | (rw [hw.out]; done) | (go_num), hkn.out, hB2.out⟩
            case measure =>
              first | rw [hw.out] | skip
              have h2 := hkn.out
              simp [intOf]; omega
          have o18 : (x.op == 18) = false := by simpa using h18
          have p18 : (x.op != 18) = true := by simpa using h18
          have o19 : (x.op == 19) = false := by simpa using h19
          have p19 : (x.op != 19) = true := by simpa using h19
          have o30 : (x.op == 30) = false := by simpa using h30
          have p30 : (x.op != 30) = true := by simpa using h30
          have o31 : (x.op == 31) = false := by simpa using h31
          have p31 : (x.op != 31) = true := by simpa using h31
          have hn1 := hto.out (k + 1) (by unfold nexts; simp [h18, h19, h30, h31])
          have c1' : w2.cell? ⟨g, o + (k + 1), none⟩ = some (.int .i64 kv) := by have := hcd.out _ hn1.1; rw [hn1.2] at this; exact this
          have j1 : ((k : Int) + 1) < (N : Int) := by have := hn1.1; omega
          have j2 : ¬ ((N : Int) ≤ (k : Int) + 1) := by omega
          have j3 : ((k : Int) + 1).toNat = k + 1 := by omega
          have j0 : (N : Int) ≤ 256 := by have := hN256.out; omega
          clear hn1 h18 h19 h30 h31
          go_wp2_with fail
          go_roundw
          case rel => exact ⟨k + 1, by first | (rw [hw.out]; done) | (go_num), hkn.out, hB2.out⟩
          case measure =>
            first | rw [hw.out] | skip
            have h2 := hkn.out
            simp [intOf]; omega
      · have i1 : ¬ ((k : Int) < (N : Int)) := by omega
        clear hlt hk
        go_wp2_with fail
        refine (live_any wr).mono ?_
        rintro e w9 ⟨rfl, hb0⟩
        have hB9 := hid ((hB1.out.trans (hb5.out.mono hB1.out.size)).trans ((hBr.out.trans (hb0.mono hBr.out.size)).mono (Nat.le_trans hB1.out.size hb5.out.size)))
        clear hb0
        go_wp2_with fail
        go_ret
        exact ⟨rfl, hB9.out⟩
  · have t1 : (p.check.1 != 0) = true := by simpa using hck
    have hdn : p.deps.length = 0 := by unfold Pr.deps; rw [if_pos hck]; rfl
    rw [hdn]
    have hb5 := hid hbX.out
    clear hck hdn hrd
    generalize p.check.1 = ck1 at *
    generalize p.check.2 = ck2 at *
    have hbX := hid (Below.refl w5.heap.size w5)
    go_wp2_with (first
      | (go_at_call 9; refine (num_any _ _).mono ?_; rintro e wq ⟨rfl, hwq⟩; obtain rfl := hwq.symm; clear hwq)
      | (go_at_call 10; refine (live_any _).mono ?_; rintro e wn ⟨rfl, hb0⟩; have hbX : Hid (Below w5.heap.size w5 wn) := hid (hbX.out.trans (hb0.mono hbX.out.size)); clear hb0))
    go_ret
    exact ⟨rfl, (hB1.out.trans (hb5.out.mono hB1.out.size)).trans (hbX.out.mono (Nat.le_trans hB1.out.size hb5.out.size))⟩

end Go.Proofs.Ytbakfkhmopebnaa

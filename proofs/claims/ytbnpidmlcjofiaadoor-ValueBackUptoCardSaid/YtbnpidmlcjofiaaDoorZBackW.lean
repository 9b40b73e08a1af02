/- value: ValueBack: the walk. -/
import Derived.Test.YtbnpidmlcjofiaaDoorZBytesW
import Derived.Test.YtbnpidmlcjofiaaDoorZBackP
import Derived.Test.YtbnpidmlcjofiaaDoorZNilTake
import Derived.Test.YtbnpidmlcjofiaaDoorZFormsW
import Derived.BigRegion
import Derived.Deep.DeepCutAuto
namespace Go.Proofs.YtbnpidmlcjofiaaDoor
open Go.RowKit
set_option linter.unusedVariables false
set_option linter.unusedSimpArgs false

theorem dec_short : ∀ (n u : Nat), u < 10 ^ n → 0 < n → (Lib.decDigits u).length ≤ n
  | 0, u, h, h0 => by omega
  | n + 1, u, h, _ => by
    rw [Lib.decDigits]
    split
    · simp
    · rename_i h1
      cases n with
      | zero => simp at h; omega
      | succ n =>
        have := dec_short (n + 1) (u / 10) (by rw [Nat.div_lt_iff_lt_mul (by decide)]; rw [Nat.pow_succ] at h; exact h) (by omega)
        simp; omega
theorem esc_short (l : List UInt8) : (escL l).length ≤ 2 * l.length := by
  induction l with
  | nil => simp [escL]
  | cons c t ih => rw [escL_cons, List.length_append, List.length_cons]; split <;> simp <;> omega
theorem lit_short {v : Vl} (h : v.ok = true) (hr : v.rng) : (⟨(printL v).toArray⟩ : ByteArray).size ≤ 1000 := by
  have e : (⟨(printL v).toArray⟩ : ByteArray).size = (printL v).length := by simp [ByteArray.size]
  rw [e]
  unfold printL
  rw [if_pos h]
  unfold litL
  split
  · unfold Lib.itoa
    have hn := hr
    unfold Vl.rng at hn
    split
    · have := dec_short 20 (v.n.natAbs) (by omega) (by decide)
      simp at *; omega
    · have := dec_short 20 (v.n.toNat) (by omega) (by decide)
      simp at *; omega
  · split
    · simp [noneT]
    · have h3 := ok_small h
      have h4 := esc_short v.s.data.toList
      have h5 : v.s.data.toList.length = v.s.size := by rw [Array.length_toList]; rfl
      simp at *; omega
theorem vput_short {v : Vl} (h : v.ok = true) : (vput v).length ≤ 1000 := by
  unfold vput
  rw [if_pos h]
  have := (putF_len 9 (zig v.n)).2
  have h2 := (putF_len 9 v.s.size).2
  split
  · simp [putU]; omega
  · rename_i h1
    split
    · rename_i h3
      rcases ok_forms h with rfl | ⟨h4, _⟩ | ⟨_, _, h4, _⟩
      · simp [vl0] at h3
      · exact absurd h4 h1
      · simp [putU, tb_len]; omega
    · simp
set_option maxRecDepth 100000 in
set_option maxHeartbeats 8000000 in
theorem back_walk (a b : Vl) (A1 A2 : Option Addr) (c1 c2 : Nat) (p1 p2 : List Nat) (w : World) (ha1 : Rd (fun b => b < w.heap.size) w 1 A1 p1.length (bcells p1)) (ha2 : Rd (fun b => b < w.heap.size) w 1 A2 p2.length (bcells p2)) (hx1 : ∀ x ∈ p1, x < 256) (hx2 : ∀ x ∈ p2, x < 256) (hnn : p1.length + p2.length ≤ 10000000) (hsa : a.s.size ≤ 140737488351232) (hra : a.rng) (hsb : b.s.size ≤ 140737488351232) (hrb : b.rng) (he : Env w) : Calls Tryd.prog 6 #[.agg #[.int .i64 a.k, .int .i64 a.n, .string a.s, .int .i64 b.k, .int .i64 b.n, .string b.s, .slice A1 p1.length c1, .slice A2 p2.length c2]] w fun e w' => e = .returned (.bool true) ∧ Below w.heap.size w w' := by
  obtain ⟨ib, hu0, hu1, hu2, hu3⟩ := info_parts info_u8
  obtain ⟨W, hW⟩ : ∃ W, W = w.alloc (.cells #[.int .i64 a.k, .int .i64 a.n, .string a.s, .int .i64 b.k, .int .i64 b.n, .string b.s, .slice A1 p1.length c1, .slice A2 p2.length c2] 49) := ⟨_, rfl⟩
  have hB0 : Hid (Below w.heap.size w W) := hid (by subst hW; exact (Below.refl _ _).alloc (Nat.le_refl _) _)
  have k0 : Hid (Blk W w.heap.size 49 #[.int .i64 a.k, .int .i64 a.n, .string a.s, .int .i64 b.k, .int .i64 b.n, .string b.s, .slice A1 p1.length c1, .slice A2 p2.length c2]) := hid (by subst hW; exact Blk.new w _ _)
  have x0 : W.cell? ⟨w.heap.size, 0, none⟩ = some (.int .i64 a.k) := k0.out.cell 0
  have x1 : W.cell? ⟨w.heap.size, 1, none⟩ = some (.int .i64 a.n) := k0.out.cell 1
  have x2 : W.cell? ⟨w.heap.size, 2, none⟩ = some (.string a.s) := k0.out.cell 2
  have x3 : W.cell? ⟨w.heap.size, 3, none⟩ = some (.int .i64 b.k) := k0.out.cell 3
  have x4 : W.cell? ⟨w.heap.size, 4, none⟩ = some (.int .i64 b.n) := k0.out.cell 4
  have x5 : W.cell? ⟨w.heap.size, 5, none⟩ = some (.string b.s) := k0.out.cell 5
  have x6 : W.cell? ⟨w.heap.size, 6, none⟩ = some (.slice A1 p1.length c1) := k0.out.cell 6
  have x7 : W.cell? ⟨w.heap.size, 7, none⟩ = some (.slice A2 p2.length c2) := k0.out.cell 7

  have hlt := k0.out.lt
  have he00 := hid he
  have has := hid hsa; have har := hid hra; have hbs := hid hsb; have hbr := hid hrb; have hn := hid hnn
  have hy1 := hid hx1; have hy2 := hid hx2
  have ha1 := hid ha1; have ha2 := hid ha2
  clear hsa hra hsb hrb hnn hx1 hx2 he
  go_enter Tryd.func6, Tryd.ntmps6
  go_upto_region 1 with fail
  rw [← hW]
  clear hW
  go_cut [3, 4, 5, 6] (fun v3 v4 v5 v6 wx => ∃ ga gb, v3 = .pointer (some ⟨ga, 0, none⟩) ∧ v4 = .pointer (some ⟨gb, 0, none⟩) ∧ v5 = .slice A1 p1.length c1 ∧ v6 = .slice A2 p2.length c2 ∧ Below w.heap.size w wx ∧ Blk wx ga 24 #[.int .i64 a.k, .int .i64 a.n, .string a.s] ∧ Blk wx gb 24 #[.int .i64 b.k, .int .i64 b.n, .string b.s])
  case first =>
    go_region
    · go_wp2_with fail
      go_meet
      exact ⟨W.heap.size, W.heap.size + 1, rfl, rfl, rfl, rfl, hB0.out.trans (((((Below.refl _ W).alloc (Nat.le_refl _) _).alloc (by simp) _).drew).mono hB0.out.size), ((Blk.new W _ _).alloc _).below_all (Below.refl _ _).drew, (Blk.new' (W.alloc (.cells #[.int .i64 a.k, .int .i64 a.n, .string a.s] 24)) _ _ (by simp)).below_all (Below.refl _ _).drew⟩
    · go_wp2_with fail
      go_meet
      exact ⟨W.heap.size + 1, W.heap.size, rfl, rfl, rfl, rfl, hB0.out.trans (((((Below.refl _ W).alloc (Nat.le_refl _) _).alloc (by simp) _).drew).mono hB0.out.size), (Blk.new' (W.alloc (.cells #[.int .i64 b.k, .int .i64 b.n, .string b.s] 24)) _ _ (by simp)).below_all (Below.refl _ _).drew, ((Blk.new W _ _).alloc _).below_all (Below.refl _ _).drew⟩
  case rest =>
    obtain ⟨ga, gb, rfl, rfl, rfl, rfl, hB, kA, kB⟩ := hcut
    have hB := hid hB; have kA := hid kA; have kB := hid kB
    have hev := hid (he00.out.below hB.out)
    have hA1 := hid (ha1.out.below hB.out fun b h => h)
    have hA2 := hid (ha2.out.below hB.out fun b h => h)
    have hva := hid (fun W => rvalid_any a W (by have := has.out; omega))
    have hvb := hid (fun W => rvalid_any b W (by have := hbs.out; omega))
    clear x0 x1 x2 x3 x4 x5 x6 x7 hlt k0 hB0

    have x0 : wc.cell? ⟨ga, 0, none⟩ = some (.int .i64 a.k) := kA.out.cell 0
    have x1 : wc.cell? ⟨ga, 1, none⟩ = some (.int .i64 a.n) := kA.out.cell 1
    have x2 : wc.cell? ⟨ga, 2, none⟩ = some (.string a.s) := kA.out.cell 2
    have y0 : wc.cell? ⟨gb, 0, none⟩ = some (.int .i64 b.k) := kB.out.cell 0
    have y1 : wc.cell? ⟨gb, 1, none⟩ = some (.int .i64 b.n) := kB.out.cell 1
    have y2 : wc.cell? ⟨gb, 2, none⟩ = some (.string b.s) := kB.out.cell 2
    cases hoka : a.ok with
    | false =>
      rw [hoka] at hva
      go_wp2_with fail
      refine (hva.out _).mono ?_
      rintro e w5 ⟨rfl, hb1⟩
      have hB := hid (hB.out.trans (hb1.mono hB.out.size))
      have hA1 := hid (hA1.out.below_all hb1)
      have hA2 := hid (hA2.out.below_all hb1)
      have hev := hid (hev.out.below hb1)
      have kA := hid (kA.out.below_all hb1)
      have kB := hid (kB.out.below_all hb1)
      clear hb1
      clear x0 x1 x2 y0 y1 y2
      go_wp2_with fail
      refine (live_any _ hev.out).mono ?_
      rintro e wl ⟨rfl, hb1⟩
      have hB := hid (hB.out.trans (hb1.mono hB.out.size))
      clear hb1
      go_wp2_with fail
      go_ret
      exact ⟨rfl, hB.out⟩

    | true =>
      rw [hoka] at hva
      go_wp2_with fail
      refine (hva.out _).mono ?_
      rintro e w5 ⟨rfl, hb1⟩
      have hB := hid (hB.out.trans (hb1.mono hB.out.size))
      have hA1 := hid (hA1.out.below_all hb1)
      have hA2 := hid (hA2.out.below_all hb1)
      have hev := hid (hev.out.below hb1)
      have kA := hid (kA.out.below_all hb1)
      have kB := hid (kB.out.below_all hb1)
      clear hb1
      clear x0 x1 x2 y0 y1 y2
      have x0 : w5.cell? ⟨ga, 0, none⟩ = some (.int .i64 a.k) := kA.out.cell 0
      have x1 : w5.cell? ⟨ga, 1, none⟩ = some (.int .i64 a.n) := kA.out.cell 1
      have x2 : w5.cell? ⟨ga, 2, none⟩ = some (.string a.s) := kA.out.cell 2
      have y0 : w5.cell? ⟨gb, 0, none⟩ = some (.int .i64 b.k) := kB.out.cell 0
      have y1 : w5.cell? ⟨gb, 1, none⟩ = some (.int .i64 b.n) := kB.out.cell 1
      have y2 : w5.cell? ⟨gb, 2, none⟩ = some (.string b.s) := kB.out.cell 2
      cases hokb : b.ok with
      | false =>
        rw [hokb] at hvb
        go_wp2_with fail
        refine (hvb.out _).mono ?_
        rintro e w6 ⟨rfl, hb1⟩
        have hB := hid (hB.out.trans (hb1.mono hB.out.size))
        have hA1 := hid (hA1.out.below_all hb1)
        have hA2 := hid (hA2.out.below_all hb1)
        have hev := hid (hev.out.below hb1)
        have kA := hid (kA.out.below_all hb1)
        have kB := hid (kB.out.below_all hb1)
        clear hb1
        clear x0 x1 x2 y0 y1 y2
        go_wp2_with fail
        refine (live_any _ hev.out).mono ?_
        rintro e wl ⟨rfl, hb1⟩
        have hB := hid (hB.out.trans (hb1.mono hB.out.size))
        clear hb1
        go_wp2_with fail
        go_ret
        exact ⟨rfl, hB.out⟩

      | true =>
        rw [hokb] at hvb
        go_wp2_with fail
        refine (hvb.out _).mono ?_
        rintro e w6 ⟨rfl, hb1⟩
        have hB := hid (hB.out.trans (hb1.mono hB.out.size))
        have hA1 := hid (hA1.out.below_all hb1)
        have hA2 := hid (hA2.out.below_all hb1)
        have hev := hid (hev.out.below hb1)
        have kA := hid (kA.out.below_all hb1)
        have kB := hid (kB.out.below_all hb1)
        clear hb1
        clear x0 x1 x2 y0 y1 y2
        have x0 : w6.cell? ⟨ga, 0, none⟩ = some (.int .i64 a.k) := kA.out.cell 0
        have x1 : w6.cell? ⟨ga, 1, none⟩ = some (.int .i64 a.n) := kA.out.cell 1
        have x2 : w6.cell? ⟨ga, 2, none⟩ = some (.string a.s) := kA.out.cell 2
        have y0 : w6.cell? ⟨gb, 0, none⟩ = some (.int .i64 b.k) := kB.out.cell 0
        have y1 : w6.cell? ⟨gb, 1, none⟩ = some (.int .i64 b.n) := kB.out.cell 1
        have y2 : w6.cell? ⟨gb, 2, none⟩ = some (.string b.s) := kB.out.cell 2
        obtain ⟨qr, htk, hwy, hrs⟩ := take_back hoka har.out p2
        have hpra := hid (print_back hoka har.out)
        have hpe1 : printE a = 0 := by unfold printE; rw [hoka]; rfl
        have hpe2 : printE b = 0 := by unfold printE; rw [hokb]; rfl
        have hlit := hid (lit_dec hoka har.out hokb hbr.out)
        have hpre := hid (fun h => vput_pre (a := a) (b := b) hoka har.out hokb hbr.out h)
        have hinj := hid (fun h => vput_inj (a := a) (b := b) hoka har.out hokb hbr.out h)
        have hval := hid (vput_lt har.out)
        have hvbl := hid (vput_lt hbr.out)
        have hva0 := hid (vput_ne hoka)
        have hp9 := hid (show (vput a).length ≤ 1000 from vput_short hoka)
        have hq9 := hid (show (vput b).length ≤ 1000 from vput_short hokb)
        have hsm := hid (show (⟨(printL a).toArray⟩ : ByteArray).size ≤ 1000 from lit_short hoka har.out)
        have hprs := fun W he => parse_any (⟨(printL a).toArray⟩ : ByteArray) W (by have := hsm.out; omega) he
        unfold PzOut at hprs
        rw [hpra.out] at hprs
        dsimp only [Pz.good] at hprs
        have hprs := hid hprs
        have hfit := fun W he => print_any a W (by have := has.out; omega) har.out he
        have hfib := fun W he => print_any b W (by have := hbs.out; omega) hbr.out he
        unfold PrOut at hfit hfib
        rw [hpe1] at hfit
        rw [hpe2] at hfib
        have hfit := hid hfit
        have hfib := hid hfib
        have hput0 := fun S A c p W h1 h2 => vput_any S A c p a W h1 (by have := has.out; omega) har.out.1 har.out.2 h2
        have hputg : ∀ (v : Vl), (v = a ∨ v = b) → ∀ W, Calls Tryd.prog 11 #[.slice none 0 0, .agg #[.int .i64 v.k, .int .i64 v.n, .string v.s]] W fun e w' => ∃ x, e = .returned x ∧ Cloned 5 1 (bcells (vput v)) (vput v).length W x w' := fun v hv W => by
          have hh : v.s.size ≤ 9223372036854775806 ∧ v.rng := by
            rcases hv with rfl | rfl
            · exact ⟨by have := has.out; omega, har.out⟩
            · exact ⟨by have := hbs.out; omega, hbr.out⟩
          have := vput_any (fun _ => True) none 0 [] v W Rd.nil_ hh.1 hh.2.1 hh.2.2 (by simp)
          simpa only [List.nil_append, List.length_nil] using this
        generalize vput = Q at *
        generalize hLA : (⟨(printL a).toArray⟩ : ByteArray) = LA at *
        generalize hLB : (⟨(printL b).toArray⟩ : ByteArray) = LB at *
        have hput0 := hid hput0
        have hputg := hid hputg
        have htk := hid htk; have hwy := hid hwy; have hrs := hid hrs
        have har := hid (show True from trivial)
        clear hva hvb hpe1 hpe2 hLA hLB hoka hokb har has hbs hbr hpra
        go_wp2_with fail
        refine (hput0.out _ A1 c1 p1 w6 hA1.out (by have := hn.out; omega)).mono ?_
        rintro e w7 ⟨x, rfl, hx0, hb1⟩
        have hb67 := hid hb1
        have hBb := hB; have hA1b := hA1; have hA2b := hA2; have hevb := hev; have kAb := kA; have kBb := kB
        have hB := hid (hB.out.trans (hb1.mono hB.out.size))
        have hA1 := hid (hA1.out.below_all hb1)
        have hA2 := hid (hA2.out.below_all hb1)
        have hev := hid (hev.out.below hb1)
        have kA := hid (kA.out.below_all hb1)
        have kB := hid (kB.out.below_all hb1)
        obtain ⟨XA, Xc, rfl, _⟩ := own_form hx0
        have hX0 := hid hx0
        clear hb1 hx0
        clear x0 x1 x2 y0 y1 y2
        go_upto_region 5 with (
          at_builtin
          refine wpList_append_rd _ rfl (.tmp 40) (.tmp 41) 22 rfl w6.heap.size 5 ib _ 1 1 Tryd.underlying22 hu0 hu1 hu2 hu3 rfl (by omega) (.slice XA (p1 ++ Q a).length Xc) (p1 ++ Q a).length (bcells (p1 ++ Q a)) (by simp [Act.eval]) hX0.out _ A2 p2.length c2 (bcells p2) (by simp [Act.eval]) hA2.out (bcells_one p2) (by simp only [maxLen]; have := hn.out; have := hp9.out; simp; omega) (by have := hn.out; have := hp9.out; simp; omega) (by have := hb67.out.size; omega) ?_
          intro v8 w8 hown8 hg8 hat8
          have hb8 : Hid (Below w6.heap.size w6 w8) := hid (hb67.out.grown hg8 hb67.out.size fun k hk => (hX0.out.lt k hk).1)
          obtain ⟨XB, Xd, rfl, hxd, _⟩ := own_form hown8
          generalize hN : (p1 ++ Q a).length + p2.length = N at *
          have hX : Hid (Rd (fun k => w6.heap.size ≤ k) w8 1 XB (p1 ++ (Q a ++ p2)).length (bcells (p1 ++ (Q a ++ p2)))) := hid (by
            have e1 : (p1 ++ (Q a ++ p2)).length = N := by rw [← hN]; simp; omega
            have e2 : bcells (p1 ++ (Q a ++ p2)) = bcells (p1 ++ Q a) ++ bcells p2 := by rw [← List.append_assoc, bcells_append]
            rw [e1, e2]; exact Rd.of_own' hown8)
          have hN := hid hN
          have hxd := hid hxd
          clear hown8 hg8 hat8 hX0)
        have hN2 : N = p1.length + ((Q a).length + p2.length) := by have := hN.out; simp at this; omega
        have hB := hid ((hBb.out).trans (hb8.out.mono hBb.out.size))
        have hA1 := hid (hA1b.out.below_all hb8.out)
        have hA2 := hid (hA2b.out.below_all hb8.out)
        have hev := hid (hevb.out.below hb8.out)
        have kA := hid (kAb.out.below_all hb8.out)
        have kB := hid (kBb.out.below_all hb8.out)
        clear hBb hA1b hA2b hevb kAb kBb hb8 hb67 hput0
        have hMe : (Q a ++ p2).length = (Q a).length + p2.length := List.length_append
        obtain ⟨M, hM⟩ : ∃ M, M = (Q a ++ p2).length := ⟨_, rfl⟩
        have hNM : N - p1.length = M := by omega
        have d0 : decide ((N : Int) < (p1.length : Int)) = false := decide_eq_false (by omega)
        have d1 : decide (N < p1.length) = false := decide_eq_false (by omega)
        have d2 : (p1.length : Int) ≤ (N : Int) := by omega
        have d3 : (p1.length : Int) ≤ (Xd : Int) := by have := hxd.out; omega
        have d4 : (N : Int) ≤ (Xd : Int) := by have := hxd.out; omega
        have hLe : (p1 ++ (Q a ++ p2)).length = N := by simp; omega
        have hne : ¬ (Xd = p1.length) := by have := hxd.out; have := hva0.out; omega
        have hs1 := hid (same_true (c := Xd) (d := c1) (Rd.front hX.out) hA1.out)
        have hXr := hid (show Rd (fun k => w6.heap.size ≤ k) w8 1 (Option.map (fun x => x.add p1.length) XB) M (bcells (Q a ++ p2)) from by
          have h := Rd.part (c := Xd) (k := p1.length) (n := M) hX.out (by rw [List.length_append]; omega) (by rw [hLe]; have := hxd.out; omega)
          rw [List.drop_left, hM, List.take_length, if_neg hne] at h
          rw [hM]; exact h)
        have hlt9 := hid (show ∀ x ∈ Q a ++ p2, x < 256 from fun x hx => by
          rcases List.mem_append.1 hx with h | h
          · exact hval.out x h
          · exact hy2.out x h)
        have hnw := hid (cNew_any _ (Option.map (fun x => x.add p1.length) XB) (Xd - p1.length) (Q a ++ p2) w8 (by rw [← hM]; exact hXr.out) (by have := hn.out; have := hp9.out; omega) hlt9.out)
        rw [← hM] at hnw
        clear hM hMe hN2 hLe hXr hlt9 hX hN hxd
        go_wp2_with fail
        refine hs1.out.mono ?_
        rintro e wq ⟨rfl, hwq⟩
        obtain rfl := hwq.symm
        clear hs1
        go_wp2_with fail
        refine hnw.out.mono ?_
        rintro e w9 ⟨g, A, c, S0, rfl, hb1, hg0, hS0, hr0⟩
        have hr := hid hr0.bound
        have hgb := hid hr0.blk.lt
        have hgg : Hid (w8.heap.size ≤ g) := hid hg0
        have h08 := hid hB.out.size
        have hab := hid (And.intro kA.out.lt kB.out.lt)
        have hB := hid (hB.out.trans (hb1.mono hB.out.size))
        have kA := hid (kA.out.below_all hb1)
        have kB := hid (kB.out.below_all hb1)
        clear hb1 hr0 hg0 hS0 hnw hne d0 d1 d2 d3 d4 hNM
        have hct := hid (cTake_any hr.out)
        rw [htk.out] at hct
        go_wp2_with fail
        refine hct.out.mono ?_
        rintro e wa ⟨rfl, hU, hr2⟩
        have hr := hid hr2
        have hB := hid (hB.out.trans (hU.below (B := w.heap.size) hB.out.size fun k hk e => by have e : k = g := e; have := hgg.out; have := h08.out; omega))
        have kA := hid (kA.out.upd hU fun e => by have e : ga = g := e; have := hgg.out; have := hab.out; omega)
        have kB := hid (kB.out.upd hU fun e => by have e : gb = g := e; have := hgg.out; have := hab.out; omega)
        have hgb := hid (show g < wa.heap.size by have h1 := hgb.out; have h2 := hU.size; omega)
        clear hU hr2 hct
        go_upto_region 9 with fail
        have hb0 : Below wa.heap.size wa (wa.alloc (.cells #[.int .i64 a.k, .int .i64 a.n, .string a.s] 24)) := (Below.refl _ _).alloc (Nat.le_refl _) _
        have kV : Hid (Blk (wa.alloc (.cells #[.int .i64 a.k, .int .i64 a.n, .string a.s] 24)) wa.heap.size 24 #[.int .i64 a.k, .int .i64 a.n, .string a.s]) := hid (Blk.new wa _ _)
        have hr := hid (hr.out.below_all hb0)
        have hB := hid (hB.out.trans (hb0.mono hB.out.size))
        have kA := hid (kA.out.below_all hb0)
        have kB := hid (kB.out.below_all hb0)
        clear hb0
        obtain ⟨gv, hp⟩ : ∃ gv, gv = wa.heap.size := ⟨_, rfl⟩
        rw [← hp] at kV
        simp only [← hp]
        generalize wa.alloc (.cells #[.int .i64 a.k, .int .i64 a.n, .string a.s] 24) = wb at *
        have hvg : Hid (gv ≠ g) := hid (by have := hgb.out; omega)
        clear hp
        have hwc := hid (cWhy_any hr.out)
        rw [hwy.out] at hwc
        go_wp2_with fail
        refine hwc.out.mono ?_
        rintro e w10 ⟨rfl, hU, hr2⟩
        have hr := hid hr2
        have kV := hid (kV.out.upd hU hvg.out)
        have hB := hid (hB.out.trans (hU.below (B := w.heap.size) hB.out.size fun k hk e => by have e : k = g := e; have := hgg.out; have := h08.out; omega))
        have kA := hid (kA.out.upd hU fun e => by have e : ga = g := e; have := hgg.out; have := hab.out; omega)
        have kB := hid (kB.out.upd hU fun e => by have e : gb = g := e; have := hgg.out; have := hab.out; omega)
        clear hU hr2 hwc
        have x0 : w10.cell? ⟨ga, 0, none⟩ = some (.int .i64 a.k) := kA.out.cell 0
        have x1 : w10.cell? ⟨ga, 1, none⟩ = some (.int .i64 a.n) := kA.out.cell 1
        have x2 : w10.cell? ⟨ga, 2, none⟩ = some (.string a.s) := kA.out.cell 2
        have y0 : w10.cell? ⟨gb, 0, none⟩ = some (.int .i64 b.k) := kB.out.cell 0
        have y1 : w10.cell? ⟨gb, 1, none⟩ = some (.int .i64 b.n) := kB.out.cell 1
        have y2 : w10.cell? ⟨gb, 2, none⟩ = some (.string b.s) := kB.out.cell 2
        have v0 : w10.cell? ⟨gv, 0, none⟩ = some (.int .i64 a.k) := kV.out.cell 0
        have v1 : w10.cell? ⟨gv, 1, none⟩ = some (.int .i64 a.n) := kV.out.cell 1
        have v2 : w10.cell? ⟨gv, 2, none⟩ = some (.string a.s) := kV.out.cell 2
        have hna := fun w => neq_vals a a w
        simp only [decide_true, Bool.not_true] at hna
        have hna9 := hid hna
        go_wp2_with fail
        refine (num_any _ w10).mono ?_
        rintro e wq ⟨rfl, hwq⟩
        obtain rfl := hwq.symm
        have hrt := hid (cRest_any hr.out)
        rw [hrs.out] at hrt
        clear hna
        go_wp2_with fail
        refine hrt.out.mono ?_
        rintro e w11 ⟨rfl, hU, hr2⟩
        clear x0 x1 x2 y0 y1 y2
        clear v0 v1 v2
        have hB := hid (hB.out.trans (hU.below (B := w.heap.size) hB.out.size fun k hk e => by have e : k = g := e; have := hgg.out; have := h08.out; omega))
        have kA := hid (kA.out.upd hU fun e => by have e : ga = g := e; have := hgg.out; have := hab.out; omega)
        have kB := hid (kB.out.upd hU fun e => by have e : gb = g := e; have := hgg.out; have := hab.out; omega)
        clear hU hr2 hrt hr kV hvg
        have x0 : w11.cell? ⟨ga, 0, none⟩ = some (.int .i64 a.k) := kA.out.cell 0
        have x1 : w11.cell? ⟨ga, 1, none⟩ = some (.int .i64 a.n) := kA.out.cell 1
        have x2 : w11.cell? ⟨ga, 2, none⟩ = some (.string a.s) := kA.out.cell 2
        have y0 : w11.cell? ⟨gb, 0, none⟩ = some (.int .i64 b.k) := kB.out.cell 0
        have y1 : w11.cell? ⟨gb, 1, none⟩ = some (.int .i64 b.n) := kB.out.cell 1
        have y2 : w11.cell? ⟨gb, 2, none⟩ = some (.string b.s) := kB.out.cell 2
        go_wp2_with fail
        refine (hfit.out _ (he00.out.below hB.out)).mono ?_
        rintro e w12 ⟨rfl, hb1⟩
        have hB := hid (hB.out.trans (hb1.mono hB.out.size))
        have kA := hid (kA.out.below_all hb1)
        have kB := hid (kB.out.below_all hb1)
        clear hb1
        clear x0 x1 x2 y0 y1 y2
        have x0 : w12.cell? ⟨ga, 0, none⟩ = some (.int .i64 a.k) := kA.out.cell 0
        have x1 : w12.cell? ⟨ga, 1, none⟩ = some (.int .i64 a.n) := kA.out.cell 1
        have x2 : w12.cell? ⟨ga, 2, none⟩ = some (.string a.s) := kA.out.cell 2
        have y0 : w12.cell? ⟨gb, 0, none⟩ = some (.int .i64 b.k) := kB.out.cell 0
        have y1 : w12.cell? ⟨gb, 1, none⟩ = some (.int .i64 b.n) := kB.out.cell 1
        have y2 : w12.cell? ⟨gb, 2, none⟩ = some (.string b.s) := kB.out.cell 2
        go_wp2_with fail
        refine (hfib.out _ (he00.out.below hB.out)).mono ?_
        rintro e w13 ⟨rfl, hb1⟩
        have hB := hid (hB.out.trans (hb1.mono hB.out.size))
        have kA := hid (kA.out.below_all hb1)
        have kB := hid (kB.out.below_all hb1)
        clear hb1
        clear x0 x1 x2 y0 y1 y2
        go_wp2_with fail
        refine (hprs.out _ (he00.out.below hB.out)).mono ?_
        rintro e w14 ⟨rfl, hb1⟩
        have hB := hid (hB.out.trans (hb1.mono hB.out.size))
        have kA := hid (kA.out.below_all hb1)
        have kB := hid (kB.out.below_all hb1)
        clear hb1
        dsimp only [Pz.good]
        go_upto_region 15 with fail
        have hb0 : Below w14.heap.size w14 (w14.alloc (.cells #[.int .i64 a.k, .int .i64 a.n, .string a.s] 24)) := (Below.refl _ _).alloc (Nat.le_refl _) _
        have kV : Hid (Blk (w14.alloc (.cells #[.int .i64 a.k, .int .i64 a.n, .string a.s] 24)) w14.heap.size 24 #[.int .i64 a.k, .int .i64 a.n, .string a.s]) := hid (Blk.new w14 _ _)
        have hB := hid (hB.out.trans (hb0.mono hB.out.size))
        have kA := hid (kA.out.below_all hb0)
        have kB := hid (kB.out.below_all hb0)
        clear hb0
        obtain ⟨gw, hp⟩ : ∃ gw, gw = w14.heap.size := ⟨_, rfl⟩
        rw [← hp] at kV
        simp only [← hp]
        generalize w14.alloc (.cells #[.int .i64 a.k, .int .i64 a.n, .string a.s] 24) = w15 at *
        clear hp
        have hna := hna9.out
        have x0 : w15.cell? ⟨ga, 0, none⟩ = some (.int .i64 a.k) := kA.out.cell 0
        have x1 : w15.cell? ⟨ga, 1, none⟩ = some (.int .i64 a.n) := kA.out.cell 1
        have x2 : w15.cell? ⟨ga, 2, none⟩ = some (.string a.s) := kA.out.cell 2
        have y0 : w15.cell? ⟨gb, 0, none⟩ = some (.int .i64 b.k) := kB.out.cell 0
        have y1 : w15.cell? ⟨gb, 1, none⟩ = some (.int .i64 b.n) := kB.out.cell 1
        have y2 : w15.cell? ⟨gb, 2, none⟩ = some (.string b.s) := kB.out.cell 2
        have v0 : w15.cell? ⟨gw, 0, none⟩ = some (.int .i64 a.k) := kV.out.cell 0
        have v1 : w15.cell? ⟨gw, 1, none⟩ = some (.int .i64 a.n) := kV.out.cell 1
        have v2 : w15.cell? ⟨gw, 2, none⟩ = some (.string a.s) := kV.out.cell 2
        go_cut [126] (fun v wx => v = .bool false ∧ wx = w15)
        case first =>
          by_cases heab : a = b
          · have q2 : (LA.toList == LB.toList) = true := by rw [bytes_dec, hlit.out]; exact decide_eq_true heab
            subst heab
            go_wp2_with fail
            refine (num_any _ w15).mono ?_
            rintro e wq ⟨rfl, hwq⟩
            obtain rfl := hwq.symm
            go_wp2_with fail
            refine (num_any _ w15).mono ?_
            rintro e wq ⟨rfl, hwq⟩
            obtain rfl := hwq.symm
            go_wp2_with fail
            refine (num_any _ w15).mono ?_
            rintro e wq ⟨rfl, hwq⟩
            obtain rfl := hwq.symm
            go_wp2_with fail
            go_meet
            exact ⟨rfl, rfl⟩

          · have q2 : (LA.toList == LB.toList) = false := by rw [bytes_dec, hlit.out]; exact decide_eq_false heab
            have hdf : ¬ (a.k = b.k ∧ a.n = b.n ∧ a.s.toList = b.s.toList) := fun ⟨e1, e2, e3⟩ => heab (by
              have h := bytes_dec a.s b.s
              rw [e3, beq_self_eq_true] at h
              have e4 : a.s = b.s := of_decide_eq_true h.symm
              cases a; cases b; simp only at e1 e2 e4; subst e1 e2 e4; rfl)
            clear heab hna
            generalize a.k = ak at *
            generalize b.k = bk at *
            generalize a.n = an at *
            generalize b.n = bn at *
            generalize a.s = sa at *
            generalize b.s = sb at *
            by_cases u1 : ak = bk
            · subst u1
              by_cases u2 : an = bn
              · subst u2
                have u3 : ¬ (sa.toList = sb.toList) := fun e => hdf ⟨rfl, rfl, e⟩
                clear hdf
                go_wp2_with fail
                refine (num_any _ w15).mono ?_
                rintro e wq ⟨rfl, hwq⟩
                obtain rfl := hwq.symm
                go_wp2_with fail
                refine (num_any _ w15).mono ?_
                rintro e wq ⟨rfl, hwq⟩
                obtain rfl := hwq.symm
                go_wp2_with fail
                refine (num_any _ w15).mono ?_
                rintro e wq ⟨rfl, hwq⟩
                obtain rfl := hwq.symm
                go_wp2_with fail
                go_meet
                exact ⟨rfl, rfl⟩

              · clear hdf
                go_wp2_with fail
                refine (num_any _ w15).mono ?_
                rintro e wq ⟨rfl, hwq⟩
                obtain rfl := hwq.symm
                go_wp2_with fail
                refine (num_any _ w15).mono ?_
                rintro e wq ⟨rfl, hwq⟩
                obtain rfl := hwq.symm
                go_wp2_with fail
                refine (num_any _ w15).mono ?_
                rintro e wq ⟨rfl, hwq⟩
                obtain rfl := hwq.symm
                go_wp2_with fail
                go_meet
                exact ⟨rfl, rfl⟩

            · clear hdf
              go_wp2_with fail
              refine (num_any _ w15).mono ?_
              rintro e wq ⟨rfl, hwq⟩
              obtain rfl := hwq.symm
              go_wp2_with fail
              refine (num_any _ w15).mono ?_
              rintro e wq ⟨rfl, hwq⟩
              obtain rfl := hwq.symm
              go_wp2_with fail
              refine (num_any _ w15).mono ?_
              rintro e wq ⟨rfl, hwq⟩
              obtain rfl := hwq.symm
              go_wp2_with fail
              go_meet
              exact ⟨rfl, rfl⟩

        case rest =>
          obtain ⟨rfl, hwc15⟩ := hcut
          obtain rfl := hwc15.symm
          clear hna v0 v1 v2 kV
          have hkk : Hid (∀ W', Below w15.heap.size w15 W' → W'.cell? ⟨ga, 0, none⟩ = some (.int .i64 a.k) ∧ W'.cell? ⟨ga, 1, none⟩ = some (.int .i64 a.n) ∧ W'.cell? ⟨ga, 2, none⟩ = some (.string a.s) ∧ W'.cell? ⟨gb, 0, none⟩ = some (.int .i64 b.k) ∧ W'.cell? ⟨gb, 1, none⟩ = some (.int .i64 b.n) ∧ W'.cell? ⟨gb, 2, none⟩ = some (.string b.s)) := hid fun W' hb => ⟨(kA.out.below_all hb).cell 0, (kA.out.below_all hb).cell 1, (kA.out.below_all hb).cell 2, (kB.out.below_all hb).cell 0, (kB.out.below_all hb).cell 1, (kB.out.below_all hb).cell 2⟩
          have hbX : Hid (Below w15.heap.size w15 w15) := hid (Below.refl _ _)
          go_upto_region 17 with fail
          go_region_held3 (fun W' => W'.cell? ⟨ga, 0, none⟩ = some (.int .i64 a.k) ∧ W'.cell? ⟨ga, 1, none⟩ = some (.int .i64 a.n) ∧ W'.cell? ⟨ga, 2, none⟩ = some (.string a.s) ∧ W'.cell? ⟨gb, 0, none⟩ = some (.int .i64 b.k) ∧ W'.cell? ⟨gb, 1, none⟩ = some (.int .i64 b.n) ∧ W'.cell? ⟨gb, 2, none⟩ = some (.string b.s)) (first | exact hkk.out _ hbX.out | exact hkk.out _ hbX.out.drew)
            ((go_at_call 11
              refine (hputg.out ⟨_, _, _⟩ (by first | exact .inl rfl | exact .inr rfl) _).mono ?_
              rintro e w16 ⟨x, rfl, hx0, hb1⟩
              obtain ⟨YA, Yc, rfl, hcY, _⟩ := own_form hx0
              have hbX : Hid (Below w15.heap.size w15 w16) := hid (by first | exact hbX.out.trans (hb1.mono hbX.out.size) | exact hbX.out.drew.trans (hb1.mono hbX.out.size))
              first
              | (have hPA : Hid (Rd (fun k => True) w16 1 YA (Q a).length (bcells (Q a))) := hid ((Rd.of_own' hx0).more fun _ _ _ => trivial)
                 try (have hPB := hid (hPB.out.below_all hb1))
                 try (have hPB := hid (hPB.out.drew.below_all hb1)))
              | (have hPB : Hid (Rd (fun k => True) w16 1 YA (Q b).length (bcells (Q b))) := hid ((Rd.of_own' hx0).more fun _ _ _ => trivial)
                 have hcB : Hid ((Q b).length ≤ Yc) := hid hcY
                 try (have hPA := hid (hPA.out.below_all hb1))
                 try (have hPA := hid (hPA.out.drew.below_all hb1)))
              clear hb1 hx0 hcY))
          all_goals
            clear x0 x1 x2 y0 y1 y2
            have hB := hid (hB.out.trans (hbX.out.mono hB.out.size))
            have kA := hid (kA.out.below_all hbX.out)
            have kB := hid (kB.out.below_all hbX.out)
            clear hkk hbX
            go_upto_region 18 with fail
            have x0 : w16.cell? ⟨ga, 0, none⟩ = some (.int .i64 a.k) := kA.out.cell 0
            have x1 : w16.cell? ⟨ga, 1, none⟩ = some (.int .i64 a.n) := kA.out.cell 1
            have x2 : w16.cell? ⟨ga, 2, none⟩ = some (.string a.s) := kA.out.cell 2
            have y0 : w16.cell? ⟨gb, 0, none⟩ = some (.int .i64 b.k) := kB.out.cell 0
            have y1 : w16.cell? ⟨gb, 1, none⟩ = some (.int .i64 b.n) := kB.out.cell 1
            have y2 : w16.cell? ⟨gb, 2, none⟩ = some (.string b.s) := kB.out.cell 2
            go_cut [148] (fun v wx => v = .bool false ∧ wx = w16)
            case first =>
              by_cases heab : a = b
              · have hs1 : Hid (∀ (A B : Option Addr) (c d : Nat) (W : World), Rd (fun _ => True) W 1 A (Q a).length (bcells (Q a)) → Rd (fun _ => True) W 1 B (Q a).length (bcells (Q a)) → Calls Tryd.prog 12 #[.slice A (Q a).length c, .slice B (Q a).length d] W fun e w' => e = .returned (.bool true) ∧ w' = W) := hid (fun A B c d W h1 h2 => same_true (c := c) (d := d) h1 h2)
                subst heab
                have e2 := Int.ofNat_le.2 hcB.out
                go_wp2_with fail
                refine (hs1.out _ _ _ _ _ hPB.out hPA.out).mono ?_
                rintro e wq ⟨rfl, hwq⟩
                obtain rfl := hwq.symm
                clear hs1
                go_wp2_with fail
                go_meet
                exact ⟨rfl, rfl⟩
              · by_cases hle : (Q a).length ≤ (Q b).length
                · have k1 : decide (((Q a).length : Int) ≤ ((Q b).length : Int)) = true := decide_eq_true (by omega)
                  have k2 : decide ((Q a).length ≤ (Q b).length) = true := decide_eq_true hle
                  have e2 := Int.ofNat_le.2 (Nat.le_trans hle hcB.out)
                  have e3 : ((Q a).length : Int) ≤ ((Q b).length : Int) := by omega
                  have htl : ((Q b).take (Q a).length).length = (Q a).length := by rw [List.length_take, Nat.min_eq_left hle]
                  have hfr : Hid (Rd (fun _ => True) w16 1 YA (Q a).length (bcells ((Q b).take (Q a).length))) := hid (by
                    have h := Rd.front (l := (Q b).take (Q a).length) (m := (Q b).drop (Q a).length) (by rw [List.take_append_drop]; exact hPB.out)
                    rwa [htl] at h)
                  have hnb : ¬ (bt ((Q b).take (Q a).length) = bt (Q a)) := fun e => heab (hpre.out (by
                    have h1 := congrArg tb e
                    rwa [tb_bt (fun x hx => hvbl.out x (List.mem_of_mem_take hx)), tb_bt hval.out] at h1))
                  have hs2 : Hid (∀ (A B : Option Addr) (c d : Nat) (W : World), Rd (fun _ => True) W 1 A (Q a).length (bcells ((Q b).take (Q a).length)) → Rd (fun _ => True) W 1 B (Q a).length (bcells (Q a)) → Calls Tryd.prog 12 #[.slice A (Q a).length c, .slice B (Q a).length d] W fun e w' => e = .returned (.bool false) ∧ w' = W) := hid (fun A B c d W h1 h2 => by
                    have h := same_any (c := c) (d := d) (la := (Q b).take (Q a).length) (lb := Q a) (by rw [htl]; exact h1) h2
                    rw [htl, decide_eq_false hnb] at h
                    exact h)
                  clear hle heab htl hnb
                  go_wp2_with fail
                  refine (hs2.out _ _ _ _ _ hfr.out hPA.out).mono ?_
                  rintro e wq ⟨rfl, hwq⟩
                  obtain rfl := hwq.symm
                  clear hs2
                  go_wp2_with fail
                  go_meet
                  exact ⟨rfl, rfl⟩
                · have k1 : decide (((Q a).length : Int) ≤ ((Q b).length : Int)) = false := decide_eq_false (by omega)
                  have k2 : decide ((Q a).length ≤ (Q b).length) = false := decide_eq_false hle
                  clear heab hle
                  go_wp2_with fail
                  go_meet
                  exact ⟨rfl, rfl⟩
            case rest =>
              obtain ⟨rfl, hwc16⟩ := hcut
              obtain rfl := hwc16.symm
              have hkk : Hid (∀ W', Below w16.heap.size w16 W' → W'.cell? ⟨ga, 0, none⟩ = some (.int .i64 a.k) ∧ W'.cell? ⟨ga, 1, none⟩ = some (.int .i64 a.n) ∧ W'.cell? ⟨ga, 2, none⟩ = some (.string a.s) ∧ W'.cell? ⟨gb, 0, none⟩ = some (.int .i64 b.k) ∧ W'.cell? ⟨gb, 1, none⟩ = some (.int .i64 b.n) ∧ W'.cell? ⟨gb, 2, none⟩ = some (.string b.s)) := hid fun W' hb => ⟨(kA.out.below_all hb).cell 0, (kA.out.below_all hb).cell 1, (kA.out.below_all hb).cell 2, (kB.out.below_all hb).cell 0, (kB.out.below_all hb).cell 1, (kB.out.below_all hb).cell 2⟩
              have hbX : Hid (Below w16.heap.size w16 w16) := hid (Below.refl _ _)

              have hgd := guardVal
              by_cases heab : a = b
              · have hse : Hid (∀ (A B : Option Addr) (c d : Nat) (W : World), Rd (fun _ => True) W 1 A (Q a).length (bcells (Q a)) → Rd (fun _ => True) W 1 B (Q a).length (bcells (Q a)) → Calls Tryd.prog 12 #[.slice A (Q a).length c, .slice B (Q a).length d] W fun e w' => e = .returned (.bool true) ∧ w' = W) := hid (fun A B c d W h1 h2 => same_true (c := c) (d := d) h1 h2)
                subst heab
                have heqv := fun w => eql_vals a a w
                have heqw := fun w => run_eqVal a a w
                simp only [decide_true] at heqv heqw
                go_upto_region 20 with fail
                go_region_held3 (fun W' => W'.cell? ⟨ga, 0, none⟩ = some (.int .i64 a.k) ∧ W'.cell? ⟨ga, 1, none⟩ = some (.int .i64 a.n) ∧ W'.cell? ⟨ga, 2, none⟩ = some (.string a.s) ∧ W'.cell? ⟨gb, 0, none⟩ = some (.int .i64 a.k) ∧ W'.cell? ⟨gb, 1, none⟩ = some (.int .i64 a.n) ∧ W'.cell? ⟨gb, 2, none⟩ = some (.string a.s)) (first | exact hkk.out _ hbX.out | exact hkk.out _ hbX.out.drew)
                  ((first
                    | (go_at_call 12
                       first | refine (hse.out _ _ _ _ _ hPA.out hPB.out).mono ?_ | refine (hse.out _ _ _ _ _ hPA.out.drew hPB.out.drew).mono ?_
                       rintro e wz ⟨rfl, hwq⟩
                       obtain rfl := hwq.symm)
                    | (rw [if_pos (by rfl)]; go_simp; go_at_call 14
                       first | refine (live_any _ (he00.out.below (hB.out.trans (hbX.out.mono hB.out.size)))).mono ?_ | refine (live_any _ (he00.out.below (hB.out.trans (hbX.out.mono hB.out.size)).drew)).mono ?_
                       rintro e wz ⟨rfl, hb1⟩
                       have hbX : Hid (Below w16.heap.size w16 wz) := hid (by first | exact hbX.out.trans (hb1.mono hbX.out.size) | exact hbX.out.drew.trans (hb1.mono hbX.out.size))
                       clear hb1
                       go_wp2_with fail)))
                all_goals
                  go_wp2_with fail
                  go_ret
                  first | exact ⟨rfl, hB.out.trans (hbX.out.mono hB.out.size)⟩ | exact ⟨rfl, (hB.out.trans (hbX.out.mono hB.out.size)).drew⟩

              · have heqv := fun w => eql_vals a b w
                have heqw := fun w => run_eqVal a b w
                have hDf : decide (a = b) = false := decide_eq_false heab
                simp only [hDf] at heqv heqw
                have hsf : Hid (∀ (A B : Option Addr) (c d : Nat) (W : World), Rd (fun _ => True) W 1 A (Q a).length (bcells (Q a)) → Rd (fun _ => True) W 1 B (Q b).length (bcells (Q b)) → Calls Tryd.prog 12 #[.slice A (Q a).length c, .slice B (Q b).length d] W fun e w' => e = .returned (.bool false) ∧ w' = W) := hid (fun A B c d W h1 h2 => by
                  have h := same_any (c := c) (d := d) h1 h2
                  rwa [decide_eq_false (fun e => heab (hinj.out (by
                    have h1 := congrArg tb e
                    rwa [tb_bt hval.out, tb_bt hvbl.out] at h1)))] at h)
                clear heab hDf
                go_upto_region 20 with fail
                go_region_held3 (fun W' => W'.cell? ⟨ga, 0, none⟩ = some (.int .i64 a.k) ∧ W'.cell? ⟨ga, 1, none⟩ = some (.int .i64 a.n) ∧ W'.cell? ⟨ga, 2, none⟩ = some (.string a.s) ∧ W'.cell? ⟨gb, 0, none⟩ = some (.int .i64 b.k) ∧ W'.cell? ⟨gb, 1, none⟩ = some (.int .i64 b.n) ∧ W'.cell? ⟨gb, 2, none⟩ = some (.string b.s)) (first | exact hkk.out _ hbX.out | exact hkk.out _ hbX.out.drew)
                  ((first
                    | (go_at_call 12
                       first | refine (hsf.out _ _ _ _ _ hPA.out hPB.out).mono ?_ | refine (hsf.out _ _ _ _ _ hPA.out.drew hPB.out.drew).mono ?_
                       rintro e wz ⟨rfl, hwq⟩
                       obtain rfl := hwq.symm)
                    | (rw [if_pos (by rfl)]; go_simp; go_at_call 14
                       first | refine (live_any _ (he00.out.below (hB.out.trans (hbX.out.mono hB.out.size)))).mono ?_ | refine (live_any _ (he00.out.below (hB.out.trans (hbX.out.mono hB.out.size)).drew)).mono ?_
                       rintro e wz ⟨rfl, hb1⟩
                       have hbX : Hid (Below w16.heap.size w16 wz) := hid (by first | exact hbX.out.trans (hb1.mono hbX.out.size) | exact hbX.out.drew.trans (hb1.mono hbX.out.size))
                       clear hb1
                       go_wp2_with fail)))
                all_goals
                  go_wp2_with fail
                  go_ret
                  first | exact ⟨rfl, hB.out.trans (hbX.out.mono hB.out.size)⟩ | exact ⟨rfl, (hB.out.trans (hbX.out.mono hB.out.size)).drew⟩







end Go.Proofs.YtbnpidmlcjofiaaDoor

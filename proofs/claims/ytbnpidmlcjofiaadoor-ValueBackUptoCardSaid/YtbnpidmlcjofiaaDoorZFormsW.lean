/- value: ValueForms: the walk. -/
import Derived.Test.YtbnpidmlcjofiaaDoorJ12
import Derived.Test.YtbnpidmlcjofiaaDoorZBackP
import Derived.Test.YtbnpidmlcjofiaaDoorZBytesW
import Derived.Deep.RegionHeld3
import Derived.Deep.DeepCutAuto
namespace Go.Proofs.YtbnpidmlcjofiaaDoor
open Go.RowKit
set_option linter.unusedVariables false
set_option linter.unusedSimpArgs false

theorem ok_small {v : Vl} (h : v.ok = true) : v.s.size ≤ 64 := by
  rcases ok_forms h with rfl | ⟨_, e⟩ | ⟨_, _, h, _⟩
  · simp [vl0, ByteArray.size]
  · rw [e]; simp [ByteArray.size]
  · exact h
theorem take_bytes (s : ByteArray) (k : Nat) : (s.extract 0 k).data.toList = s.data.toList.take k := by simp

set_option maxRecDepth 100000 in
set_option maxHeartbeats 8000000 in
theorem forms_walk (s : ByteArray) (hs : s.size ≤ 140737488351232) (A0 : Option Addr) (c0 : Nat) (bl : List Nat) (cut : Int) (w : World) (ha : Rd (fun b => b < w.heap.size) w 1 A0 bl.length (bcells bl)) (hl : bl.length ≤ 140737488351232) (hcap : bl.length ≤ c0) (hbb : ∀ x ∈ bl, x < 256) (he : Env w) : Calls Tryd.prog 7 #[.string s, .slice A0 bl.length c0, .int .i64 cut] w fun e w' => e = .returned (.bool true) ∧ Below w.heap.size w w' := by
  have hB := hid (Below.refl w.heap.size w)
  have hev := hid he
  have he0 := hid he
  have hA := hid ha; have hl9 := hid hl; have hc9 := hid hcap; have hb9 := hid hbb; have hs9 := hid hs
  have hs8 : (s.size : Int) ≤ 140737488351232 := by omega
  have hpz := hid (parse_any s w hs he)
  unfold PzOut at hpz
  have hlaw := hid (fun h => parse_good (s := s.data.toList) h)
  have hgd := guardVal
  generalize hpzE0 : parseL s.data.toList = pz at *
  have hpzE := hid hpzE0
  clear hpzE0
  clear ha hl hcap hbb hs he
  go_enter Tryd.func7, Tryd.ntmps7
  go_wp2_with fail
  refine (hpz.out).mono ?_
  rintro e w1 ⟨rfl, hb0⟩
  have hB := hid (hB.out.trans (hb0.mono hB.out.size))
  have hev := hid (hev.out.below hb0)
  clear hb0
  go_upto_region 2 with fail
  have hb0 : Below w1.heap.size w1 (w1.alloc (.cells #[.int .i64 pz.v.k, .int .i64 pz.v.n, .string pz.v.s] 24)) := (Below.refl _ _).alloc (Nat.le_refl _) _
  have kv : Hid (Blk (w1.alloc (.cells #[.int .i64 pz.v.k, .int .i64 pz.v.n, .string pz.v.s] 24)) w1.heap.size 24 #[.int .i64 pz.v.k, .int .i64 pz.v.n, .string pz.v.s]) := hid (Blk.new w1 _ _)
  have hB := hid (hB.out.trans (hb0.mono hB.out.size))
  have hev := hid (hev.out.below hb0)
  clear hb0
  obtain ⟨p, hp⟩ : ∃ p, p = w1.heap.size := ⟨_, rfl⟩
  rw [← hp] at kv
  simp only [← hp]
  generalize w1.alloc (.cells #[.int .i64 pz.v.k, .int .i64 pz.v.n, .string pz.v.s] 24) = w2 at *
  clear hp
  go_wp2_with fail
  refine (num_any _ w2).mono ?_
  rintro e wq ⟨rfl, hwq⟩
  obtain rfl := hwq.symm
  go_upto_if 31 with fail
  go_cut [] (fun wx => Below w.heap.size w wx)
  case first =>
    by_cases hpe : pz.e = 0
    · obtain ⟨v, hv1, hv2, hv3, hv4, hv5⟩ := hlaw.out hpe
      have hv1 : pz = .good v := hv1
      subst hv1

      have kv : Hid (Blk w2 p 24 #[.int .i64 v.k, .int .i64 v.n, .string v.s]) := kv
      have hps : (⟨(printL v).toArray⟩ : ByteArray) = s := by
        rw [show printL v = litL v from if_pos hv2, hv4]
      have hpr := hid (print_any v w2 (by have := ok_small hv2; omega) hv3 hev.out)
      unfold PrOut at hpr
      rw [hps, show printE v = 0 from if_pos hv2] at hpr
      have hcl := hid hv5
      clear hps hv1 hv2 hv3 hv4 hv5 hpz hlaw hpzE hpe
      dsimp only [Pz.good]
      have x0 : w2.cell? ⟨p, 0, none⟩ = some (.int .i64 v.k) := kv.out.cell 0
      have x1 : w2.cell? ⟨p, 1, none⟩ = some (.int .i64 v.n) := kv.out.cell 1
      have x2 : w2.cell? ⟨p, 2, none⟩ = some (.string v.s) := kv.out.cell 2
      go_wp2_with fail
      refine hpr.out.mono ?_
      rintro e w3 ⟨rfl, hb0⟩
      have hB := hid (hB.out.trans (hb0.mono hB.out.size))
      have hev := hid (hev.out.below hb0)
      have kv := hid (kv.out.below_all hb0)
      clear hb0 x0 x1 x2 hpr
      go_wp2_with fail
      refine (num_any _ w3).mono ?_
      rintro e wq ⟨rfl, hwq⟩
      obtain rfl := hwq.symm
      by_cases hc0 : cut < 0
      · have i0 : ¬ (0 ≤ cut) := by omega
        clear hc0
        go_wp2_with fail
        go_meet
        exact hB.out
      have i0 : 0 ≤ cut := by omega
      by_cases hc1 : cut < s.size
      · obtain ⟨k, rfl⟩ : ∃ k : Nat, cut = k := ⟨cut.toNat, by omega⟩
        have hk : k < s.size := by omega
        have i2 : (k : Int) ≤ (s.size : Int) := by omega
        have hkc := hid hk
        have hpz := hid (parse_any (s.extract 0 k) w3 (by rw [ByteArray.size_extract]; have := hs9.out; omega) hev.out)
        unfold PzOut at hpz
        rw [take_bytes] at hpz
        have hor := hcl.out k (by rw [Array.length_toList]; exact hk)
        generalize parseL (s.data.toList.take k) = p2 at *
        clear hc0 hk hcl
        rcases hor with h0 | h0
        · have t2 : (p2.e != 0) = false := by simp [h0]
          clear h0
          go_wp2_with fail
          refine (hpz.out).mono ?_
          rintro e w4 ⟨rfl, hb0⟩
          have hB := hid (hB.out.trans (hb0.mono hB.out.size))
          have hev := hid (hev.out.below hb0)
          have kv := hid (kv.out.below_all hb0)
          clear hb0
          clear hpz
          go_upto_region 8 with fail
          have hb0 : Below w4.heap.size w4 (w4.alloc (.cells #[.int .i64 p2.v.k, .int .i64 p2.v.n, .string p2.v.s] 24)) := (Below.refl _ _).alloc (Nat.le_refl _) _
          have kq : Hid (Blk (w4.alloc (.cells #[.int .i64 p2.v.k, .int .i64 p2.v.n, .string p2.v.s] 24)) w4.heap.size 24 #[.int .i64 p2.v.k, .int .i64 p2.v.n, .string p2.v.s]) := hid (Blk.new w4 _ _)
          have hB := hid (hB.out.trans (hb0.mono hB.out.size))
          have hev := hid (hev.out.below hb0)
          have kv := hid (kv.out.below_all hb0)
          clear hb0
          obtain ⟨p9, hp⟩ : ∃ p9, p9 = w4.heap.size := ⟨_, rfl⟩
          rw [← hp] at kq
          simp only [← hp]
          generalize w4.alloc (.cells #[.int .i64 p2.v.k, .int .i64 p2.v.n, .string p2.v.s] 24) = w5 at *
          clear hp
          go_wp2_with fail
          refine (num_any _ w5).mono ?_
          rintro e wq ⟨rfl, hwq⟩
          obtain rfl := hwq.symm

          go_wp2_with fail
          go_meet
          exact hB.out
        · subst h0
          dsimp only [Pz.bad] at hpz
          go_wp2_with fail
          refine (hpz.out).mono ?_
          rintro e w4 ⟨rfl, hb0⟩
          have hB := hid (hB.out.trans (hb0.mono hB.out.size))
          have hev := hid (hev.out.below hb0)
          have kv := hid (kv.out.below_all hb0)
          clear hb0
          clear hpz
          go_upto_region 8 with fail
          have hb0 : Below w4.heap.size w4 (w4.alloc (.cells #[.int .i64 vl0.k, .int .i64 vl0.n, .string vl0.s] 24)) := (Below.refl _ _).alloc (Nat.le_refl _) _
          have kq : Hid (Blk (w4.alloc (.cells #[.int .i64 vl0.k, .int .i64 vl0.n, .string vl0.s] 24)) w4.heap.size 24 #[.int .i64 vl0.k, .int .i64 vl0.n, .string vl0.s]) := hid (Blk.new w4 _ _)
          have hB := hid (hB.out.trans (hb0.mono hB.out.size))
          have hev := hid (hev.out.below hb0)
          have kv := hid (kv.out.below_all hb0)
          clear hb0
          obtain ⟨p9, hp⟩ : ∃ p9, p9 = w4.heap.size := ⟨_, rfl⟩
          rw [← hp] at kq
          simp only [← hp]
          generalize w4.alloc (.cells #[.int .i64 vl0.k, .int .i64 vl0.n, .string vl0.s] 24) = w5 at *
          clear hp
          go_wp2_with fail
          refine (num_any _ w5).mono ?_
          rintro e wq ⟨rfl, hwq⟩
          obtain rfl := hwq.symm
          go_wp2_with fail
          refine (num_any _ w5).mono ?_
          rintro e wq ⟨rfl, hwq⟩
          obtain rfl := hwq.symm

          go_wp2_with fail
          go_meet
          exact hB.out
      · clear hc0
        go_wp2_with fail
        go_meet
        exact hB.out

    · have t1 : (pz.e == 0) = false := by simpa using hpe
      clear hpe
      go_wp2_with fail
      go_meet
      exact hB.out
  case rest =>
    have hB := hid hcut
    have hAc := hid (hA.out.below hcut fun b h => h)
    clear hpz hlaw hpzE hev hcut kv
    have hk := hid (cNew_any _ A0 c0 bl wc hAc.out hl9.out hb9.out)
    go_wp2_with fail
    refine hk.out.mono ?_
    rintro e w1 ⟨g, A, c, S0, rfl, hb10, hg0, hS0, hr0⟩
    have hr := hid hr0.bound
    have hgb := hid hr0.blk.lt
    have hgg : Hid (w.heap.size ≤ g) := hid (Nat.le_trans hB.out.size hg0)
    have hB := hid (hB.out.trans (hb10.mono hB.out.size))
    clear hb10 hr0 hg0 hS0 hk hAc
    obtain ⟨v, q, hvq⟩ : ∃ v q, (Rr.new bl).take = (v, q) := ⟨_, _, rfl⟩
    have hct := hid (cTake_any hr.out)
    rw [hvq] at hct
    have hvq := hid hvq
    go_wp2_with fail
    refine hct.out.mono ?_
    rintro e w2 ⟨rfl, hU, hr2⟩
    have hr := hid hr2
    have hB := hid (hB.out.trans (hU.below (B := w.heap.size) hB.out.size fun k hk e => by have := hgg.out; omega))
    have hgb := hid (show g < w2.heap.size by have h1 := hgb.out; have h2 := hU.size; omega)
    clear hU hr2 hct
    go_upto_region 12 with fail
    have hb0 : Below w2.heap.size w2 (w2.alloc (.cells #[.int .i64 v.k, .int .i64 v.n, .string v.s] 24)) := (Below.refl _ _).alloc (Nat.le_refl _) _
    have kv : Hid (Blk (w2.alloc (.cells #[.int .i64 v.k, .int .i64 v.n, .string v.s] 24)) w2.heap.size 24 #[.int .i64 v.k, .int .i64 v.n, .string v.s]) := hid (Blk.new w2 _ _)
    have hr := hid (hr.out.below_all hb0)
    have hB := hid (hB.out.trans (hb0.mono hB.out.size))
    clear hb0
    obtain ⟨p, hp⟩ : ∃ p, p = w2.heap.size := ⟨_, rfl⟩
    rw [← hp] at kv
    simp only [← hp]
    generalize w2.alloc (.cells #[.int .i64 v.k, .int .i64 v.n, .string v.s] 24) = w3 at *
    have hpg : Hid (p ≠ g) := hid (by have := hgb.out; omega)
    clear hp
    have hwy := hid (cWhy_any hr.out)
    rw [Rr.why_e] at hwy
    generalize q.why.2 = qs at *
    go_wp2_with fail
    refine hwy.out.mono ?_
    rintro e w4 ⟨rfl, hU, hr2⟩
    have hr := hid hr2
    have hB := hid (hB.out.trans (hU.below (B := w.heap.size) hB.out.size fun k hk e => by have := hgg.out; omega))
    have kv := hid (kv.out.upd hU hpg.out)
    clear hU hr2 hwy
    go_wp2_with fail
    refine (num_any _ w4).mono ?_
    rintro e wq ⟨rfl, hwq⟩
    obtain rfl := hwq.symm
    go_upto_if 85 with fail
    go_cut [] (fun wx => Below w.heap.size w wx)
    case first =>
      by_cases he : q.e = 0
      · obtain ⟨h1, h2, h3, h4, h5, h6, h7⟩ := take_canon hb9.out hvq.out he
        have t1 : (q.e == 0) = true := by simpa using he
        have hM : q.rest = bl.length - q.at_ := by unfold Rr.rest; rw [if_neg (by simp [he]), h3]
        obtain ⟨P, hP⟩ : ∃ P, P = vput v := ⟨_, rfl⟩
        rw [h4, ← hP] at h5 h6 h7 hM
        have hput := hid (fun W => vput_any (fun _ => True) none 0 [] v W Rd.nil_ (by have := ok_small h1; omega) h2.1 h2.2 (by simp))
        rw [← hP] at hput
        have hrs := hid (cRest_any hr.out)
        rw [hM] at hrs
        have f1 : IntKind.i64.wrap ((bl.length : Int) - ((bl.length - P.length : Nat) : Int)) = (P.length : Int) := by have := hl9.out; rw [IntKind.wrap_i64]; omega
        have hPl := hid h5; have hPt := hid h6; have hP7 := hid h7
        clear h1 h2 h3 h4 h5 h6 h7 hM hP he hvq
        generalize bl.length - P.length = M at *
        go_wp2_with fail
        refine hrs.out.mono ?_
        rintro e w5 ⟨rfl, hU, hr2⟩
        have kv := hid (kv.out.upd hU hpg.out)
        have hB := hid (hB.out.trans (hU.below (B := w.heap.size) hB.out.size fun k hk e => by have := hgg.out; omega))

        clear hU hr2 hrs hr
        have j0 : ¬ ((P.length : Int) < 0) := by omega
        have j1 : (P.length : Int) ≤ (bl.length : Int) := by have := hPl.out; omega
        have j2 : (P.length : Int) ≤ (c0 : Int) := by have := hPl.out; have := hc9.out; omega
        have j3 : (0 : Int) ≤ (P.length : Int) := by omega
        have k0 : decide ((P.length : Int) < 0) = false := decide_eq_false (by omega)
        have k1 : decide (bl.length < P.length) = false := decide_eq_false (by omega)
        have x0 : w5.cell? ⟨p, 0, none⟩ = some (.int .i64 v.k) := kv.out.cell 0
        have x1 : w5.cell? ⟨p, 1, none⟩ = some (.int .i64 v.n) := kv.out.cell 1
        have x2 : w5.cell? ⟨p, 2, none⟩ = some (.string v.s) := kv.out.cell 2
        have hkk := hid (show ∀ W', Below w5.heap.size w5 W' → W'.cell? ⟨p, 0, none⟩ = some (.int .i64 v.k) ∧ W'.cell? ⟨p, 1, none⟩ = some (.int .i64 v.n) ∧ W'.cell? ⟨p, 2, none⟩ = some (.string v.s) from fun W' hb => ⟨(kv.out.below_all hb).cell 0, (kv.out.below_all hb).cell 1, (kv.out.below_all hb).cell 2⟩)
        have hfr : Hid (∀ W', Below w5.heap.size w5 W' → Rd (fun b => b < w.heap.size) W' 1 A0 P.length (bcells P)) := hid (fun W' hb => Rd.front (l := P) (m := bl.drop P.length) (by
          have e : P ++ bl.drop P.length = bl := by have := List.take_append_drop P.length bl; rwa [hPt.out] at this
          rw [e]; exact hA.out.below (hB.out.trans (hb.mono hB.out.size)) fun b h => h))
        have hbX : Hid (Below w5.heap.size w5 w5) := hid (Below.refl _ _)
        go_upto_region 15 with fail
        go_region_held3 (fun W' => W'.cell? ⟨p, 0, none⟩ = some (.int .i64 v.k) ∧ W'.cell? ⟨p, 1, none⟩ = some (.int .i64 v.n) ∧ W'.cell? ⟨p, 2, none⟩ = some (.string v.s)) (first | exact hkk.out _ hbX.out | exact hkk.out _ hbX.out.drew)
          ((first
            | (rw [if_pos (by rfl)]; go_simp; go_at_call 12
               first | refine (same_true (c := Xc) (d := c0) (Rd.of_own' hX.out) (hfr.out _ hbX.out)).mono ?_ | refine (same_true (c := Xc) (d := c0) (Rd.of_own' hX.out).drew (hfr.out _ hbX.out.drew)).mono ?_
               rintro e w8 ⟨rfl, hwq⟩
               obtain rfl := hwq.symm
               go_wp2_with fail)
            | (rw [if_pos (by rfl)]; go_simp; go_at_call 11
               refine (hput.out _).mono ?_
               rintro e w7 ⟨x, rfl, hx0, hb1⟩
               rw [List.nil_append] at hx0
               obtain ⟨XA, Xc, rfl, _⟩ := own_form hx0
               have hbX : Hid (Below w5.heap.size w5 w7) := hid (by first | exact hbX.out.trans (hb1.mono hbX.out.size) | exact hbX.out.drew.trans (hb1.mono hbX.out.size))
               have hX := hid hx0
               clear hb1 hx0
               go_wp2_with fail)))
        all_goals
          have hB := hid (hB.out.trans (hbX.out.mono hB.out.size))
          clear x0 x1 x2 k0 k1 j0 j3 hkk hfr hbX hX kv hput
          by_cases hc0 : cut < 0
          · have i0 : ¬ (0 ≤ cut) := by omega
            clear hc0
            go_wp2_with fail
            go_meet
            first | exact hB.out | exact hB.out.drew
          have i0 : 0 ≤ cut := by omega
          by_cases hc1 : cut < P.length
          · obtain ⟨k, rfl⟩ : ∃ k : Nat, cut = k := ⟨cut.toNat, by omega⟩
            have hkP := hid (show k < P.length by omega)
            have i1 : (k : Int) ≤ (bl.length : Int) := by omega
            have i2 : (k : Int) ≤ (c0 : Int) := by omega
            have hke := hP7.out k hkP.out
            have hAk : Hid (Rd (fun b => b < w.heap.size) w7 1 A0 k (bcells (bl.take k))) := hid (by
              have h := Rd.front (l := bl.take k) (m := bl.drop k) (by rw [List.take_append_drop]; exact hA.out.below hB.out fun b h => h)
              rwa [List.length_take, Nat.min_eq_left (by have := hPl.out; have := hkP.out; omega)] at h)
            have hbk := hid (fun x hx => hb9.out x (List.mem_of_mem_take hx) : ∀ x ∈ bl.take k, x < 256)
            have hkl : (bl.take k).length = k := by rw [List.length_take, Nat.min_eq_left (by have := hPl.out; have := hkP.out; omega)]
            have hnw := hid (fun (W : World) (S : Nat → Prop) (h : Rd S W 1 A0 k (bcells (bl.take k))) => hkl ▸ cNew_any S A0 c0 (bl.take k) W (by rw [hkl]; exact h) (by rw [hkl]; have := hl9.out; have := hPl.out; have := hkP.out; omega) hbk.out)
            generalize bl.take k = bk at *
            clear hkl hc0 hP7 hPt
            obtain ⟨v8, q8, hvq8⟩ : ∃ v q, (Rr.new bk).take = (v, q) := ⟨_, _, rfl⟩
            rw [hvq8] at hke
            have hke : q8.e = 3 := hke
            have hvq8 := hid hvq8
            have hke := hid hke
            go_wp2_with fail
            refine (hnw.out _ _ hAk.out).mono ?_
            rintro e w8 ⟨g8, A8, c8, S8, rfl, hb10, hg0, hS0, hr0⟩
            have hr := hid hr0.bound
            have hgg : Hid (w.heap.size ≤ g8) := hid (Nat.le_trans hB.out.size hg0)
            have hB := hid (hB.out.trans (hb10.mono hB.out.size))
            have hct := hid (cTake_any hr.out)
            rw [hvq8.out] at hct
            clear hb10 hr0 hg0 hS0 hnw hAk hr hvq8 hbk
            go_wp2_with fail
            refine hct.out.mono ?_
            rintro e w9 ⟨rfl, hU, hr2⟩
            have hwy := hid (cWhy_any hr2)
            rw [Rr.why_e, hke.out] at hwy
            generalize q8.why.2 = qs8 at *
            have hB := hid (hB.out.trans (hU.below (B := w.heap.size) hB.out.size fun k hk e => by have := hgg.out; omega))
            clear hU
            clear hr2 hct
            go_wp2_with fail
            refine hwy.out.mono ?_
            rintro e wa ⟨rfl, hU, hr2⟩
            have hB := hid (hB.out.trans (hU.below (B := w.heap.size) hB.out.size fun k hk e => by have := hgg.out; omega))
            clear hU
            clear hr2 hwy
            go_wp2_with fail
            refine (num_any _ wa).mono ?_
            rintro e wq ⟨rfl, hwq⟩
            obtain rfl := hwq.symm
            go_wp2_with fail
            go_meet
            exact hB.out
          · have i1 : ¬ (cut < (P.length : Int)) := hc1
            clear hc0
            go_wp2_with fail
            go_meet
            first | exact hB.out | exact hB.out.drew
      · have t1 : (q.e == 0) = false := by simpa using he
        clear he
        go_wp2_with fail
        go_meet
        exact hB.out

    case rest =>
      go_wp2_with fail
      refine (live_any _ (he0.out.below hcut)).mono ?_
      rintro e wl ⟨rfl, hb1⟩
      go_wp2_with fail
      go_ret
      exact ⟨rfl, hcut.trans (hb1.mono hcut.size)⟩



end Go.Proofs.YtbnpidmlcjofiaaDoor

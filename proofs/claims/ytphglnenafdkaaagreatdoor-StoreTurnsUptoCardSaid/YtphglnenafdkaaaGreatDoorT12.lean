/- Texts of the proof, joined: STurns, SLift, SOpen, LawOf, SLaid, SLaidE. -/
import Derived.Test.YtphglnenafdkaaaGreatDoorT09
import Derived.Test.YtphglnenafdkaaaGreatDoorT11
import Derived.Test.YtphglnenafdkaaaGreatDoorT05
import Derived.Deep.Slices
import Derived.Lib.SmallJoins
import Derived.Test.YtphglnenafdkaaaGreatDoorT08
import Derived.Test.YtphglnenafdkaaaGreatDoorT01
import Derived.ProofKit
import Derived.OpenShut
import Derived.JoinedCond
import Derived.Test.YtphglnenafdkaaaGreatDoorRows
import Derived.Stop.LaidErr
import Derived.Lib.LaidTab
import Derived.Lib.ItoaNum
import Derived.LaidLaws
import Derived.Deep.DeepHandedRow
namespace Go.Proofs.YtphglnenafdkaaaGreatDoor
open Go.RowKit
set_option linter.unusedVariables false
set_option linter.unusedSimpArgs false

theorem ok_nil {p r : Nat} (h1 : 1 ≤ p ∧ p ≤ 64) (h2 : 1 ≤ r ∧ r ≤ 4096) : St.Ok ⟨p, r, []⟩ := st_ok h1 h2
theorem rng_play : ∀ {us : List SA} {s : St}, RngL s.L → (∀ a ∈ us, ∀ x ∈ a.ws, x.v.rng) → RngL (playS s us).L
  | [], s, h, _ => h
  | a :: us, s, h, hv => by
    show RngL (playS (actS s a) us).L
    refine rng_play ?_ fun b hb => hv b (List.mem_cons_of_mem _ hb)
    unfold actS
    split
    · exact rng_claim h
    · split
      · exact rng_apply h (hv a (List.mem_cons_self ..))
      · exact h
theorem bytes_textB {S : Nat → Prop} {w : World} {g : Nat} {s : St} (h : PAt S w g s) (he : Env w) (hr : RngL s.L) : Calls Tryz.prog 13 #[.pointer (some ⟨g, 0, none⟩)] w fun e w' => ∃ A n c, e = .returned (.slice A n c) ∧ (∀ w'', Below w'.heap.size w' w'' → (convert 41 9 (.slice A n c)).run Tryz.prog w'' = .ok (.string (btS s)) w'') ∧ Below w.heap.size w w' := by
  refine (bytes_any h he hr).mono ?_
  rintro e w' ⟨v, rfl, ho, hb⟩
  obtain ⟨A, c, rfl, _⟩ := own_form ho
  rw [bcells_bytes] at ho
  exact ⟨A, _, c, rfl, fun w'' h => convB ((Rd.of_own ho).below_all h) (by simp), hb⟩
/-- two stores of the program, apart -/
structure TT (w : World) (S S2 : Nat → Prop) (wr : World) (g g2 : Nat) (s s2 : St) : Prop where
  a : PAt S wr g s
  b : PAt S2 wr g2 s2
  ha : ∀ j, S j → w.heap.size ≤ j
  hb : ∀ j, S2 j → w.heap.size ≤ j
  dis : ∀ j, S j → ¬ S2 j
  bel : Below w.heap.size w wr
section
variable {w wr w' : World} {S S2 : Nat → Prop} {g g2 : Nat} {s s2 s' : St}
theorem TT.below (h : TT w S S2 wr g g2 s s2) (hb : Below wr.heap.size wr w') : TT w S S2 w' g g2 s s2 := ⟨h.a.below hb, h.b.below hb, h.ha, h.hb, h.dis, h.bel.trans (hb.mono h.bel.size)⟩
theorem TT.stepA (h : TT w S S2 wr g g2 s s2) (hp : PAt S w' g s') (hu : Upd S wr w') : TT w S S2 w' g g2 s' s2 := ⟨hp, h.b.upd hu fun b hb hS => h.dis b hS hb, h.ha, h.hb, h.dis, h.bel.trans (hu.below h.bel.size fun k hk hS => by have := h.ha k hS; omega)⟩
theorem TT.stepB (h : TT w S S2 wr g g2 s s2) (hp : PAt S2 w' g2 s') (hu : Upd S2 wr w') : TT w S S2 w' g g2 s s' := ⟨h.a.upd hu fun b hb hS => h.dis b hb hS, hp, h.ha, h.hb, h.dis, h.bel.trans (hu.below h.bel.size fun k hk hS => by have := h.hb k hS; omega)⟩
set_option maxRecDepth 100000 in
set_option maxHeartbeats 8000000 in
theorem turns_any (p r : Int) {A : Option Addr} {c : Nat} {us : List SA} (h : SActs (fun b => b < w.heap.size) w A us) (hn : us.length ≤ 1048576) (hp : partsA us ≤ 1048576) (hz0 : ∀ a ∈ us, okKs a.ks ∧ okWs a.ws) (hv0 : ∀ a ∈ us, ∀ x ∈ a.ws, x.v.rng) (he : Env w)
    {B C : Option Addr} {d f : Nat} (ks : List ByteArray) (hks0 : Rd (fun b => b < w.heap.size) w 1 B ks.length (strs ks)) (hok0 : okKs ks) (hkn0 : ks.length ≤ 1048576) (ws : List Wr) (hws0 : Rd (fun b => b < w.heap.size) w 5 C ws.length (wrCells ws)) (hwok0 : okWs ws) (hwn0 : ws.length ≤ 1048576) (hwv0 : ∀ x ∈ ws, x.v.rng) (t : Int) (ht0 : t ≤ 9223372036854775807) :
    Calls Tryz.prog 3 #[.agg #[.int .i64 p, .int .i64 r, .slice A us.length c], .slice B ks.length d, .slice C ws.length f, .int .i64 t] w fun e w' => e = .returned (.bool true) ∧ Below w.heap.size w w' := by
  have hB0 : Below w.heap.size w (w.alloc (.cells #[.int .i64 p, .int .i64 r, .slice A us.length c] 24)) := (Below.refl _ _).alloc (Nat.le_refl _) _
  have kb := hid (Blk.new w 24 #[.int .i64 p, .int .i64 r, .slice A us.length c])
  have hs := hid h
  have hB := hid hB0
  have hE := hid he
  have hlong := hid (long_any (c := c) p r (h.below hB0) hn hp)
  have hz := hid hz0
  have hv := hid hv0
  clear hz0 hv0
  have hks := hid hks0
  have hws := hid hws0
  have hok := hid hok0
  have hwok := hid hwok0
  have hwv := hid hwv0
  have ht := hid ht0
  have hkn1 := hid hkn0
  have hwn1 := hid hwn0
  clear h hB0 hn hp he hks0 hws0 hok0 hwok0 hwv0 hkn0 hwn0 ht0
  go_enter Tryz.func3, Tryz.ntmps3
  go_upto_region 1 with fail
  generalize hW1 : w.alloc (.cells #[.int .i64 p, .int .i64 r, .slice A us.length c] 24) = w1 at *
  have hsz1 : Hid (w1.heap.size = w.heap.size + 1) := hid (by rw [← hW1]; simp)
  clear hW1
  have x0 := kb.out.cell 0
  have x1 := kb.out.cell 1
  have x2 := kb.out.cell 2
  simp only [List.getElem?_toArray, List.getElem?_cons_zero, List.getElem?_cons_succ] at x0 x1 x2
  go_wp2_with fail
  refine hlong.out.mono ?_
  rintro e w2 ⟨rfl, hb2⟩
  have kb2 := hid (kb.out.below_all hb2)
  have hB2 := hid (hB.out.trans (hb2.mono (by have := hsz1.out; omega)))
  clear hb2 hlong hB kb x0 x1 x2
  cases hl : longB us with
  | true =>
    clear hl
    go_wp2_with fail
    go_ret
    exact ⟨rfl, hB2.out⟩
  | false =>
  obtain ⟨hn0, hp0⟩ := long_no hl
  have hn := hid hn0
  have hp := hid hp0
  clear hl hn0 hp0
  by_cases h1 : 100 < ks.length
  · have t1 : decide ((100 : Int) < (ks.length : Int)) = true := decide_eq_true (by omega)
    have t1n : decide (100 < ks.length) = true := decide_eq_true h1
    clear h1
    go_wp2_with fail
    go_ret
    exact ⟨rfl, hB2.out⟩
  have t1 : decide ((100 : Int) < (ks.length : Int)) = false := decide_eq_false (by omega)
  have t1n : decide (100 < ks.length) = false := decide_eq_false h1
  have hkn := hid (show ks.length ≤ 100 by omega)
  clear h1 hkn1
  by_cases h1 : 100 < ws.length
  · have t2 : decide ((100 : Int) < (ws.length : Int)) = true := decide_eq_true (by omega)
    have t2n : decide (100 < ws.length) = true := decide_eq_true h1
    clear h1
    go_wp2_with fail
    go_ret
    exact ⟨rfl, hB2.out⟩
  have t2 : decide ((100 : Int) < (ws.length : Int)) = false := decide_eq_false (by omega)
  have t2n : decide (100 < ws.length) = false := decide_eq_false h1
  have hwn := hid (show ws.length ≤ 100 by omega)
  clear h1 hwn1
  by_cases h1 : t < 0
  · have t3 : decide (t < 0) = true := decide_eq_true h1
    clear h1
    go_wp2_with fail
    go_ret
    exact ⟨rfl, hB2.out⟩
  have t3 : decide (t < 0) = false := decide_eq_false h1
  obtain ⟨t, rfl⟩ : ∃ q : Nat, t = q := ⟨t.toNat, by omega⟩
  clear h1
  have x0 := kb2.out.cell 0
  have x1 := kb2.out.cell 1
  have x2 := kb2.out.cell 2
  simp only [List.getElem?_toArray, List.getElem?_cons_zero, List.getElem?_cons_succ] at x0 x1 x2
  cases hg : goodPR p r with
  | false =>
    have hbd := fun W => hid (both_bad (Sx := fun _ => True) (w := W) p r (A := A) (c := c) (n := us.length) hg)
    clear hg
    go_wp2_with fail
    refine (hbd _).out.mono ?_
    rintro e w3 ⟨rfl, hb3⟩
    have hB3 := hid (hB2.out.trans (hb3.mono hB2.out.size))
    have kb3 := hid (kb2.out.below_all hb3)
    clear hb3 x0 x1 x2 kb2
    have x0 := kb3.out.cell 0
    have x1 := kb3.out.cell 1
    have x2 := kb3.out.cell 2
    simp only [List.getElem?_toArray, List.getElem?_cons_zero, List.getElem?_cons_succ] at x0 x1 x2
    go_wp2_with fail
    refine (hbd _).out.mono ?_
    rintro e w4 ⟨rfl, hb4⟩
    have hB4 := hid (hB3.out.trans (hb4.mono hB3.out.size))
    clear hb4 x0 x1 x2 kb3
    go_wp2_with fail
    refine (live_any _).mono ?_
    rintro e w5 ⟨rfl, hb5⟩
    have hfb := hid (hB4.out.trans (hb5.mono hB4.out.size))
    clear hb5
    go_wp2_with fail
    go_ret
    exact ⟨rfl, hfb.out⟩
  | true =>
  obtain ⟨p, r, rfl, rfl, hp1, hr1⟩ := good_pr hg
  have hpr := hid (And.intro hp1 hr1)
  have hbo := fun (W : World) (hW : Below w.heap.size w W) => hid (both_ok (w := W) (c := c) p r (hs.out.below hW) hn.out hp.out hz.out hp1 hr1)
  clear hg hp1 hr1
  go_wp2_with fail
  refine (hbo _ hB2.out).out.mono ?_
  rintro e w3 ⟨g, r0, rfl, hT3, hb3⟩
  have hB3 := hid (hB2.out.trans (hb3.mono hB2.out.size))
  have kb3 := hid (kb2.out.below_all hb3)
  have hT3 := hid hT3
  have hs2 := hid hB2.out.size
  clear hb3 x0 x1 x2 kb2
  have x0 := kb3.out.cell 0
  have x1 := kb3.out.cell 1
  have x2 := kb3.out.cell 2
  simp only [List.getElem?_toArray, List.getElem?_cons_zero, List.getElem?_cons_succ] at x0 x1 x2
  go_wp2_with fail
  refine (hbo _ hB3.out).out.mono ?_
  rintro e w4 ⟨g2, r2, rfl, hT4, hb4⟩
  obtain ⟨S, _, q1, _, q2, _, _⟩ := hT3.out
  obtain ⟨S2, _, q3, _, q4, _, _⟩ := hT4
  have hok0 := hid q1.ok
  have hR0 : Hid (RngL (playS ⟨p, r, []⟩ us).L) := hid (rng_play (fun x hx => by cases hx) hv.out)
  generalize playS ⟨p, r, []⟩ us = s0 at *
  have R4 : Hid (TT w S S2 w4 g g2 s0 s0) := hid ⟨q1.below hb4, q3, fun j hj => Nat.le_trans hs2.out (q2 j hj), fun j hj => Nat.le_trans hB3.out.size (q4 j hj), fun j hj h2 => by have := q1.lt j hj; have := q4 j h2; omega, hB3.out.trans (hb4.mono hB3.out.size)⟩
  clear hb4 q1 q2 q3 q4 hT3 x0 x1 x2 kb3 hbo hs2 hB2 hB3 t1 t1n t2 t2n t3 hs hn hp hz hv hsz1
  obtain ⟨ip1, hip1, hp10, hp11, hp12⟩ := info_parts info_str4
  obtain ⟨ip2, hip2, hp20, hp21, hp22⟩ := info_parts info_write
  have hkn9 := hkn.out
  have hwn9 := hwn.out
  go_wp2_with (at_builtin; go_loud (refine wpList_copy_rd w4 rfl (.tmp 57) (.tmp 58) 25 rfl 9 ip1 _ 1 16 Tryz.underlying25 hip1 hp10 hp11 hp12 rfl (by omega) w4.heap.size rfl rfl (fun b => b < w.heap.size) B ks.length d (strs ks) rfl (hks.out.below_all R4.out.bel) (strs_one ks) (by simp only [maxLen]; omega) (by omega) ?_); intro A5 c5 w5 hown5 hbel5; have hown5 := hid hown5; have hbel5 := hid hbel5)
  have R5 := hid (R4.out.below hbel5.out)
  have hs4 := hid hbel5.out.size
  clear hbel5 hkn9 hwn9
  go_wp2_with fail
  refine (claim_any ks R5.out.a (Rd.of_own' hown5.out) (fun b hb hS => by have := R4.out.a.lt b hS; omega) hok.out (by have := hkn.out; omega)).mono ?_
  rintro e w6 ⟨rfl, hP, hu⟩
  have R6 := hid (R5.out.stepA hP hu)
  clear hP hu R4 R5 hown5 hs4
  rename World => w6
  by_cases e0 : claimE s0 ks = 0
  · have h0 := hid e0
    rw [e0]
    clear e0
    go_wp2_with fail
    go_loopw [14] (fun v wz => ∃ i : Nat, v = .int .i64 i ∧ i ≤ ks.length ∧ TT w S S2 wz g g2 (claimS s0 ks) (claimR s0 ks (t % ks.length) i)) (fun v _ => ks.length - (intOf v).toNat)
    case atStart => exact ⟨0, rfl, Nat.zero_le _, R6.out⟩
    case round =>
      clear R6
      obtain ⟨i, rfl, hi, R0⟩ := hrel
      have R := R0
      clear R0
      by_cases hlt : i < ks.length
      · as_aux_lemma =>
        have i1 : (i : Int) < (ks.length : Int) := by omega
        have hnz : ¬ ((ks.length : Int) = 0) := by omega
        have hn100 := hkn.out
        have htt := ht.out
        have hm1 : Int.tmod (t : Int) (ks.length : Int) = ((t % ks.length : Nat) : Int) := by rw [Int.tmod_eq_emod_of_nonneg (by omega)]; omega
        have hm2 : t % ks.length < ks.length := Nat.mod_lt _ (by omega)
        obtain ⟨q, hq⟩ : ∃ q, q = t % ks.length := ⟨_, rfl⟩
        rw [← hq] at hm1 hm2 R ⊢
        obtain ⟨j, hj⟩ : ∃ j, j = (i + q) % ks.length := ⟨_, rfl⟩
        have hjl : j < ks.length := by rw [hj]; exact Nat.mod_lt _ (by omega)
        have hw1 : IntKind.i64.wrap ((q : Nat) : Int) = (q : Int) := by rw [IntKind.wrap_i64]; omega
        have hw2 : IntKind.i64.wrap ((i : Int) + (q : Int)) = ((i + q : Nat) : Int) := by rw [IntKind.wrap_i64]; omega
        have hm3 : ((i : Int) + (q : Int)) % (ks.length : Int) = (j : Int) := by rw [hj, Int.natCast_emod, Int.natCast_add]
        have hw3 : IntKind.i64.wrap (j : Int) = (j : Int) := by rw [IntKind.wrap_i64]; omega
        have i2 : (j : Int) < (ks.length : Int) := by omega
        have hw4 : IntKind.i64.wrap ((i : Int) + 1) = (i : Int) + 1 := by rw [IntKind.wrap_i64]; omega
        have hq9 := hid hm2
        have hj9 := hid hj
        have hjl9 := hid hjl
        have hlt9 := hid hlt
        clear hn100 htt hm2 hq hj hjl hlt
        have R := hid R
        obtain ⟨b9, o9, hA9, _, _, y0⟩ := rd_strs (hks.out.below_all R.out.bel) hjl9.out
        obtain rfl := hA9
        have hst : Hid (claimE (claimR s0 ks q i) [ks[j]'hjl9.out] = 0 ∧ claimS (claimR s0 ks q i) [ks[j]'hjl9.out] = claimR s0 ks q (i + 1)) := hid (by
          have hj := hj9.out
          subst hj
          exact claimR_step hok0.out h0.out hq9.out hlt9.out)
        have hsz := hid (hok.out _ (List.getElem_mem hjl9.out))
        generalize ks[j] = key at *
        go_wp2_with fail
        refine (num_any _ _).mono ?_
        rintro e wq ⟨rfl, hwq⟩
        obtain rfl := hwq.symm
        go_wp2_with fail
        have hbA : Below wr.heap.size wr (wr.alloc (.cells #[.string key] 9)) := (Below.refl _ _).alloc (Nat.le_refl _) _
        refine (claim_any (c := 1) [key] (R.out.b.below hbA) (Rd.new wr 9 1 1 #[.string key] wr.heap.size rfl rfl) (fun b hb hS => by have := R.out.b.lt b hS; omega) (fun k hk => by rw [List.mem_singleton.1 hk]; exact hsz.out) (by simp)).mono ?_
        rintro e w8 ⟨rfl, hP, hu⟩
        rw [hst.out.2] at hP
        rw [hst.out.1]
        have R8 := hid ((R.out.below hbA).stepB hP hu)
        clear hP hu hbA R hst
        go_wp2_with fail
        refine (num_any _ _).mono ?_
        rintro e wq ⟨rfl, hwq⟩
        obtain rfl := hwq.symm
        go_wp2_with fail
        go_roundw
        case rel => exact ⟨i + 1, by go_num, hlt9.out, R8.out⟩
        case measure => simp [intOf]; have := hlt9.out; omega
      · obtain rfl : i = ks.length := by omega
        rw [claimR_end hok0.out h0.out] at R
        have R7 := hid R
        clear R hlt hi
        go_wp2_with fail
        refine (num_any _ _).mono ?_
        rintro e wq ⟨rfl, hwq⟩
        obtain rfl := hwq.symm
        have hok1 := hid (claim_ok hok0.out ks)
        have hR1 := hid (rng_claim (ks := ks) hR0.out)
        generalize claimS s0 ks = s1 at *
        have hkn9 := hkn.out
        have hwn9 := hwn.out
        go_wp2_with (at_builtin; go_loud (refine wpList_copy_rd wr rfl (.tmp 91) (.tmp 92) 26 rfl 40 ip2 _ 5 56 Tryz.underlying26 hip2 hp20 hp21 hp22 rfl (by omega) wr.heap.size rfl rfl (fun b => b < w.heap.size) C ws.length f (wrCells ws) rfl (hws.out.below_all R7.out.bel) (wrCells_one ws) (by simp only [maxLen]; omega) (by omega) ?_); intro A8 c8 w8 hown8 hbel8; have hown8 := hid hown8; have hbel8 := hid hbel8)
        have R8 := hid (R7.out.below hbel8.out)
        have hs7 := hid hbel8.out.size
        clear hbel8 hkn9 hwn9
        go_wp2_with fail
        refine (apply_any ws R8.out.a (Rd.of_own' hown8.out) (fun b hb hS => by have := R7.out.a.lt b hS; omega) hwok.out (by have := hwn.out; omega)).mono ?_
        rintro e w9 ⟨rfl, hP, hu⟩
        have R9 := hid (R8.out.stepA hP hu)
        clear hP hu R7 R8 hown8 hs7
        rename World => w9
        by_cases e1 : applyE s1 ws = 0
        · have h1 := hid e1
          rw [e1]
          clear e1 h0
          go_wp2_with fail
          go_loopw [17] (fun v wz => ∃ i : Nat, v = .int .i64 i ∧ i ≤ ws.length ∧ TT w S S2 wz g g2 (applyS s1 ws) (applyR s1 ws (t % ws.length) i)) (fun v _ => ws.length - (intOf v).toNat)
          case atStart => exact ⟨0, rfl, Nat.zero_le _, R9.out⟩
          case round =>
            clear R9
            obtain ⟨i, rfl, hi, R0⟩ := hrel
            have R := R0
            clear R0
            by_cases hlt : i < ws.length
            · as_aux_lemma =>
              have i1 : (i : Int) < (ws.length : Int) := by omega
              have hnz : ¬ ((ws.length : Int) = 0) := by omega
              have hn100 := hwn.out
              have htt := ht.out
              have hm1 : Int.tmod (t : Int) (ws.length : Int) = ((t % ws.length : Nat) : Int) := by rw [Int.tmod_eq_emod_of_nonneg (by omega)]; omega
              have hm2 : t % ws.length < ws.length := Nat.mod_lt _ (by omega)
              obtain ⟨q, hq⟩ : ∃ q, q = t % ws.length := ⟨_, rfl⟩
              rw [← hq] at hm1 hm2 R ⊢
              obtain ⟨j, hj⟩ : ∃ j, j = (i + q) % ws.length := ⟨_, rfl⟩
              have hjl : j < ws.length := by rw [hj]; exact Nat.mod_lt _ (by omega)
              have hw1 : IntKind.i64.wrap ((q : Nat) : Int) = (q : Int) := by rw [IntKind.wrap_i64]; omega
              have hw2 : IntKind.i64.wrap ((i : Int) + (q : Int)) = ((i + q : Nat) : Int) := by rw [IntKind.wrap_i64]; omega
              have hm3 : ((i : Int) + (q : Int)) % (ws.length : Int) = (j : Int) := by rw [hj, Int.natCast_emod, Int.natCast_add]
              have hw3 : IntKind.i64.wrap (j : Int) = (j : Int) := by rw [IntKind.wrap_i64]; omega
              have i2 : (j : Int) < (ws.length : Int) := by omega
              have hw4 : IntKind.i64.wrap ((i : Int) + 1) = (i : Int) + 1 := by rw [IntKind.wrap_i64]; omega
              have hq9 := hid hm2
              have hj9 := hid hj
              have hjl9 := hid hjl
              have hlt9 := hid hlt
              clear hn100 htt hm2 hq hj hjl hlt
              have R := hid R
              obtain ⟨b9, o9, hA9, _, _, y0, y1, y2, y3, y4⟩ := rd_wr (hws.out.below_all R.out.bel) hjl9.out
              obtain rfl := hA9
              have hst : Hid (applyE (applyR s1 ws q i) [ws[j]'hjl9.out] = 0 ∧ applyS (applyR s1 ws q i) [ws[j]'hjl9.out] = applyR s1 ws q (i + 1)) := hid (by
                have hj := hj9.out
                subst hj
                exact applyR_step h1.out hq9.out hlt9.out)
              have hsz := hid (hwok.out _ (List.getElem_mem hjl9.out))
              generalize ws[j] = x at *
              go_wp2_with fail
              refine (num_any _ _).mono ?_
              rintro e wq ⟨rfl, hwq⟩
              obtain rfl := hwq.symm
              go_wp2_with fail
              refine (num_any _ _).mono ?_
              rintro e wq ⟨rfl, hwq⟩
              obtain rfl := hwq.symm
              go_wp2_with fail
              have hbA : Below wr.heap.size wr (wr.alloc (.cells #[.string x.key, .bool x.gone, .int .i64 x.v.k, .int .i64 x.v.n, .string x.v.s] 40)) := (Below.refl _ _).alloc (Nat.le_refl _) _
              refine (apply_any (c := 1) [x] (R.out.b.below hbA) (Rd.new wr 40 5 1 #[.string x.key, .bool x.gone, .int .i64 x.v.k, .int .i64 x.v.n, .string x.v.s] wr.heap.size rfl rfl) (fun b hb hS => by have := R.out.b.lt b hS; omega) (fun k hk => by rw [List.mem_singleton.1 hk]; exact hsz.out) (by simp)).mono ?_
              rintro e w8 ⟨rfl, hP, hu⟩
              rw [hst.out.2] at hP
              rw [hst.out.1]
              have R8 := hid ((R.out.below hbA).stepB hP hu)
              clear hP hu hbA R hst
              go_wp2_with fail
              refine (num_any _ _).mono ?_
              rintro e wq ⟨rfl, hwq⟩
              obtain rfl := hwq.symm
              go_wp2_with fail
              go_roundw
              case rel => exact ⟨i + 1, by go_num, hlt9.out, R8.out⟩
              case measure => simp [intOf]; have := hlt9.out; omega
            · obtain rfl : i = ws.length := by omega
              rw [applyR_end hok1.out h1.out] at R
              have R := hid R
              have hRng : Hid (RngL (applyS s1 ws).L) := hid (rng_apply hR1.out hwv.out)
              have hE8 := hid (hE.out.below R.out.bel)
              clear hlt hi h1
              generalize applyS s1 ws = s2 at *
              go_wp2_with fail
              refine (num_any _ _).mono ?_
              rintro e wq ⟨rfl, hwq⟩
              obtain rfl := hwq.symm
              go_wp2_with fail
              refine (num_any _ _).mono ?_
              rintro e wq ⟨rfl, hwq⟩
              obtain rfl := hwq.symm
              go_upto_region 21 with fail
              refine wp_region_held_drew (S := fun _ => True) (by kernel_rfl) ?_ (fun hHeld => ?_)
              · exact True.intro
              have RD := hid (R.out.below (Below.refl _ _).drew)
              have hED := hid (hE.out.below RD.out.bel)
              generalize World.drew _ = wd at *
              refine wpAnyH_take (i := 0) (v := ?v1) rfl (by kernel_rfl) (by kernel_rfl) (by kernel_rfl) (fun _ _ _ h => h) (Or.inl ⟨by rfl, ?hy1⟩) (by assumption) ?rest1
              case hy1 => intro w' hSw; (try dsimp only at hSw); go_simp; try with_reducible rfl
              (try simp only [Act.put, List.setIfInBounds_toArray, List.set_cons_zero, List.set_cons_succ, List.getElem_toArray, List.getElem_cons_zero, List.getElem_cons_succ])
              refine wpAnyH_ready (rs := [1]) (by kernel_rfl) (by simp) ?_
              refine AllReadyH.cons rfl (fun K hK => ?_) AllReadyH.nil
              go_simp
              refine (num_any _ _).mono ?_
              rintro e wq ⟨rfl, hwq⟩
              obtain rfl := hwq.symm
              refine hK.out _ _ ?_ (fun hHeld => ?_)
              · exact True.intro
              clear hK K
              (try simp only [Act.put, List.setIfInBounds_toArray, List.set_cons_zero, List.set_cons_succ, List.getElem_toArray, List.getElem_cons_zero, List.getElem_cons_succ])
              refine wpAnyH_take (i := 2) (v := ?v2) rfl (by kernel_rfl) (by kernel_rfl) (by kernel_rfl) (fun _ _ _ h => h) (Or.inl ⟨by rfl, ?hy2⟩) (by assumption) ?rest2
              case hy2 => intro w' hSw; (try dsimp only at hSw); go_simp; try with_reducible rfl
              (try simp only [Act.put, List.setIfInBounds_toArray, List.set_cons_zero, List.set_cons_succ, List.getElem_toArray, List.getElem_cons_zero, List.getElem_cons_succ])
              refine wpAnyH_take (i := 3) (v := ?v3) rfl (by kernel_rfl) (by kernel_rfl) (by kernel_rfl) (fun _ _ _ h => h) (Or.inl ⟨by rfl, ?hy3⟩) (by assumption) ?rest3
              case hy3 => intro w' hSw; (try dsimp only at hSw); go_simp; try with_reducible rfl
              (try simp only [Act.put, List.setIfInBounds_toArray, List.set_cons_zero, List.set_cons_succ, List.getElem_toArray, List.getElem_cons_zero, List.getElem_cons_succ])
              refine wpAnyH_take (i := 4) (v := ?v4) rfl (by kernel_rfl) (by kernel_rfl) (by kernel_rfl) (fun _ _ _ h => h) (Or.inl ⟨by rfl, ?hy4⟩) (by assumption) ?rest4
              case hy4 => intro w' hSw; (try dsimp only at hSw); go_simp; try with_reducible rfl
              (try simp only [Act.put, List.setIfInBounds_toArray, List.set_cons_zero, List.set_cons_succ, List.getElem_toArray, List.getElem_cons_zero, List.getElem_cons_succ])
              refine wpAnyH_ready (rs := [5]) (by kernel_rfl) (by simp) ?_
              refine AllReadyH.cons rfl (fun K hK => ?_) AllReadyH.nil
              rw [if_pos (by rfl)]
              go_simp
              refine (num_any _ _).mono ?_
              rintro e wq ⟨rfl, hwq⟩
              obtain rfl := hwq.symm
              refine hK.out _ _ ?_ (fun hHeld => ?_)
              · exact True.intro
              clear hK K
              (try simp only [Act.put, List.setIfInBounds_toArray, List.set_cons_zero, List.set_cons_succ, List.getElem_toArray, List.getElem_cons_zero, List.getElem_cons_succ])
              refine wpAnyH_take (i := 6) (v := ?v5) rfl (by kernel_rfl) (by kernel_rfl) (by kernel_rfl) (fun _ _ _ h => h) (Or.inl ⟨by rfl, ?hy5⟩) (by assumption) ?rest5
              case hy5 => intro w' hSw; (try dsimp only at hSw); go_simp; try with_reducible rfl
              (try simp only [Act.put, List.setIfInBounds_toArray, List.set_cons_zero, List.set_cons_succ, List.getElem_toArray, List.getElem_cons_zero, List.getElem_cons_succ])
              refine wpAnyH_take (i := 7) (v := ?v6) rfl (by kernel_rfl) (by kernel_rfl) (by kernel_rfl) (fun _ _ _ h => h) (Or.inl ⟨by rfl, ?hy6⟩) (by assumption) ?rest6
              case hy6 => intro w' hSw; (try dsimp only at hSw); go_simp; try with_reducible rfl
              (try simp only [Act.put, List.setIfInBounds_toArray, List.set_cons_zero, List.set_cons_succ, List.getElem_toArray, List.getElem_cons_zero, List.getElem_cons_succ])
              refine wpAnyH_take (i := 8) (v := ?v7) rfl (by kernel_rfl) (by kernel_rfl) (by kernel_rfl) (fun _ _ _ h => h) (Or.inl ⟨by rfl, ?hy7⟩) (by assumption) ?rest7
              case hy7 => intro w' hSw; (try dsimp only at hSw); go_simp; try with_reducible rfl
              (try simp only [Act.put, List.setIfInBounds_toArray, List.set_cons_zero, List.set_cons_succ, List.getElem_toArray, List.getElem_cons_zero, List.getElem_cons_succ])
              refine wpAnyH_take (i := 9) (v := ?v8) rfl (by kernel_rfl) (by kernel_rfl) (by kernel_rfl) (fun _ _ _ h => h) (Or.inl ⟨by rfl, ?hy8⟩) (by assumption) ?rest8
              case hy8 => intro w' hSw; (try dsimp only at hSw); go_simp; try with_reducible rfl
              (try simp only [Act.put, List.setIfInBounds_toArray, List.set_cons_zero, List.set_cons_succ, List.getElem_toArray, List.getElem_cons_zero, List.getElem_cons_succ])
              refine wpAnyH_take (i := 12) (v := ?v9) rfl (by kernel_rfl) (by kernel_rfl) (by kernel_rfl) (fun _ _ _ h => h) (Or.inl ⟨by rfl, ?hy9⟩) (by assumption) ?rest9
              case hy9 => intro w' hSw; (try dsimp only at hSw); go_simp; try with_reducible rfl
              (try simp only [Act.put, List.setIfInBounds_toArray, List.set_cons_zero, List.set_cons_succ, List.getElem_toArray, List.getElem_cons_zero, List.getElem_cons_succ])
              refine wpAnyH_ready (rs := [10]) (by kernel_rfl) (by simp) ?_
              refine AllReadyH.cons rfl (fun K hK => ?_) AllReadyH.nil
              rw [if_pos (by rfl)]
              go_simp
              refine (bytes_textB RD.out.a hED.out hRng.out).mono ?_
              rintro e w8 ⟨A8, n8, d8, rfl, hcv8, hb8⟩
              have hcv8 := hid hcv8
              have hb8 := hid hb8
              refine hK.out _ _ ?_ (fun hHeld => ?_)
              · exact True.intro
              clear hK K
              (try simp only [Act.put, List.setIfInBounds_toArray, List.set_cons_zero, List.set_cons_succ, List.getElem_toArray, List.getElem_cons_zero, List.getElem_cons_succ])
              refine wpAnyH_more (S' := fun w'' => Below w8.heap.size w8 w'') (fun _ _ => True.intro) _ _ _ _ ?_
              have hHeld := Below.refl w8.heap.size w8
              refine wpAnyH_take (i := 11) (v := ?v10) rfl (by kernel_rfl) (by kernel_rfl) (by kernel_rfl) (fun _ _ _ h => h) (Or.inl ⟨by rfl, ?hy10⟩) (by assumption) ?rest10
              case hy10 => intro w' hSw; have hq := hcv8.out w' hSw; (try dsimp only at hSw); go_simp; try with_reducible rfl
              (try simp only [Act.put, List.setIfInBounds_toArray, List.set_cons_zero, List.set_cons_succ, List.getElem_toArray, List.getElem_cons_zero, List.getElem_cons_succ])
              refine wpAnyH_ready (rs := [13]) (by kernel_rfl) (by simp) ?_
              refine AllReadyH.cons rfl (fun K hK => ?_) AllReadyH.nil
              rw [if_pos (by rfl)]
              go_simp
              refine (bytes_textB (RD.out.b.below hb8.out) (hED.out.below hb8.out) hRng.out).mono ?_
              rintro e w9 ⟨A9, n9, d9, rfl, hcv9, hb9⟩
              have hcv9 := hid hcv9
              have hb9 := hid hb9
              refine hK.out _ _ ?_ (fun hHeld => ?_)
              · exact hb9.out
              clear hK K
              (try simp only [Act.put, List.setIfInBounds_toArray, List.set_cons_zero, List.set_cons_succ, List.getElem_toArray, List.getElem_cons_zero, List.getElem_cons_succ])
              refine wpAnyH_more (S' := fun w'' => Below w9.heap.size w9 w'') (fun w h => hb9.out.trans (Below.mono h hb9.out.size)) _ _ _ _ ?_
              have hHeld := Below.refl w9.heap.size w9
              refine wpAnyH_take (i := 14) (v := ?v11) rfl (by kernel_rfl) (by kernel_rfl) (by kernel_rfl) (fun _ _ _ h => h) (Or.inl ⟨by rfl, ?hy11⟩) (by assumption) ?rest11
              case hy11 => intro w' hSw; have hq := hcv9.out w' hSw; (try dsimp only at hSw); go_simp; try with_reducible rfl
              (try simp only [Act.put, List.setIfInBounds_toArray, List.set_cons_zero, List.set_cons_succ, List.getElem_toArray, List.getElem_cons_zero, List.getElem_cons_succ])
              refine wpAnyH_take (i := 15) (v := ?v12) rfl (by kernel_rfl) (by kernel_rfl) (by kernel_rfl) (fun _ _ _ h => h) (Or.inl ⟨by rfl, ?hy12⟩) (by assumption) ?rest12
              case hy12 => intro w' hSw; (try dsimp only at hSw); go_simp; try with_reducible rfl
              (try simp only [Act.put, List.setIfInBounds_toArray, List.set_cons_zero, List.set_cons_succ, List.getElem_toArray, List.getElem_cons_zero, List.getElem_cons_succ])
              refine wpAnyH_take (i := 16) (v := ?v13) rfl (by kernel_rfl) (by kernel_rfl) (by kernel_rfl) (fun _ _ _ h => h) (Or.inl ⟨by rfl, ?hy13⟩) (by assumption) ?rest13
              case hy13 => intro w' hSw; (try dsimp only at hSw); go_simp; try with_reducible rfl
              (try simp only [Act.put, List.setIfInBounds_toArray, List.set_cons_zero, List.set_cons_succ, List.getElem_toArray, List.getElem_cons_zero, List.getElem_cons_succ])
              refine wpAnyH_take (i := 17) (v := ?v14) rfl (by kernel_rfl) (by kernel_rfl) (by kernel_rfl) (fun _ _ _ h => h) (Or.inl ⟨by rfl, ?hy14⟩) (by assumption) ?rest14
              case hy14 => intro w' hSw; (try dsimp only at hSw); go_simp; try with_reducible rfl
              (try simp only [Act.put, List.setIfInBounds_toArray, List.set_cons_zero, List.set_cons_succ, List.getElem_toArray, List.getElem_cons_zero, List.getElem_cons_succ])
              refine wpAnyH_ready (rs := [18]) (by kernel_rfl) (by simp) ?_
              refine AllReadyH.cons rfl (fun K hK => ?_) AllReadyH.nil
              rw [if_pos (by rfl)]
              go_simp
              refine (live_any _).mono ?_
              rintro e wv ⟨rfl, hbv⟩
              have hfb : Hid (Below w.heap.size w wv) := hid (((RD.out.bel.trans (hb8.out.mono RD.out.bel.size)).trans (hb9.out.mono (by have := RD.out.bel.size; have := hb8.out.size; omega))).trans (hbv.mono (by have := RD.out.bel.size; have := hb8.out.size; have := hb9.out.size; omega)))
              have hbv := hid hbv
              refine hK.out _ _ ?_ (fun hHeld => ?_)
              · exact hbv.out
              clear hK K
              (try simp only [Act.put, List.setIfInBounds_toArray, List.set_cons_zero, List.set_cons_succ, List.getElem_toArray, List.getElem_cons_zero, List.getElem_cons_succ])
              refine wpAnyH_take (i := 19) (v := ?v15) rfl (by kernel_rfl) (by kernel_rfl) (by kernel_rfl) (fun _ _ _ h => h) (Or.inl ⟨by rfl, ?hy15⟩) (by assumption) ?rest15
              case hy15 => intro w' hSw; (try dsimp only at hSw); go_simp; try with_reducible rfl
              (try simp only [Act.put, List.setIfInBounds_toArray, List.set_cons_zero, List.set_cons_succ, List.getElem_toArray, List.getElem_cons_zero, List.getElem_cons_succ])
              refine wpAnyH_take (i := 20) (v := ?v16) rfl (by kernel_rfl) (by kernel_rfl) (by kernel_rfl) (fun _ _ _ h => h) (Or.inl ⟨by rfl, ?hy16⟩) (by assumption) ?rest16
              case hy16 => intro w' hSw; (try dsimp only at hSw); go_simp; try with_reducible rfl
              (try simp only [Act.put, List.setIfInBounds_toArray, List.set_cons_zero, List.set_cons_succ, List.getElem_toArray, List.getElem_cons_zero, List.getElem_cons_succ])
              refine wpAnyH_done (by kernel_rfl) ?_ _
              go_wp2_with fail
              go_ret
              exact ⟨rfl, hfb.out⟩
        · as_aux_lemma =>
          have t3 : (applyE s1 ws == 0) = false := by simpa using e1
          have t4 : (applyE s1 ws != 0) = true := by simpa using e1
          generalize applyE s1 ws = n2 at *
          clear e1 h0
          have R := R9
          clear R9
          go_wp2_with fail
          go_loopw [17] (fun v wz => v = .int .i64 0 ∧ wz = w9) (fun v _ => 0)
          case atStart => exact ⟨rfl, rfl⟩
          case round =>
            obtain ⟨rfl, hwz⟩ := hrel
            obtain rfl := hwz.symm
            go_wp2_with fail
            refine (num_any _ _).mono ?_
            rintro e wq ⟨rfl, hwq⟩
            obtain rfl := hwq.symm
            go_wp2_with fail
            refine (num_any _ _).mono ?_
            rintro e wq ⟨rfl, hwq⟩
            obtain rfl := hwq.symm
            go_upto_region 21 with fail
            refine wp_region_held_drew (S := fun _ => True) (by kernel_rfl) ?_ (fun hHeld => ?_)
            · exact True.intro
            have RD := hid (R.out.below (Below.refl _ _).drew)
            have hED := hid (hE.out.below RD.out.bel)
            generalize World.drew _ = wd at *
            refine wpAnyH_take (i := 0) (v := ?v17) rfl (by kernel_rfl) (by kernel_rfl) (by kernel_rfl) (fun _ _ _ h => h) (Or.inl ⟨by rfl, ?hy17⟩) (by assumption) ?rest17
            case hy17 => intro w' hSw; (try dsimp only at hSw); go_simp; try with_reducible rfl
            (try simp only [Act.put, List.setIfInBounds_toArray, List.set_cons_zero, List.set_cons_succ, List.getElem_toArray, List.getElem_cons_zero, List.getElem_cons_succ])
            refine wpAnyH_ready (rs := [1]) (by kernel_rfl) (by simp) ?_
            refine AllReadyH.cons rfl (fun K hK => ?_) AllReadyH.nil
            go_simp
            refine (num_any _ _).mono ?_
            rintro e wq ⟨rfl, hwq⟩
            obtain rfl := hwq.symm
            refine hK.out _ _ ?_ (fun hHeld => ?_)
            · exact True.intro
            clear hK K
            (try simp only [Act.put, List.setIfInBounds_toArray, List.set_cons_zero, List.set_cons_succ, List.getElem_toArray, List.getElem_cons_zero, List.getElem_cons_succ])
            refine wpAnyH_take (i := 2) (v := ?v18) rfl (by kernel_rfl) (by kernel_rfl) (by kernel_rfl) (fun _ _ _ h => h) (Or.inl ⟨by rfl, ?hy18⟩) (by assumption) ?rest18
            case hy18 => intro w' hSw; (try dsimp only at hSw); go_simp; try with_reducible rfl
            (try simp only [Act.put, List.setIfInBounds_toArray, List.set_cons_zero, List.set_cons_succ, List.getElem_toArray, List.getElem_cons_zero, List.getElem_cons_succ])
            refine wpAnyH_take (i := 3) (v := ?v19) rfl (by kernel_rfl) (by kernel_rfl) (by kernel_rfl) (fun _ _ _ h => h) (Or.inl ⟨by rfl, ?hy19⟩) (by assumption) ?rest19
            case hy19 => intro w' hSw; (try dsimp only at hSw); go_simp; try with_reducible rfl
            (try simp only [Act.put, List.setIfInBounds_toArray, List.set_cons_zero, List.set_cons_succ, List.getElem_toArray, List.getElem_cons_zero, List.getElem_cons_succ])
            refine wpAnyH_take (i := 4) (v := ?v20) rfl (by kernel_rfl) (by kernel_rfl) (by kernel_rfl) (fun _ _ _ h => h) (Or.inl ⟨by rfl, ?hy20⟩) (by assumption) ?rest20
            case hy20 => intro w' hSw; (try dsimp only at hSw); go_simp; try with_reducible rfl
            (try simp only [Act.put, List.setIfInBounds_toArray, List.set_cons_zero, List.set_cons_succ, List.getElem_toArray, List.getElem_cons_zero, List.getElem_cons_succ])
            refine wpAnyH_ready (rs := [5]) (by kernel_rfl) (by simp) ?_
            refine AllReadyH.cons rfl (fun K hK => ?_) AllReadyH.nil
            rw [if_pos (by rfl)]
            go_simp
            refine (num_any _ _).mono ?_
            rintro e wq ⟨rfl, hwq⟩
            obtain rfl := hwq.symm
            refine hK.out _ _ ?_ (fun hHeld => ?_)
            · exact True.intro
            clear hK K
            (try simp only [Act.put, List.setIfInBounds_toArray, List.set_cons_zero, List.set_cons_succ, List.getElem_toArray, List.getElem_cons_zero, List.getElem_cons_succ])
            refine wpAnyH_take (i := 6) (v := ?v21) rfl (by kernel_rfl) (by kernel_rfl) (by kernel_rfl) (fun _ _ _ h => h) (Or.inl ⟨by rfl, ?hy21⟩) (by assumption) ?rest21
            case hy21 => intro w' hSw; (try dsimp only at hSw); go_simp; try with_reducible rfl
            (try simp only [Act.put, List.setIfInBounds_toArray, List.set_cons_zero, List.set_cons_succ, List.getElem_toArray, List.getElem_cons_zero, List.getElem_cons_succ])
            refine wpAnyH_take (i := 7) (v := ?v22) rfl (by kernel_rfl) (by kernel_rfl) (by kernel_rfl) (fun _ _ _ h => h) (Or.inl ⟨by rfl, ?hy22⟩) (by assumption) ?rest22
            case hy22 => intro w' hSw; (try dsimp only at hSw); go_simp; try with_reducible rfl
            (try simp only [Act.put, List.setIfInBounds_toArray, List.set_cons_zero, List.set_cons_succ, List.getElem_toArray, List.getElem_cons_zero, List.getElem_cons_succ])
            refine wpAnyH_take (i := 8) (v := ?v23) rfl (by kernel_rfl) (by kernel_rfl) (by kernel_rfl) (fun _ _ _ h => h) (Or.inl ⟨by rfl, ?hy23⟩) (by assumption) ?rest23
            case hy23 => intro w' hSw; (try dsimp only at hSw); go_simp; try with_reducible rfl
            (try simp only [Act.put, List.setIfInBounds_toArray, List.set_cons_zero, List.set_cons_succ, List.getElem_toArray, List.getElem_cons_zero, List.getElem_cons_succ])
            refine wpAnyH_take (i := 9) (v := undef) rfl (by kernel_rfl) (by kernel_rfl) (by kernel_rfl) (fun _ _ _ h => h) (Or.inr ⟨by rfl, rfl⟩) (by assumption) ?_
            (try simp only [Act.put, List.setIfInBounds_toArray, List.set_cons_zero, List.set_cons_succ, List.getElem_toArray, List.getElem_cons_zero, List.getElem_cons_succ])
            refine wpAnyH_take (i := 10) (v := undef) rfl (by kernel_rfl) (by kernel_rfl) (by kernel_rfl) (fun _ _ _ h => h) (Or.inr ⟨by rfl, rfl⟩) (by assumption) ?_
            (try simp only [Act.put, List.setIfInBounds_toArray, List.set_cons_zero, List.set_cons_succ, List.getElem_toArray, List.getElem_cons_zero, List.getElem_cons_succ])
            refine wpAnyH_take (i := 11) (v := undef) rfl (by kernel_rfl) (by kernel_rfl) (by kernel_rfl) (fun _ _ _ h => h) (Or.inr ⟨by rfl, rfl⟩) (by assumption) ?_
            (try simp only [Act.put, List.setIfInBounds_toArray, List.set_cons_zero, List.set_cons_succ, List.getElem_toArray, List.getElem_cons_zero, List.getElem_cons_succ])
            refine wpAnyH_take (i := 12) (v := undef) rfl (by kernel_rfl) (by kernel_rfl) (by kernel_rfl) (fun _ _ _ h => h) (Or.inr ⟨by rfl, rfl⟩) (by assumption) ?_
            (try simp only [Act.put, List.setIfInBounds_toArray, List.set_cons_zero, List.set_cons_succ, List.getElem_toArray, List.getElem_cons_zero, List.getElem_cons_succ])
            refine wpAnyH_take (i := 13) (v := undef) rfl (by kernel_rfl) (by kernel_rfl) (by kernel_rfl) (fun _ _ _ h => h) (Or.inr ⟨by rfl, rfl⟩) (by assumption) ?_
            (try simp only [Act.put, List.setIfInBounds_toArray, List.set_cons_zero, List.set_cons_succ, List.getElem_toArray, List.getElem_cons_zero, List.getElem_cons_succ])
            refine wpAnyH_take (i := 14) (v := undef) rfl (by kernel_rfl) (by kernel_rfl) (by kernel_rfl) (fun _ _ _ h => h) (Or.inr ⟨by rfl, rfl⟩) (by assumption) ?_
            (try simp only [Act.put, List.setIfInBounds_toArray, List.set_cons_zero, List.set_cons_succ, List.getElem_toArray, List.getElem_cons_zero, List.getElem_cons_succ])
            refine wpAnyH_take (i := 15) (v := undef) rfl (by kernel_rfl) (by kernel_rfl) (by kernel_rfl) (fun _ _ _ h => h) (Or.inr ⟨by rfl, rfl⟩) (by assumption) ?_
            (try simp only [Act.put, List.setIfInBounds_toArray, List.set_cons_zero, List.set_cons_succ, List.getElem_toArray, List.getElem_cons_zero, List.getElem_cons_succ])
            refine wpAnyH_take (i := 16) (v := ?v24) rfl (by kernel_rfl) (by kernel_rfl) (by kernel_rfl) (fun _ _ _ h => h) (Or.inl ⟨by rfl, ?hy24⟩) (by assumption) ?rest24
            case hy24 => intro w' hSw; (try dsimp only at hSw); go_simp; try with_reducible rfl
            (try simp only [Act.put, List.setIfInBounds_toArray, List.set_cons_zero, List.set_cons_succ, List.getElem_toArray, List.getElem_cons_zero, List.getElem_cons_succ])
            refine wpAnyH_take (i := 17) (v := ?v25) rfl (by kernel_rfl) (by kernel_rfl) (by kernel_rfl) (fun _ _ _ h => h) (Or.inl ⟨by rfl, ?hy25⟩) (by assumption) ?rest25
            case hy25 => intro w' hSw; (try dsimp only at hSw); go_simp; try with_reducible rfl
            (try simp only [Act.put, List.setIfInBounds_toArray, List.set_cons_zero, List.set_cons_succ, List.getElem_toArray, List.getElem_cons_zero, List.getElem_cons_succ])
            refine wpAnyH_ready (rs := [18]) (by kernel_rfl) (by simp) ?_
            refine AllReadyH.cons rfl (fun K hK => ?_) AllReadyH.nil
            rw [if_pos (by rfl)]
            go_simp
            refine (live_any _).mono ?_
            rintro e wv ⟨rfl, hbv⟩
            have hfb : Hid (Below w.heap.size w wv) := hid (RD.out.bel.trans (hbv.mono RD.out.bel.size))
            clear hbv
            refine hK.out _ _ ?_ (fun hHeld => ?_)
            · exact True.intro
            clear hK K
            (try simp only [Act.put, List.setIfInBounds_toArray, List.set_cons_zero, List.set_cons_succ, List.getElem_toArray, List.getElem_cons_zero, List.getElem_cons_succ])
            refine wpAnyH_take (i := 19) (v := ?v26) rfl (by kernel_rfl) (by kernel_rfl) (by kernel_rfl) (fun _ _ _ h => h) (Or.inl ⟨by rfl, ?hy26⟩) (by assumption) ?rest26
            case hy26 => intro w' hSw; (try dsimp only at hSw); go_simp; try with_reducible rfl
            (try simp only [Act.put, List.setIfInBounds_toArray, List.set_cons_zero, List.set_cons_succ, List.getElem_toArray, List.getElem_cons_zero, List.getElem_cons_succ])
            refine wpAnyH_take (i := 20) (v := ?v27) rfl (by kernel_rfl) (by kernel_rfl) (by kernel_rfl) (fun _ _ _ h => h) (Or.inl ⟨by rfl, ?hy27⟩) (by assumption) ?rest27
            case hy27 => intro w' hSw; (try dsimp only at hSw); go_simp; try with_reducible rfl
            (try simp only [Act.put, List.setIfInBounds_toArray, List.set_cons_zero, List.set_cons_succ, List.getElem_toArray, List.getElem_cons_zero, List.getElem_cons_succ])
            refine wpAnyH_done (by kernel_rfl) ?_ _
            go_wp2_with fail
            go_ret
            exact ⟨rfl, hfb.out⟩
  · as_aux_lemma =>
    have t1 : (claimE s0 ks == 0) = false := by simpa using e0
    have t2 : (claimE s0 ks != 0) = true := by simpa using e0
    generalize claimE s0 ks = n1 at *
    generalize claimS s0 ks = s1 at *
    clear e0
    have R7 := R6
    clear R6
    go_wp2_with fail
    go_loopw [14] (fun v wz => v = .int .i64 0 ∧ wz = w6) (fun v _ => 0)
    case atStart => exact ⟨rfl, rfl⟩
    case round =>
      obtain ⟨rfl, hwz⟩ := hrel
      obtain rfl := hwz.symm
      go_wp2_with fail
      refine (num_any _ _).mono ?_
      rintro e wq ⟨rfl, hwq⟩
      obtain rfl := hwq.symm
      have hkn9 := hkn.out
      have hwn9 := hwn.out
      go_wp2_with (at_builtin; go_loud (refine wpList_copy_rd w6 rfl (.tmp 91) (.tmp 92) 26 rfl 40 ip2 _ 5 56 Tryz.underlying26 hip2 hp20 hp21 hp22 rfl (by omega) w6.heap.size rfl rfl (fun b => b < w.heap.size) C ws.length f (wrCells ws) rfl (hws.out.below_all R7.out.bel) (wrCells_one ws) (by simp only [maxLen]; omega) (by omega) ?_); intro A8 c8 w8 hown8 hbel8; have hown8 := hid hown8; have hbel8 := hid hbel8)
      have R8 := hid (R7.out.below hbel8.out)
      have hs7 := hid hbel8.out.size
      clear hbel8 hkn9 hwn9
      go_wp2_with fail
      refine (apply_any ws R8.out.a (Rd.of_own' hown8.out) (fun b hb hS => by have := R7.out.a.lt b hS; omega) hwok.out (by have := hwn.out; omega)).mono ?_
      rintro e w9 ⟨rfl, hP, hu⟩
      have R9 := hid (R8.out.stepA hP hu)
      clear hP hu R7 R8 hown8 hs7
      rename World => w9
      have R := R9
      clear R9
      generalize applyE s1 ws = n2 at *
      go_wp2_with fail
      go_loopw [17] (fun v wz => v = .int .i64 0 ∧ wz = w9) (fun v _ => 0)
      case atStart => exact ⟨rfl, rfl⟩
      case round =>
        obtain ⟨rfl, hwz⟩ := hrel
        obtain rfl := hwz.symm
        go_wp2_with fail
        refine (num_any _ _).mono ?_
        rintro e wq ⟨rfl, hwq⟩
        obtain rfl := hwq.symm
        go_upto_region 21 with fail
        refine wp_region_held_drew (S := fun _ => True) (by kernel_rfl) ?_ (fun hHeld => ?_)
        · exact True.intro
        have RD := hid (R.out.below (Below.refl _ _).drew)
        have hED := hid (hE.out.below RD.out.bel)
        generalize World.drew _ = wd at *
        refine wpAnyH_take (i := 0) (v := ?v28) rfl (by kernel_rfl) (by kernel_rfl) (by kernel_rfl) (fun _ _ _ h => h) (Or.inl ⟨by rfl, ?hy28⟩) (by assumption) ?rest28
        case hy28 => intro w' hSw; (try dsimp only at hSw); go_simp; try with_reducible rfl
        (try simp only [Act.put, List.setIfInBounds_toArray, List.set_cons_zero, List.set_cons_succ, List.getElem_toArray, List.getElem_cons_zero, List.getElem_cons_succ])
        refine wpAnyH_ready (rs := [1]) (by kernel_rfl) (by simp) ?_
        refine AllReadyH.cons rfl (fun K hK => ?_) AllReadyH.nil
        go_simp
        refine (num_any _ _).mono ?_
        rintro e wq ⟨rfl, hwq⟩
        obtain rfl := hwq.symm
        refine hK.out _ _ ?_ (fun hHeld => ?_)
        · exact True.intro
        clear hK K
        (try simp only [Act.put, List.setIfInBounds_toArray, List.set_cons_zero, List.set_cons_succ, List.getElem_toArray, List.getElem_cons_zero, List.getElem_cons_succ])
        refine wpAnyH_take (i := 2) (v := ?v29) rfl (by kernel_rfl) (by kernel_rfl) (by kernel_rfl) (fun _ _ _ h => h) (Or.inl ⟨by rfl, ?hy29⟩) (by assumption) ?rest29
        case hy29 => intro w' hSw; (try dsimp only at hSw); go_simp; try with_reducible rfl
        (try simp only [Act.put, List.setIfInBounds_toArray, List.set_cons_zero, List.set_cons_succ, List.getElem_toArray, List.getElem_cons_zero, List.getElem_cons_succ])
        refine wpAnyH_take (i := 3) (v := ?v30) rfl (by kernel_rfl) (by kernel_rfl) (by kernel_rfl) (fun _ _ _ h => h) (Or.inl ⟨by rfl, ?hy30⟩) (by assumption) ?rest30
        case hy30 => intro w' hSw; (try dsimp only at hSw); go_simp; try with_reducible rfl
        (try simp only [Act.put, List.setIfInBounds_toArray, List.set_cons_zero, List.set_cons_succ, List.getElem_toArray, List.getElem_cons_zero, List.getElem_cons_succ])
        refine wpAnyH_take (i := 4) (v := undef) rfl (by kernel_rfl) (by kernel_rfl) (by kernel_rfl) (fun _ _ _ h => h) (Or.inr ⟨by rfl, rfl⟩) (by assumption) ?_
        (try simp only [Act.put, List.setIfInBounds_toArray, List.set_cons_zero, List.set_cons_succ, List.getElem_toArray, List.getElem_cons_zero, List.getElem_cons_succ])
        refine wpAnyH_take (i := 5) (v := undef) rfl (by kernel_rfl) (by kernel_rfl) (by kernel_rfl) (fun _ _ _ h => h) (Or.inr ⟨by rfl, rfl⟩) (by assumption) ?_
        (try simp only [Act.put, List.setIfInBounds_toArray, List.set_cons_zero, List.set_cons_succ, List.getElem_toArray, List.getElem_cons_zero, List.getElem_cons_succ])
        refine wpAnyH_take (i := 6) (v := undef) rfl (by kernel_rfl) (by kernel_rfl) (by kernel_rfl) (fun _ _ _ h => h) (Or.inr ⟨by rfl, rfl⟩) (by assumption) ?_
        (try simp only [Act.put, List.setIfInBounds_toArray, List.set_cons_zero, List.set_cons_succ, List.getElem_toArray, List.getElem_cons_zero, List.getElem_cons_succ])
        refine wpAnyH_take (i := 7) (v := ?v31) rfl (by kernel_rfl) (by kernel_rfl) (by kernel_rfl) (fun _ _ _ h => h) (Or.inl ⟨by rfl, ?hy31⟩) (by assumption) ?rest31
        case hy31 => intro w' hSw; (try dsimp only at hSw); go_simp; try with_reducible rfl
        (try simp only [Act.put, List.setIfInBounds_toArray, List.set_cons_zero, List.set_cons_succ, List.getElem_toArray, List.getElem_cons_zero, List.getElem_cons_succ])
        refine wpAnyH_take (i := 8) (v := ?v32) rfl (by kernel_rfl) (by kernel_rfl) (by kernel_rfl) (fun _ _ _ h => h) (Or.inl ⟨by rfl, ?hy32⟩) (by assumption) ?rest32
        case hy32 => intro w' hSw; (try dsimp only at hSw); go_simp; try with_reducible rfl
        (try simp only [Act.put, List.setIfInBounds_toArray, List.set_cons_zero, List.set_cons_succ, List.getElem_toArray, List.getElem_cons_zero, List.getElem_cons_succ])
        refine wpAnyH_take (i := 9) (v := undef) rfl (by kernel_rfl) (by kernel_rfl) (by kernel_rfl) (fun _ _ _ h => h) (Or.inr ⟨by rfl, rfl⟩) (by assumption) ?_
        (try simp only [Act.put, List.setIfInBounds_toArray, List.set_cons_zero, List.set_cons_succ, List.getElem_toArray, List.getElem_cons_zero, List.getElem_cons_succ])
        refine wpAnyH_take (i := 10) (v := undef) rfl (by kernel_rfl) (by kernel_rfl) (by kernel_rfl) (fun _ _ _ h => h) (Or.inr ⟨by rfl, rfl⟩) (by assumption) ?_
        (try simp only [Act.put, List.setIfInBounds_toArray, List.set_cons_zero, List.set_cons_succ, List.getElem_toArray, List.getElem_cons_zero, List.getElem_cons_succ])
        refine wpAnyH_take (i := 11) (v := undef) rfl (by kernel_rfl) (by kernel_rfl) (by kernel_rfl) (fun _ _ _ h => h) (Or.inr ⟨by rfl, rfl⟩) (by assumption) ?_
        (try simp only [Act.put, List.setIfInBounds_toArray, List.set_cons_zero, List.set_cons_succ, List.getElem_toArray, List.getElem_cons_zero, List.getElem_cons_succ])
        refine wpAnyH_take (i := 12) (v := undef) rfl (by kernel_rfl) (by kernel_rfl) (by kernel_rfl) (fun _ _ _ h => h) (Or.inr ⟨by rfl, rfl⟩) (by assumption) ?_
        (try simp only [Act.put, List.setIfInBounds_toArray, List.set_cons_zero, List.set_cons_succ, List.getElem_toArray, List.getElem_cons_zero, List.getElem_cons_succ])
        refine wpAnyH_take (i := 13) (v := undef) rfl (by kernel_rfl) (by kernel_rfl) (by kernel_rfl) (fun _ _ _ h => h) (Or.inr ⟨by rfl, rfl⟩) (by assumption) ?_
        (try simp only [Act.put, List.setIfInBounds_toArray, List.set_cons_zero, List.set_cons_succ, List.getElem_toArray, List.getElem_cons_zero, List.getElem_cons_succ])
        refine wpAnyH_take (i := 14) (v := undef) rfl (by kernel_rfl) (by kernel_rfl) (by kernel_rfl) (fun _ _ _ h => h) (Or.inr ⟨by rfl, rfl⟩) (by assumption) ?_
        (try simp only [Act.put, List.setIfInBounds_toArray, List.set_cons_zero, List.set_cons_succ, List.getElem_toArray, List.getElem_cons_zero, List.getElem_cons_succ])
        refine wpAnyH_take (i := 15) (v := undef) rfl (by kernel_rfl) (by kernel_rfl) (by kernel_rfl) (fun _ _ _ h => h) (Or.inr ⟨by rfl, rfl⟩) (by assumption) ?_
        (try simp only [Act.put, List.setIfInBounds_toArray, List.set_cons_zero, List.set_cons_succ, List.getElem_toArray, List.getElem_cons_zero, List.getElem_cons_succ])
        refine wpAnyH_take (i := 16) (v := ?v33) rfl (by kernel_rfl) (by kernel_rfl) (by kernel_rfl) (fun _ _ _ h => h) (Or.inl ⟨by rfl, ?hy33⟩) (by assumption) ?rest33
        case hy33 => intro w' hSw; (try dsimp only at hSw); go_simp; try with_reducible rfl
        (try simp only [Act.put, List.setIfInBounds_toArray, List.set_cons_zero, List.set_cons_succ, List.getElem_toArray, List.getElem_cons_zero, List.getElem_cons_succ])
        refine wpAnyH_take (i := 17) (v := ?v34) rfl (by kernel_rfl) (by kernel_rfl) (by kernel_rfl) (fun _ _ _ h => h) (Or.inl ⟨by rfl, ?hy34⟩) (by assumption) ?rest34
        case hy34 => intro w' hSw; (try dsimp only at hSw); go_simp; try with_reducible rfl
        (try simp only [Act.put, List.setIfInBounds_toArray, List.set_cons_zero, List.set_cons_succ, List.getElem_toArray, List.getElem_cons_zero, List.getElem_cons_succ])
        refine wpAnyH_ready (rs := [18]) (by kernel_rfl) (by simp) ?_
        refine AllReadyH.cons rfl (fun K hK => ?_) AllReadyH.nil
        rw [if_pos (by rfl)]
        go_simp
        refine (live_any _).mono ?_
        rintro e wv ⟨rfl, hbv⟩
        have hfb : Hid (Below w.heap.size w wv) := hid (RD.out.bel.trans (hbv.mono RD.out.bel.size))
        clear hbv
        refine hK.out _ _ ?_ (fun hHeld => ?_)
        · exact True.intro
        clear hK K
        (try simp only [Act.put, List.setIfInBounds_toArray, List.set_cons_zero, List.set_cons_succ, List.getElem_toArray, List.getElem_cons_zero, List.getElem_cons_succ])
        refine wpAnyH_take (i := 19) (v := ?v35) rfl (by kernel_rfl) (by kernel_rfl) (by kernel_rfl) (fun _ _ _ h => h) (Or.inl ⟨by rfl, ?hy35⟩) (by assumption) ?rest35
        case hy35 => intro w' hSw; (try dsimp only at hSw); go_simp; try with_reducible rfl
        (try simp only [Act.put, List.setIfInBounds_toArray, List.set_cons_zero, List.set_cons_succ, List.getElem_toArray, List.getElem_cons_zero, List.getElem_cons_succ])
        refine wpAnyH_take (i := 20) (v := ?v36) rfl (by kernel_rfl) (by kernel_rfl) (by kernel_rfl) (fun _ _ _ h => h) (Or.inl ⟨by rfl, ?hy36⟩) (by assumption) ?rest36
        case hy36 => intro w' hSw; (try dsimp only at hSw); go_simp; try with_reducible rfl
        (try simp only [Act.put, List.setIfInBounds_toArray, List.set_cons_zero, List.set_cons_succ, List.getElem_toArray, List.getElem_cons_zero, List.getElem_cons_succ])
        refine wpAnyH_done (by kernel_rfl) ?_ _
        go_wp2_with fail
        go_ret
        exact ⟨rfl, hfb.out⟩
end
end Go.Proofs.YtphglnenafdkaaaGreatDoor

namespace Go.Proofs.YtphglnenafdkaaaGreatDoor
open Go.RowKit Go.Deep Go.ChangeShapes
set_option linter.unusedVariables false

theorem bulk_app {H : Type} (l r : List (DataW H)) : Rows.uptoBulkAll (l ++ r) = Rows.uptoBulkAll l + Rows.uptoBulkAll r := by
  induction l with
  | nil => simp [Rows.uptoBulkAll]
  | cons x l ih => simp only [List.cons_append, Rows.uptoBulkAll, ih]; omega
theorem cell_lt {w : World} {a : Addr} {v : Value} (h : w.cell? a = some v) : a.block < w.heap.size := by
  by_cases hl : a.block < w.heap.size
  · exact hl
  · exfalso
    have : w.heap[a.block]? = none := by simp; omega
    unfold World.cell? at h
    split at h <;> simp_all
theorem add_plain (b o j : Nat) : (⟨b, o, none⟩ : Addr).add j = ⟨b, o + j, none⟩ := by
  unfold Addr.add; split <;> simp_all
theorem flat_len {α : Type} (f : α → List Value) (sz : Nat) (hf : ∀ a, (f a).length = sz) (us : List α) : (us.flatMap f).length = us.length * sz := by
  induction us with
  | nil => simp
  | cons r l ih => rw [List.flatMap_cons, List.length_append, hf, ih, List.length_cons, Nat.succ_mul]; omega
/-- rows chosen one by one -/
theorem pick {α H : Type} (D : Nat → DataW H) (μ : α → Nat) (R : Nat → α → Prop) : ∀ len : Nat, (∀ i, i < len → ∃ a, R i a ∧ μ a ≤ Rows.uptoBulk (D i)) →
    ∃ us : List α, us.length = len ∧ (∀ i (h : i < us.length), R i us[i]) ∧ (us.map μ).sum ≤ Rows.uptoBulkAll ((List.range len).map D) := by
  intro len
  induction len with
  | zero => intro _; exact ⟨[], rfl, fun i h => absurd h (by simp), by simp⟩
  | succ n ih =>
    intro h
    obtain ⟨us, hl, hR, hs⟩ := ih fun i hi => h i (by omega)
    obtain ⟨a, ha, hm⟩ := h n (by omega)
    refine ⟨us ++ [a], by simp [hl], fun i hi => ?_, ?_⟩
    · by_cases hin : i < us.length
      · rw [List.getElem_append_left hin]; exact hR i hin
      · have : i = us.length := by simp at hi; omega
        subst this
        rw [List.getElem_append_right (by omega)]
        simpa [hl] using ha
    · rw [List.range_succ, List.map_append (f := D), bulk_app]
      simp only [List.map_append, List.sum_append, List.map_cons, List.map_nil, List.sum_cons, List.sum_nil, Rows.uptoBulkAll]
      omega

/-- a slice's cells, element by element -/
theorem open_rows {α H : Type} {enc : TypeId × Value → H} {w : World} {base : Nat} {spare : Nat → Bool} {held : Bool} {t e : TypeId} {fuel : Nat} {cs : List Value} {x : DataW H × List MemPlace}
    (cf : α → List Value) (μ : α → Nat) (ok : α → Prop) (sz : Nat) (hsz : 0 < sz) (hcf : ∀ a, (cf a).length = sz) (ht : Tryz.prog.underlying t = some (.slice e)) (hce : Tryz.prog.cellsOf e = sz)
    (hE : ∀ n cs' y, DataW.trod enc Tryz.prog w base spare held n e cs' = some y → ∃ a, cs' = cf a ∧ ok a ∧ μ a ≤ Rows.uptoBulk y.1)
    (h : DataW.trod enc Tryz.prog w base spare held fuel t cs = some x) :
    ∃ (A : Option Addr) (us : List α) (c : Nat), cs = [.slice A us.length c] ∧ Rd (fun b => b < w.heap.size) w sz A us.length (us.flatMap cf) ∧ (∀ a ∈ us, ok a) ∧ (us.map μ).sum + 1 ≤ Rows.uptoBulk x.1 := by
  rcases open_slice ht h with ⟨rfl, rfl⟩ | ⟨a, len, cap, m, n, D, Pl, rfl, hb, hl, hm, hmm, rfl, hx⟩
  · exact ⟨none, [], 0, rfl, Rd.nil_, by simp, by simp [Rows.uptoBulk]⟩
  · have hlm : len ≤ m := by rw [hmm]; split <;> omega
    obtain ⟨us, hal, hR, hs⟩ := pick D μ (fun i r => ok r ∧ ∃ cs', cs' = cf r ∧ w.cells? base (a.add (i * sz)) sz = some cs') len (fun i hi => by
      obtain ⟨cs', h1, h2⟩ := hx i (by omega)
      rw [hce] at h1
      obtain ⟨r, e1, e2, e3⟩ := hE _ _ _ h2
      exact ⟨r, ⟨e2, cs', e1, h1⟩, e3⟩)
    refine ⟨some a, us, cap, by rw [hal], ⟨?_, fun h0 => ?_⟩, fun r hr => ?_, ?_⟩
    · exact flat_len cf sz hcf us
    · obtain ⟨_, cs0, e1, e2⟩ := hR 0 h0
      obtain ⟨_, h3, h4⟩ := World.cells?_some e2
      have h5 := h4 0 hsz
      rw [List.getElem?_eq_getElem (by omega)] at h5
      simp at h5
      obtain ⟨b, o, sp⟩ := a
      have h8 : sp = none := by have := World.cell?_spot h5; simpa [Addr.add] using this
      have h9 : b < w.heap.size := by have := cell_lt h5; simpa [Addr.add] using this
      subst h8
      refine ⟨b, o, rfl, h9, h9, fun j u hu => ?_⟩
      have hj : j / sz < us.length := by
        have h1 := (List.getElem?_eq_some_iff.1 hu).1
        rw [flat_len cf sz hcf] at h1
        exact Nat.div_lt_of_lt_mul (by rw [Nat.mul_comm]; exact h1)
      have hjm := Nat.mod_lt j hsz
      have hdm : j / sz * sz + j % sz = j := by rw [Nat.mul_comm]; exact Nat.div_add_mod j sz
      obtain ⟨_, cs1, f1, f2⟩ := hR _ hj
      obtain ⟨_, f3, f4⟩ := World.cells?_some f2
      have f5 := f4 _ hjm
      rw [add_plain, add_plain, Nat.add_assoc, hdm] at f5
      rw [← hdm, aflat_at cf sz hcf us _ _ hj hjm, ← f1, ← f5] at hu
      exact hu
    · obtain ⟨i, hi, rfl⟩ := List.mem_iff_getElem.1 hr
      exact (hR i hi).1
    · simp only [Rows.uptoBulk]; omega

end Go.Proofs.YtphglnenafdkaaaGreatDoor

namespace Go.Proofs.YtphglnenafdkaaaGreatDoor
open Go.RowKit Go.Deep Go.ChangeShapes
set_option linter.unusedVariables false
set_option linter.unusedSimpArgs false

theorem cof_int : Tryz.prog.cellsOf 3 = 1 := by kernel_rfl
theorem cof_i64 : Tryz.prog.cellsOf 2 = 1 := by kernel_rfl
theorem cof_bool : Tryz.prog.cellsOf 4 = 1 := by kernel_rfl
theorem cof_str : Tryz.prog.cellsOf 9 = 1 := by kernel_rfl
theorem cof_strs : Tryz.prog.cellsOf 25 = 1 := by kernel_rfl
theorem cof_val : Tryz.prog.cellsOf 38 = 3 := by kernel_rfl
theorem cof_wr : Tryz.prog.cellsOf 40 = 5 := by kernel_rfl
theorem cof_wrs : Tryz.prog.cellsOf 26 = 1 := by kernel_rfl
theorem cof_act : Tryz.prog.cellsOf 51 = 3 := by kernel_rfl
theorem cof_acts : Tryz.prog.cellsOf 22 = 1 := by kernel_rfl
theorem cof_story : Tryz.prog.cellsOf 24 = 3 := by kernel_rfl
/-- an int64's range -/
def rng64 (n : Int) : Prop := -9223372036854775808 ≤ n ∧ n ≤ 9223372036854775807
theorem rng_wf {n : Int} (h : (Lit.int IntKind.i64 n).wf = true) : rng64 n := by
  unfold Lit.wf at h
  simp at h
  obtain ⟨h1, h2⟩ := h
  simp only [IntKind.min, IntKind.max] at h1 h2
  exact ⟨h1, h2⟩
def muK (k : ByteArray) : Nat := k.size + 1
def muW (x : Wr) : Nat := x.key.size + x.v.s.size + 2
def muA (a : SA) : Nat := (a.ks.map muK).sum + (a.ws.map muW).sum + 3
section
variable {α : Type}
theorem sum_mem {f : α → Nat} : ∀ {l : List α} {a : α}, a ∈ l → f a ≤ (l.map f).sum
  | b :: l, a, h => by
    rw [List.map_cons, List.sum_cons]
    rcases List.mem_cons.1 h with rfl | h
    · omega
    · have := sum_mem (f := f) h; omega
theorem sum_mono {f h : α → Nat} (hf : ∀ a, f a ≤ h a) : ∀ l : List α, (l.map f).sum ≤ (l.map h).sum
  | [] => Nat.le_refl _
  | b :: l => by
    rw [List.map_cons, List.sum_cons, List.map_cons, List.sum_cons]
    have := sum_mono hf l; have := hf b; omega
theorem sum_len {f : α → Nat} (hf : ∀ a, 1 ≤ f a) : ∀ l : List α, l.length ≤ (l.map f).sum
  | [] => Nat.le_refl _
  | b :: l => by
    rw [List.map_cons, List.sum_cons, List.length_cons]
    have := sum_len hf l; have := hf b; omega
end
theorem muK_one (k : ByteArray) : 1 ≤ muK k := by unfold muK; omega
theorem muW_one (x : Wr) : 1 ≤ muW x := by unfold muW; omega
theorem muA_part (a : SA) : partA a + 3 ≤ muA a := by
  have h1 := sum_len muK_one a.ks
  have h2 := sum_len muW_one a.ws
  unfold partA muA
  omega
theorem muA_ok {a : SA} (h : muA a ≤ 1048576) : okKs a.ks ∧ okWs a.ws := by
  unfold muA at h
  refine ⟨fun k hk => ?_, fun x hx => ?_⟩
  · have := sum_mem (f := muK) hk
    unfold muK at this h
    omega
  · have := sum_mem (f := muW) hx
    have : muW x ≤ 1048576 := by omega
    unfold muW at this
    constructor <;> omega
theorem story_fits {us : List SA} (h : (us.map muA).sum ≤ 1048576) : us.length ≤ 1048576 ∧ partsA us ≤ 1048576 ∧ ∀ a ∈ us, okKs a.ks ∧ okWs a.ws := by
  have h1 := sum_len (f := muA) (fun a => by have := muA_part a; omega) us
  have h2 := sum_mono (f := partA) (h := muA) (fun a => by have := muA_part a; omega) us
  refine ⟨by omega, by unfold partsA; omega, fun a ha => muA_ok ?_⟩
  have := sum_mem (f := muA) ha
  omega
section
variable {H : Type} {enc : TypeId × Value → H} {w : World} {base : Nat} {spare : Nat → Bool} {held : Bool} {fuel : Nat} {cs : List Value} {x : DataW H × List MemPlace}

theorem fieldAt {fs : Array Field} {xs : List (DataW H × List MemPlace)} {n : Nat} (hf : ∀ (i : Nat) (f : Field), fs[i]? = some f → DataW.trod enc Tryz.prog w base spare held n f.type ((cs.drop f.offset).take (Tryz.prog.cellsOf f.type)) = xs[i]?) (i : Nat) {f : Field} (T : TypeId) (o k : Nat) {y : DataW H × List MemPlace}
    (hi : fs[i]? = some f) (hT : f.type = T) (ho : f.offset = o) (hc : Tryz.prog.cellsOf T = k) (hx : xs[i]? = some y) : DataW.trod enc Tryz.prog w base spare held n T ((cs.drop o).take k) = some y := by
  have := hf i f hi
  rw [hT, ho, hc, hx] at this
  exact this
set_option maxRecDepth 100000 in
theorem open_vl (h : DataW.trod enc Tryz.prog w base spare held fuel 38 cs = some x) : ∃ v : Vl, cs = [.int .i64 v.k, .int .i64 v.n, .string v.s] ∧ v.s.size + 1 ≤ Rows.uptoBulk x.1 ∧ rng64 v.n := by
  obtain ⟨xs, n, _, rfl, hl, hlen, hf⟩ := DataW.trod_struct Tryz.underlying38 h
  rw [cof_val] at hl
  match cs, hl, xs, hlen with
  | [c0, c1, c2], _, [y0, y1, y2], _ =>
    have h0 := fieldAt hf 0 3 0 1 (y := y0) rfl rfl rfl cof_int rfl
    have h1 := fieldAt hf 1 2 1 1 (y := y1) rfl rfl rfl cof_i64 rfl
    have h2 := fieldAt hf 2 9 2 1 (y := y2) rfl rfl rfl cof_str rfl
    obtain ⟨k, e0, r0, _⟩ := DataW.trod_int Tryz.underlying3 (x := y0) h0
    obtain ⟨i, e1, r1, w1⟩ := DataW.trod_int Tryz.underlying2 (x := y1) h1
    obtain ⟨s, e2, r2, _⟩ := DataW.trod_string Tryz.underlying9 (x := y2) h2
    simp at e0 e1 e2
    subst e0 e1 e2
    refine ⟨⟨k, i, s⟩, rfl, ?_, rng_wf w1⟩
    rw [r2]
    simp only [Rows.uptoBulk, Rows.uptoBulkAll, List.map_cons, List.map_nil]
    have : s.data.toList.length = s.size := Array.length_toList
    omega
set_option maxRecDepth 100000 in
theorem open_texts (h : DataW.trod enc Tryz.prog w base spare held fuel 25 cs = some x) :
    ∃ (A : Option Addr) (l : List ByteArray) (c : Nat), cs = [.slice A l.length c] ∧ Rd (fun b => b < w.heap.size) w 1 A l.length (strs l) ∧ (l.map muK).sum + 1 ≤ Rows.uptoBulk x.1 := by
  obtain ⟨A, l, c, e, hr, ho, hb⟩ := open_rows (α := ByteArray) (fun s => [Value.string s]) muK (fun _ => True) 1 (by omega) (fun _ => rfl) Tryz.underlying25 cof_str (fun n cs' y hy => by
    obtain ⟨s, e, r, _⟩ := DataW.trod_string Tryz.underlying9 hy
    refine ⟨s, e, trivial, ?_⟩
    rw [r]
    simp only [Rows.uptoBulk, muK]
    have : s.data.toList.length = s.size := Array.length_toList
    omega) h
  refine ⟨A, l, c, e, ?_, by omega⟩
  have : l.flatMap (fun s => [Value.string s]) = strs l := by
    clear hr hb e ho
    induction l with
    | nil => rfl
    | cons a l ih => rw [List.flatMap_cons, ih]; rfl
  rw [← this]; exact hr
set_option maxRecDepth 100000 in
theorem open_write (h : DataW.trod enc Tryz.prog w base spare held fuel 40 cs = some x) : ∃ y : Wr, cs = [.string y.key, .bool y.gone, .int .i64 y.v.k, .int .i64 y.v.n, .string y.v.s] ∧ muW y ≤ Rows.uptoBulk x.1 ∧ rng64 y.v.n := by
  obtain ⟨xs, n, _, rfl, hl, hlen, hf⟩ := DataW.trod_struct Tryz.underlying40 h
  rw [cof_wr] at hl
  match cs, hl, xs, hlen with
  | [c0, c1, c2, c3, c4], _, [y0, y1, y2], _ =>
    have h0 := fieldAt hf 0 9 0 1 (y := y0) rfl rfl rfl cof_str rfl
    have h1 := fieldAt hf 1 4 1 1 (y := y1) rfl rfl rfl cof_bool rfl
    have h2 := fieldAt hf 2 38 2 3 (y := y2) rfl rfl rfl cof_val rfl
    obtain ⟨k, e0, r0, _⟩ := DataW.trod_string Tryz.underlying9 (x := y0) h0
    obtain ⟨gn, e1, r1, _⟩ := DataW.trod_bool Tryz.underlying4 (x := y1) h1
    obtain ⟨v, e2, r2, hv⟩ := open_vl (x := y2) h2
    simp at e0 e1 e2
    obtain ⟨f1, f2, f3⟩ := e2
    subst e0 e1 f1 f2 f3
    refine ⟨⟨k, gn, v⟩, rfl, ?_, hv⟩
    simp only [Rows.uptoBulk, Rows.uptoBulkAll, List.map_cons, List.map_nil, muW]
    rw [r0]
    simp only [Rows.uptoBulk]
    have : k.data.toList.length = k.size := Array.length_toList
    omega
set_option maxRecDepth 100000 in
theorem open_writes (h : DataW.trod enc Tryz.prog w base spare held fuel 26 cs = some x) :
    ∃ (A : Option Addr) (l : List Wr) (c : Nat), cs = [.slice A l.length c] ∧ Rd (fun b => b < w.heap.size) w 5 A l.length (wrCells l) ∧ (l.map muW).sum + 1 ≤ Rows.uptoBulk x.1 ∧ ∀ x ∈ l, rng64 x.v.n := by
  obtain ⟨A, l, c, e, hr, ho, hb⟩ := open_rows (α := Wr) (fun x => [.string x.key, .bool x.gone, .int .i64 x.v.k, .int .i64 x.v.n, .string x.v.s]) muW (fun x => rng64 x.v.n) 5 (by omega) (fun _ => rfl) Tryz.underlying26 cof_wr (fun n cs' y hy => by
    obtain ⟨s, e, r, hv⟩ := open_write hy
    exact ⟨s, e, hv, r⟩) h
  exact ⟨A, l, c, e, hr, hb, ho⟩
set_option maxRecDepth 100000 in
theorem open_act (h : DataW.trod enc Tryz.prog w base spare held fuel 51 cs = some x) : ∃ a : SA, cs = scells a ∧ (a.ok (fun b => b < w.heap.size) w ∧ ∀ x ∈ a.ws, rng64 x.v.n) ∧ muA a ≤ Rows.uptoBulk x.1 := by
  obtain ⟨xs, n, _, rfl, hl, hlen, hf⟩ := DataW.trod_struct Tryz.underlying51 h
  rw [cof_act] at hl
  match cs, hl, xs, hlen with
  | [c0, c1, c2], _, [y0, y1, y2], _ =>
    have h0 := fieldAt hf 0 3 0 1 (y := y0) rfl rfl rfl cof_int rfl
    have h1 := fieldAt hf 1 25 1 1 (y := y1) rfl rfl rfl cof_strs rfl
    have h2 := fieldAt hf 2 26 2 1 (y := y2) rfl rfl rfl cof_wrs rfl
    obtain ⟨kind, e0, r0, _⟩ := DataW.trod_int Tryz.underlying3 (x := y0) h0
    obtain ⟨A1, ks, d1, e1, q1, b1⟩ := open_texts (x := y1) h1
    obtain ⟨A2, ws, d2, e2, q2, b2, v2⟩ := open_writes (x := y2) h2
    simp at e0 e1 e2
    subst e0 e1 e2
    refine ⟨⟨kind, ks, ws, A1, d1, A2, d2⟩, rfl, ⟨⟨q1, q2⟩, v2⟩, ?_⟩
    simp only [Rows.uptoBulk, Rows.uptoBulkAll, List.map_cons, List.map_nil, muA]
    rw [r0]
    simp only [Rows.uptoBulk]
    omega
set_option maxRecDepth 100000 in
theorem open_acts (h : DataW.trod enc Tryz.prog w base spare held fuel 22 cs = some x) :
    ∃ (A : Option Addr) (us : List SA) (c : Nat), cs = [.slice A us.length c] ∧ SActs (fun b => b < w.heap.size) w A us ∧ (us.map muA).sum + 1 ≤ Rows.uptoBulk x.1 ∧ ∀ a ∈ us, ∀ x ∈ a.ws, rng64 x.v.n := by
  obtain ⟨A, l, c, e, hr, ho, hb⟩ := open_rows scells muA (fun a => a.ok (fun b => b < w.heap.size) w ∧ ∀ x ∈ a.ws, rng64 x.v.n) 3 (by omega) (fun _ => rfl) Tryz.underlying22 cof_act (fun n cs' y hy => open_act hy) h
  exact ⟨A, l, c, e, ⟨hr, fun a ha => (ho a ha).1⟩, hb, fun a ha => (ho a ha).2⟩
set_option maxRecDepth 100000 in
theorem open_story (h : DataW.trod enc Tryz.prog w base spare held fuel 24 cs = some x) :
    ∃ (p r : Int) (A : Option Addr) (us : List SA) (c : Nat), cs = [.int .i64 p, .int .i64 r, .slice A us.length c] ∧ SActs (fun b => b < w.heap.size) w A us ∧ (us.map muA).sum ≤ Rows.uptoBulk x.1 ∧ ∀ a ∈ us, ∀ x ∈ a.ws, rng64 x.v.n := by
  obtain ⟨xs, k, _, rfl, hl, hlen, hf⟩ := DataW.trod_struct Tryz.underlying24 h
  rw [cof_story] at hl
  match cs, hl, xs, hlen with
  | [c0, c1, c2], _, [y0, y1, y2], _ =>
    have h0 := fieldAt hf 0 3 0 1 (y := y0) rfl rfl rfl cof_int rfl
    have h1 := fieldAt hf 1 3 1 1 (y := y1) rfl rfl rfl cof_int rfl
    have h2 := fieldAt hf 2 22 2 1 (y := y2) rfl rfl rfl cof_acts rfl
    obtain ⟨p, e0, r0, _⟩ := DataW.trod_int Tryz.underlying3 (x := y0) h0
    obtain ⟨r, e1, r1, _⟩ := DataW.trod_int Tryz.underlying3 (x := y1) h1
    obtain ⟨A, us, c, e2, ho, hb, hv⟩ := open_acts (x := y2) h2
    simp at e0 e1 e2
    subst e0 e1 e2
    exact ⟨p, r, A, us, c, rfl, ho, by simp only [Rows.uptoBulk, Rows.uptoBulkAll, List.map_cons, List.map_nil]; omega, hv⟩
end
end Go.Proofs.YtphglnenafdkaaaGreatDoor

namespace Go.Proofs.YtphglnenafdkaaaGreatDoor
open Go.ChangeShapes Go.WideShapes Go.ChangeAt Go.RowKit

theorem trodAll_below {H : Type} {enc : TypeId × Value → H} {P : Program} (hl : laidOutB P = true) {W W' : World} (hb : Below W.heap.size W W') :
    ∀ {ts : List TypeId} {vs : List Value} {ds : List (DataW H)} {ps : List MemPlace}, ts.all (fun t => P.readableRec t && decide (t < P.types.size)) = true → (∀ x ∈ ps, x.block < W.heap.size) →
      DataW.TrodAll enc P W 0 (fun _ => true) true ts vs ds ps → DataW.TrodAll enc P W' 0 (fun b => decide (b < W.heap.size)) true ts vs ds ps := by
  intro ts
  induction ts with
  | nil =>
    intro vs ds ps _ _ h
    obtain ⟨rfl, rfl, rfl⟩ := trodAll_nil h
    exact trodAll_mk0
  | cons t ts ih =>
    intro vs ds ps hr hlt h
    obtain ⟨v, vs', d, ds', p, q, rfl, rfl, rfl, h0, h1⟩ := trodAll_cons h
    simp only [List.all_cons, Bool.and_eq_true, decide_eq_true_eq] at hr
    exact trodAll_cons_mk (Below.trod hl hr.1.1 hr.1.2 h0 hb fun x hx => hlt x (List.mem_append_left _ hx)) (ih hr.2 (fun x hx => hlt x (List.mem_append_right _ hx)) h1)

theorem law_post {H : Type} {enc : TypeId × Value → H} {P : Program} {f : Func} {s : ChangeSpec} {W W' : World} {args : Array Value} {ds gs : List (DataW H)} {before : List MemPlace} {tb : TypeId}
    (hl : laidOutB P = true) (hrow : f.params.toList.all (fun t => P.readableRec t && decide (t < P.types.size)) = true) (hres : f.resultTypes = #[tb]) (htb : P.underlying tb = some .bool)
    (hv : s.vars = []) (hW : DataW.Whole enc P f.params.toList s.vars false W args.toList ds gs before)
    (hs : (s.fn H (ds ++ gs)).results = [.lit (.bool true)]) (ha : (s.fn H (ds ++ gs)).args = ds) (hvs : (s.fn H (ds ++ gs)).vars = []) (hb : Below W.heap.size W W') :
    s.post enc P f false true false false W args (.bool true) W' := by
  have hlt : ∀ p ∈ before, p.block < W.heap.size := fun p hp => hW.lt p hp
  have hW' := hW
  obtain ⟨p, q, hA, hV, rfl, _, _⟩ := hW
  rw [hv] at hV
  obtain ⟨rfl, rfl⟩ := trodVars_none hV
  refine ⟨ds, [], _, [], p, [], hW', ?_, ?_, ?_, World.keptBut_mono (fun x hx => ?_) (hb.frame (· ∈ p)), fun h => by cases h⟩
  · rw [hs, hres]
    exact trodAll_cons_mk (shut_bool htb _) trodAll_mk0
  · rw [ha]
    exact trodAll_below hl hb hrow (fun x hx => hlt x (List.mem_append_left _ hx)) hA
  · rw [hv, hvs]; rfl
  · exact ⟨by simpa using hx, .inr (.inl hx)⟩

end Go.Proofs.YtphglnenafdkaaaGreatDoor

namespace Go.Proofs.YtphglnenafdkaaaGreatDoor
open Go.RowKit Go.ChangeShapes
set_option linter.unusedVariables false
set_option linter.unusedSimpArgs false
set_option maxRecDepth 100000

def lst : List (String × DataW Unit) := [("math/bits.deBruijn32tab", Rows.laid_math_bits_deBruijn32tab), ("math/bits.deBruijn64tab", Rows.laid_math_bits_deBruijn64tab), ("internal/strconv.uint64pow10", Rows.laid_internal_strconv_uint64pow10), ("bytes.ErrTooLarge", Rows.laid_bytes_ErrTooLarge)]
/-- so many blocks has the settled world -/
noncomputable def low : Nat := (World.holding Tryz.prog default ⟨#[], #[], []⟩).heap.size
def u8s (l : List Int) : Array Value := (l.map fun n => Value.int .u8 n).toArray
noncomputable def laidWorld (os : Os) : World :=
  let w0 := World.holding Tryz.prog os ⟨#[.cells #[.string ⟨#[98, 121, 116, 101, 115, 46, 66, 117, 102, 102, 101, 114, 58, 32, 116, 111, 111, 32, 108, 97, 114, 103, 101]⟩] 208], #[], []⟩
  { w0 with heap := (((w0.heap.modify 0 fun
      | .cells _ t frozen => .cells #[.iface 206 (.pointer (some ⟨low, 0, none⟩))] t frozen
      | o => o).modify 2 fun
      | .cells _ t frozen => .cells (Lib.pow10Tab.map fun z => Value.int .u64 z).toArray t frozen
      | o => o).modify 7 fun
      | .cells _ t frozen => .cells (u8s [0, 1, 28, 2, 29, 14, 24, 3, 30, 22, 20, 15, 25, 17, 4, 8, 31, 27, 13, 23, 21, 19, 16, 7, 26, 12, 18, 6, 11, 5, 10, 9]) t frozen
      | o => o).modify 8 fun
      | .cells _ t frozen => .cells (u8s [0, 1, 56, 2, 57, 49, 28, 3, 61, 58, 42, 50, 38, 29, 17, 4, 62, 47, 59, 36, 45, 43, 51, 22, 53, 39, 33, 30, 24, 18, 12, 5, 63, 55, 48, 27, 60, 41, 37, 16, 46, 35, 44, 21, 52, 32, 23, 11, 54, 26, 40, 15, 34, 20, 31, 10, 25, 14, 19, 9, 13, 8, 7, 6]) t frozen
      | o => o }
theorem laid_met (os : Os) (args : Array Value) : laidMet Tryz.prog lst ((laidWorld os).forCall (fun _ _ => 0) ⟨#[], args, []⟩).memory :=
  laidMet_of_run' 8 (by kernel_rfl) (by kernel_rfl)
end Go.Proofs.YtphglnenafdkaaaGreatDoor

namespace Go.Proofs.YtphglnenafdkaaaGreatDoor
open Go.RowKit Go.ChangeShapes
set_option linter.unusedVariables false
set_option linter.unusedSimpArgs false
set_option maxRecDepth 100000

theorem ty_pow : (Tryz.prog.globals[2]?).map (·.type) = some 171 := by kernel_rfl
theorem co_pow : Tryz.prog.cellsOf 171 = 20 := by kernel_rfl
theorem co_u64 : Tryz.prog.cellsOf 118 = 1 := by kernel_rfl
theorem pow_data : (Rows.laid_internal_strconv_uint64pow10 : DataW Unit) = Lib.tabData .u64 Lib.pow10Tab := by kernel_rfl
theorem env_of_laid {W : World} (h : laidMet Tryz.prog lst W) : Env W := by
  have h3 : laidMet Tryz.prog (("internal/strconv.uint64pow10", Lib.tabData .u64 Lib.pow10Tab) :: [("bytes.ErrTooLarge", Rows.laid_bytes_ErrTooLarge)]) W := by
    have := h.tail.tail
    rw [pow_data] at this
    exact this
  refine ⟨Lib.tabIs_of_head gPow ty_pow Tryz.underlying171 Tryz.underlying118 co_u64 co_pow h3, ?_⟩
  obtain ⟨ps, ⟨g', t', cs, fuel, p, q, hg', ht', hvar, _⟩, _⟩ := h.tail
  have e : Tryz.prog.globalNamed "math/bits.deBruijn64tab" = some 8 := by kernel_rfl
  unfold World.var? at hvar
  rw [e] at hvar
  simp only [Option.bind_some] at hvar
  have : ∃ o, W.heap[8]? = some o := by
    cases ho : W.heap[8]? with
    | none => rw [ho] at hvar; cases hvar
    | some o => exact ⟨o, rfl⟩
  obtain ⟨o, ho⟩ := this
  have := (Array.getElem?_eq_some_iff.1 ho).1
  omega
end Go.Proofs.YtphglnenafdkaaaGreatDoor


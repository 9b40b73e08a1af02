/- QuorumEnds: the walk of the law. -/
import Derived.Test.YtbgopicpdpkccaaGActW
import Derived.Test.YtbgopicpdpkccaaGHas
import Derived.Test.YtbgopicpdpkccaaGEnds3
namespace Go.Proofs.Ytbgopicpdpkccaa
open Go.RowKit
set_option linter.unusedVariables false
set_option linter.unusedSimpArgs false

set_option maxRecDepth 100000 in
set_option maxHeartbeats 4000000 in
theorem ends_walk (n : Int) (A : Option Addr) (c : Nat) (us : List GA) (nd s : Int) (t : ByteArray) (W : World) (ho : GActs W A us) (hl : us.length ≤ 1048576) (ht : txts us ≤ 1048576) : Calls Try.prog 4 #[.int .i64 n, .slice A us.length c, .int .i64 nd, .int .i64 s, .string t] W fun e w' => e = .returned (.bool true) ∧ Below W.heap.size W w' := by
  have hlg := hid (long_any A c us W ho hl ht)
  have hll : Hid (us.length ≤ 1048576) := hid hl
  clear hl ht
  go_enter Try.func4, Try.ntmps4
  go_wp2_with fail
  refine hlg.out.mono ?_
  rintro e w1 ⟨⟨b, rfl, hb0⟩, rfl⟩
  have hb := hid hb0
  clear hb0
  cases b with
  | true =>
    go_wp2_with fail
    go_ret
    exact ⟨rfl, Below.refl _ _⟩
  | false =>
  by_cases h1 : 4096 < (t.size : Int)
  · have t1 : decide (4096 < (t.size : Int)) = true := decide_eq_true h1
    go_wp2_with fail
    go_ret
    exact ⟨rfl, Below.refl _ _⟩
  have t1 : decide (4096 < (t.size : Int)) = false := decide_eq_false h1
  by_cases h2 : s < 0
  · have t2 : decide (s < 0) = true := decide_eq_true h2
    go_wp2_with fail
    go_ret
    exact ⟨rfl, Below.refl _ _⟩
  have t2 : decide (s < 0) = false := decide_eq_false h2
  by_cases h3 : 256 ≤ s
  · have t3 : decide (256 ≤ s) = true := decide_eq_true h3
    go_wp2_with fail
    go_ret
    exact ⟨rfl, Below.refl _ _⟩
  have t3 : decide (256 ≤ s) = false := decide_eq_false h3
  by_cases h4 : nd < 0
  · have t4 : decide (nd < 0) = true := decide_eq_true h4
    go_wp2_with fail
    go_ret
    exact ⟨rfl, Below.refl _ _⟩
  have t4 : decide (nd < 0) = false := decide_eq_false h4
  by_cases h5 : n ≤ nd
  · have t5 : decide (n ≤ nd) = true := decide_eq_true h5
    go_wp2_with fail
    go_ret
    exact ⟨rfl, Below.refl _ _⟩
  have t5 : decide (n ≤ nd) = false := decide_eq_false h5
  by_cases hn : 9 < n
  · have hnew := hid (new_bad n w1 (.inr hn))
    clear h1 h2 h3 h4 h5
    go_wp2_with fail
    refine hnew.out.mono ?_
    rintro e w2 ⟨rfl, rfl⟩
    go_wp2_with (first
      | (go_at_call 10; refine (num_any _ _).mono ?_; rintro e w' ⟨rfl, rfl⟩)
      | (go_at_call 11; refine (live_any _).mono ?_; rintro e w3 ⟨rfl, hb3⟩))
    go_ret
    exact ⟨rfl, hb3⟩
  obtain ⟨N, rfl⟩ : ∃ N : Nat, n = (N : Int) := ⟨n.toNat, by omega⟩
  obtain ⟨i, rfl⟩ : ∃ i : Nat, nd = (i : Int) := ⟨nd.toNat, by omega⟩
  have hN : 1 ≤ N ∧ N ≤ 9 := by omega
  have hN9 : Hid (N ≤ 9) := hid hN.2
  have hiN : Hid (i < N) := hid (by omega)
  have hsl : Hid (0 ≤ s ∧ s < 256) := hid (by omega)
  have hts : Hid (t.size ≤ 4096) := hid (by omega)
  have hnew := hid (new_ok N w1 hN)
  have i5 : (i : Int) < (N : Int) := by omega
  have i4 : ¬ (N ≤ i) := by omega
  clear h1 h2 h3 h4 h5 hn t4 t5
  go_wp2_with fail
  refine hnew.out.mono ?_
  rintro e w2 ⟨S, rfl, hG0, hS0, hB20⟩
  have hG := hid hG0
  have hS := hid hS0
  have hB2 := hid hB20
  clear hG0 hS0 hB20 hN hnew hlg
  go_wp2_with (go_at_call 10; refine (num_any _ _).mono ?_; rintro e w' ⟨rfl, rfl⟩)
  have hgN : Hid (Fit N 0 (grN N)) := hid (Fit.new N (Int.le_refl _))
  have hpN : Hid (PFit N 0 (grN N)) := hid (PFit.new N (Int.le_refl _))
  have HO := hid ho
  clear ho
  go_loopw [13] (fun v wr => ∃ (k : Nat) (S' : Nat → Prop) (G : Gr), v = .int .i64 k ∧ k ≤ us.length ∧ GAt S' wr w1.heap.size G ∧ (∀ j, S' j → w1.heap.size ≤ j) ∧ Fit N k G ∧ PFit N k G ∧ One s G ∧ Below w1.heap.size w1 wr) (fun v _ => us.length - (intOf v).toNat)
  case atStart => exact ⟨0, S, grN N, rfl, Nat.zero_le _, hG.out, hS.out, hgN.out, hpN.out, One.new N s, hB2.out⟩
  case round =>
    clear hG hS hB2 hgN hpN
    obtain ⟨k, S1, G, rfl, hk, q, hS10, hf, hpf0, hone0, hB0⟩ := hrel
    have hS1 := hid hS10
    have hpf := hid hpf0
    have hone := hid hone0
    have hB := hid hB0
    clear hS10 hpf0 hone0 hB0
    have hb6 : Hid (us.length ≤ 600) := hid (hb.out (by first | rfl | trivial))
    by_cases hlt : k < us.length
    · have i1 : (k : Int) < (us.length : Int) := by omega
      have hoa := HO.out.below (w' := wr) hB.out
      obtain ⟨b, o, rfl, hbl, a0, a1, a2, a3⟩ := hoa.at_ hlt
      have hact := hid (act_any us[k] q hf hN9.out (by have := hb6.out; omega))
      have hF := hid hf
      have hkk : (k : Int) < 1048577 := by have := hll.out; omega
      clear hoa q hf
      go_wp2_with fail
      refine hact.out.mono ?_
      rintro e w5 ⟨rfl, G2, hA20, S2, q20, hS20, hu20⟩
      have hfin : Hid (GAt S2 w5 w1.heap.size G2 ∧ (∀ j, S2 j → w1.heap.size ≤ j) ∧ Fit N (k + 1 : Nat) G2 ∧ PFit N (k + 1 : Nat) G2 ∧ One s G2 ∧ Below w1.heap.size w1 w5) := hid (by
        refine ⟨q20, fun j hj => ?_, by have := hF.out.act (by omega) hA20; exact_mod_cast this, by have := hpf.out.act hF.out (by omega) hA20; exact_mod_cast this, hone.out.act hF.out hA20, hB.out.trans (hu20.below hB.out.size fun j hj h => by have := hS1.out j h; omega)⟩
        rcases hS20 j hj with h | h
        · exact hS1.out j h
        · have := hB.out.size; omega)
      clear hA20 q20 hS20 hu20 hact
      go_wp2_with fail
      go_roundw
      case rel => exact ⟨k + 1, S2, G2, by go_num, by omega, hfin.out⟩
      case measure => simp [intOf]; omega
    · obtain rfl : k = us.length := by omega
      have hq := hid q
      have hF := hid hf
      clear q hf
      have hlenG : Hid (G.nds.length = N) := hid hF.out.len
      go_wp2_with fail
      go_loopw [14, 15, 16] (fun v14 v15 v wx => ∃ (m : Nat) (mo : Int), v = .int .i64 m ∧ v14 = .int .i64 (((List.range m).filter fun j => (G.nd j).up).length : Nat) ∧ v15 = .int .i64 mo ∧ m ≤ N ∧ 0 ≤ mo ∧ mo ≤ 600 ∧ (∀ j, j < m → (G.at_ j s).prom.rd ≤ mo) ∧ Below wr.heap.size wr wx) (fun _ _ v _ => N - (intOf v).toNat)
      case atStart => exact ⟨0, 0, rfl, rfl, rfl, Nat.zero_le _, by omega, by omega, fun j hj => by omega, Below.refl _ _⟩
      case round =>
        obtain ⟨m, mo, rfl, rfl, rfl, hm, hmo1, hmo2, hall0, hbx0⟩ := hrel
        have hall := hid hall0
        have hbx := hid hbx0
        clear hall0 hbx0
        have hm9 : (m : Int) ≤ 9 := by have := hN9.out; omega
        have hcl : ((((List.range m).filter fun j => (G.nd j).up).length : Nat) : Int) ≤ 9 := by
          have := List.length_filter_le (fun j => (G.nd j).up) (List.range m)
          rw [List.length_range] at this
          omega
        by_cases hlt2 : m < N
        · have i2 : (m : Int) < (N : Int) := by omega
          have hup0 := up_any (m : Int) (hq.out.below hbx.out)
          have e1 : G.isUp (m : Int) = (G.nd m).up := by unfold Gr.isUp; rw [decide_eq_true (by have := hlenG.out; omega), Int.toNat_natCast]; rfl
          rw [e1] at hup0
          have hup := hid hup0
          have hpr0 := fun w' (h : Below wr.heap.size wr w') => promised_any (m : Int) s ((hq.out.below hbx.out).below h)
          have e2 : G.st m s = G.at_ m s := by unfold Gr.st; rw [if_pos (by have := hlenG.out; omega), Int.toNat_natCast]
          rw [e2] at hpr0
          have hpr := hid hpr0
          have hpm : Hid (0 ≤ (G.at_ m s).prom.rd ∧ (G.at_ m s).prom.rd ≤ 600) := hid (by have h1 := hpf.out m hlt2 s; have := hb6.out; omega)
          obtain ⟨x, hx0⟩ : ∃ x, G.at_ m s = x := ⟨_, rfl⟩
          rw [hx0] at hpr hpm
          have hx := hid hx0
          clear e1 hup0 e2 hpr0 hx0
          go_wp2_with fail
          refine hup.out.mono ?_
          rintro e w5 ⟨rfl, rfl⟩
          cases hu : (G.nd m).up with
          | false =>
            have hcnt : Hid (((List.range (m + 1)).filter fun j => (G.nd j).up).length = ((List.range m).filter fun j => (G.nd j).up).length + 0) := hid (by rw [List.range_succ, List.filter_append, List.length_append]; simp [hu])
            clear hu
            by_cases hgt : mo < x.prom.rd
            · have t6 : decide (mo < x.prom.rd) = true := decide_eq_true hgt
              go_wp2_with fail
              refine (hpr.out _ (Below.refl _ _)).mono ?_
              rintro e w6 ⟨rfl, hb60⟩
              go_upto_region 18 with fail
              have kp := Blk.new w6 35 #[.int .i64 x.prom.rd, .int .i64 x.prom.nd]
              have hb7 := hid (hbx.out.trans ((hb60.alloc hb60.size (.cells #[.int .i64 x.prom.rd, .int .i64 x.prom.nd] 35)).mono hbx.out.size))
              generalize w6.alloc (.cells #[.int .i64 x.prom.rd, .int .i64 x.prom.nd] 35) = w7 at *
              have z0 : w7.cell? ⟨w6.heap.size, 0, none⟩ = some (.int .i64 x.prom.rd) := kp.cell 0
              clear kp hb60
              go_wp2_with fail
              go_roundw
              case rel => exact ⟨m + 1, x.prom.rd, by go_num, by rw [hcnt.out]; first | rfl | go_num | (simp; done), rfl, by omega, by have := hpm.out; omega, by have := hpm.out; omega, fun j hj => by
                rcases Nat.lt_succ_iff_lt_or_eq.1 hj with h | rfl
                · have := hall.out j h; omega
                · rw [hx.out]; omega, hb7.out⟩
              case measure => simp [intOf]; omega
            · have t6 : decide (mo < x.prom.rd) = false := decide_eq_false hgt
              go_wp2_with fail
              refine (hpr.out _ (Below.refl _ _)).mono ?_
              rintro e w6 ⟨rfl, hb60⟩
              go_upto_region 18 with fail
              have kp := Blk.new w6 35 #[.int .i64 x.prom.rd, .int .i64 x.prom.nd]
              have hb7 := hid (hbx.out.trans ((hb60.alloc hb60.size (.cells #[.int .i64 x.prom.rd, .int .i64 x.prom.nd] 35)).mono hbx.out.size))
              generalize w6.alloc (.cells #[.int .i64 x.prom.rd, .int .i64 x.prom.nd] 35) = w7 at *
              have z0 : w7.cell? ⟨w6.heap.size, 0, none⟩ = some (.int .i64 x.prom.rd) := kp.cell 0
              clear kp hb60
              go_wp2_with fail
              go_roundw
              case rel => exact ⟨m + 1, mo, by go_num, by rw [hcnt.out]; first | rfl | go_num | (simp; done), rfl, by omega, by have := hpm.out; omega, by have := hpm.out; omega, fun j hj => by
                rcases Nat.lt_succ_iff_lt_or_eq.1 hj with h | rfl
                · have := hall.out j h; omega
                · rw [hx.out]; omega, hb7.out⟩
              case measure => simp [intOf]; omega
          | true =>
            have hcnt : Hid (((List.range (m + 1)).filter fun j => (G.nd j).up).length = ((List.range m).filter fun j => (G.nd j).up).length + 1) := hid (by rw [List.range_succ, List.filter_append, List.length_append]; simp [hu])
            clear hu
            by_cases hgt : mo < x.prom.rd
            · have t6 : decide (mo < x.prom.rd) = true := decide_eq_true hgt
              go_wp2_with fail
              refine (hpr.out _ (Below.refl _ _)).mono ?_
              rintro e w6 ⟨rfl, hb60⟩
              go_upto_region 18 with fail
              have kp := Blk.new w6 35 #[.int .i64 x.prom.rd, .int .i64 x.prom.nd]
              have hb7 := hid (hbx.out.trans ((hb60.alloc hb60.size (.cells #[.int .i64 x.prom.rd, .int .i64 x.prom.nd] 35)).mono hbx.out.size))
              generalize w6.alloc (.cells #[.int .i64 x.prom.rd, .int .i64 x.prom.nd] 35) = w7 at *
              have z0 : w7.cell? ⟨w6.heap.size, 0, none⟩ = some (.int .i64 x.prom.rd) := kp.cell 0
              clear kp hb60
              go_wp2_with fail
              go_roundw
              case rel => exact ⟨m + 1, x.prom.rd, by go_num, by rw [hcnt.out]; first | rfl | go_num | (simp; done), rfl, by omega, by have := hpm.out; omega, by have := hpm.out; omega, fun j hj => by
                rcases Nat.lt_succ_iff_lt_or_eq.1 hj with h | rfl
                · have := hall.out j h; omega
                · rw [hx.out]; omega, hb7.out⟩
              case measure => simp [intOf]; omega
            · have t6 : decide (mo < x.prom.rd) = false := decide_eq_false hgt
              go_wp2_with fail
              refine (hpr.out _ (Below.refl _ _)).mono ?_
              rintro e w6 ⟨rfl, hb60⟩
              go_upto_region 18 with fail
              have kp := Blk.new w6 35 #[.int .i64 x.prom.rd, .int .i64 x.prom.nd]
              have hb7 := hid (hbx.out.trans ((hb60.alloc hb60.size (.cells #[.int .i64 x.prom.rd, .int .i64 x.prom.nd] 35)).mono hbx.out.size))
              generalize w6.alloc (.cells #[.int .i64 x.prom.rd, .int .i64 x.prom.nd] 35) = w7 at *
              have z0 : w7.cell? ⟨w6.heap.size, 0, none⟩ = some (.int .i64 x.prom.rd) := kp.cell 0
              clear kp hb60
              go_wp2_with fail
              go_roundw
              case rel => exact ⟨m + 1, mo, by go_num, by rw [hcnt.out]; first | rfl | go_num | (simp; done), rfl, by omega, by have := hpm.out; omega, by have := hpm.out; omega, fun j hj => by
                rcases Nat.lt_succ_iff_lt_or_eq.1 hj with h | rfl
                · have := hall.out j h; omega
                · rw [hx.out]; omega, hb7.out⟩
              case measure => simp [intOf]; omega
        · have hmN : N = m := by omega
          subst hmN
          have hBB : Hid (Below w1.heap.size w1 wr) := hid (hB.out.trans (hbx.out.mono hB.out.size))
          have HQ := hid (hq.out.below hbx.out)
          have hiu0 := up_any (i : Int) HQ.out
          have e1 : G.isUp (i : Int) = (G.nd i).up := by unfold Gr.isUp; rw [decide_eq_true (by have := hlenG.out; omega), Int.toNat_natCast]; rfl
          rw [e1] at hiu0
          have hiu := hid hiu0
          clear e1 hiu0 hq hbx hB
          obtain ⟨nu, hnu0⟩ : ∃ nu, ((List.range N).filter fun j => (G.nd j).up).length = nu := ⟨_, rfl⟩
          rw [hnu0] at hcl
          simp only [hnu0]
          have hnu := hid hnu0
          clear hnu0
          have hw1 : IntKind.i64.wrap ((N : Int) / 2) = (N : Int) / 2 := by rw [IntKind.wrap_i64]; omega
          have hw2 : IntKind.i64.wrap ((N : Int) / 2 + 1) = (N : Int) / 2 + 1 := by rw [IntKind.wrap_i64]; omega
          cases hu : (G.nd i).up with
          | false =>
            go_wp2_with fail
            refine hiu.out.mono ?_
            rintro e w5 ⟨rfl, rfl⟩
            rw [hu]
            go_wp2_with (go_at_call 11; refine (live_any _).mono ?_; rintro e w3 ⟨rfl, hb3⟩)
            go_ret
            exact ⟨rfl, hBB.out.trans (hb3.mono hBB.out.size)⟩
          | true =>
            by_cases hmaj : (nu : Int) < (N : Int) / 2 + 1
            · have t7 : decide ((nu : Int) < (N : Int) / 2 + 1) = true := decide_eq_true hmaj
              go_wp2_with fail
              refine hiu.out.mono ?_
              rintro e w5 ⟨rfl, rfl⟩
              rw [hu]
              go_wp2_with (go_at_call 11; refine (live_any _).mono ?_; rintro e w3 ⟨rfl, hb3⟩)
              go_ret
              exact ⟨rfl, hBB.out.trans (hb3.mono hBB.out.size)⟩
            · have t7 : decide ((nu : Int) < (N : Int) / 2 + 1) = false := decide_eq_false hmaj
              have hmj : Hid (N / 2 + 1 ≤ nu) := hid (by omega)
              go_wp2_with fail
              refine hiu.out.mono ?_
              rintro e w5 ⟨rfl, rfl⟩
              rw [hu]
              have hU := hid hu
              clear hu hmaj
              go_wp2_with fail
              go_loopw [18] (fun v wx => ∃ (k : Nat) (S' : Nat → Prop) (G' : Gr), v = .int .i64 k ∧ (k : Int) ≤ 4096 ∧ GAt S' wx w1.heap.size G' ∧ (∀ j, S' j → w1.heap.size ≤ j) ∧ Fit N us.length G' ∧ One s G' ∧ G'.nds = G.nds ∧ (G'.mail.length : Int) + k ≤ 4096 ∧ Below w1.heap.size w1 wx) (fun v _ => 4096 - (intOf v).toNat)
              case atStart => exact ⟨0, S1, G, rfl, by omega, HQ.out, hS1.out, hF.out, hone.out, rfl, by have := hF.out.room; omega, hBB.out⟩
              case round =>
                clear HQ hBB
                obtain ⟨k, S3, G3, rfl, hk40, q30, hS30, hf30, ho30, hn30, hm30, hB30⟩ := hrel
                have hS3 := hid hS30
                have hF3 := hid hf30
                have hO3 := hid ho30
                have hN3 := hid hn30
                have hM3 := hid hm30
                have hB3 := hid hB30
                have hdr := hid (drop_any 0 q30 (by have := hf30.room; omega))
                have HQ3 := hid q30
                clear hS30 hf30 ho30 hn30 hm30 hB30 q30
                by_cases hlt3 : (k : Int) < 4096
                · have t8 : decide ((k : Int) < 4096) = true := decide_eq_true hlt3
                  clear hk40
                  go_wp2_with fail
                  refine hdr.out.mono ?_
                  rintro e w5 ⟨⟨b2, rfl⟩, S4, q40, hS40, hu40⟩
                  have hfin : Hid (GAt S4 w5 w1.heap.size (G3.drop 0) ∧ (∀ j, S4 j → w1.heap.size ≤ j) ∧ Fit N us.length (G3.drop 0) ∧ One s (G3.drop 0) ∧ (G3.drop 0).nds = G.nds ∧ ((G3.drop 0).mail.length : Int) + (k + 1 : Nat) ≤ 4096 ∧ Below w1.heap.size w1 w5) := hid (by
                    refine ⟨q40, fun j hj => ?_, hF3.out.drop 0, hO3.out.drop 0, (drop_nds 0).trans hN3.out, ?_, hB3.out.trans (hu40.below hB3.out.size fun j hj h => by have := hS3.out j h; omega)⟩
                    · rcases hS40 j hj with h | h
                      · exact hS3.out j h
                      · have := hB3.out.size; omega
                    · rw [drop_len]; have := hM3.out; omega)
                  clear q40 hS40 hu40 hdr
                  go_wp2_with fail
                  go_roundw
                  case rel => exact ⟨k + 1, S4, G3.drop 0, by go_num, by omega, hfin.out⟩
                  case measure => simp [intOf]; omega
                · have t8 : decide ((k : Int) < 4096) = false := decide_eq_false hlt3
                  have hm0 : Hid (G3.mail = []) := hid (List.length_eq_zero_iff.1 (by have := hM3.out; omega))
                  clear hdr hlt3 hk40 hM3
                  go_wp2_with fail
                  have hup3 : ∀ j, (G3.nd j).up = (G.nd j).up := fun j => by rw [Gr.up_nds hN3.out]
                  have hat3 : ∀ j t, G3.at_ j t = G.at_ j t := fun j t => Gr.at_nds hN3.out j t
                  have hready : Hid (Ready G3 i s N mo 0 G3) := hid ⟨hm0.out, hF3.out.len, hiN.out, (hup3 i).trans hU.out, fun _ => rfl, (hF3.out.node i hiN.out s).rd.1, fun j hj => .inl (by rw [hat3]; exact hall.out j hj), fun h => by omega⟩
                  have hmaj3 : Hid (N / 2 + 1 ≤ ((List.range N).filter fun j => (G3.nd j).up).length) := hid (by
                    have e : (List.range N).filter (fun j => (G3.nd j).up) = (List.range N).filter fun j => (G.nd j).up := by
                      congr 1; funext j; exact hup3 j
                    rw [e, hnu.out]; exact hmj.out)
                  clear hup3 hat3 hcl
                  go_loopw [19] (fun v wx => ∃ (k : Nat) (S' : Nat → Prop) (G' : Gr), v = .int .i64 k ∧ (k : Int) ≤ mo + 2 ∧ GAt S' wx w1.heap.size G' ∧ (∀ j, S' j → w1.heap.size ≤ j) ∧ Fit N (us.length + k : Nat) G' ∧ One s G' ∧ Ready G3 i s N mo k G' ∧ Below w1.heap.size w1 wx) (fun v _ => (mo + 2).toNat - (intOf v).toNat)
                  case atStart => exact ⟨0, S3, G3, rfl, by omega, HQ3.out, hS3.out, hF3.out, hO3.out, hready.out, hB3.out⟩
                  case round =>
                    clear HQ3 hS3 hO3 hB3 hready
                    obtain ⟨k, S4, G4, rfl, hk40, q40, hS40, hf40, ho40, hr40, hB40⟩ := hrel
                    have hS4 := hid hS40
                    have hF4 := hid hf40
                    have hO4 := hid ho40
                    have hR4 := hid hr40
                    have hB4 := hid hB40
                    have HQ4 := hid q40
                    have hk6 : (k : Int) ≤ 602 := by omega
                    clear hS40 hf40 ho40 hr40 hB40
                    by_cases hlt4 : (k : Int) ≤ mo + 1
                    · have t9 : decide ((k : Int) ≤ mo + 1) = true := decide_eq_true hlt4
                      have t10 : decide ((k : Int) ≤ 601) = true := decide_eq_true (by omega)
                      have hcode := hR4.out.code hsl.out hts.out hN9.out
                      have hpro0 := propose_any (i : Int) s t q40 (by have := hR4.out.mail; have := hF4.out.len; have := hN9.out; rw [hR4.out.mail]; simp; omega) (by have := (hF4.out.node i hiN.out s).rd; have := hb6.out; rw [Int.toNat_natCast]; omega)
                      rw [hcode, show G4.propose i s t = G4.bid i s t from by unfold Gr.propose; rw [if_pos hcode, Int.toNat_natCast]] at hpro0
                      have hpro := hid hpro0
                      have hFb : Hid (Fit N (us.length + k + 1 : Nat) (G4.bid i s t)) := hid (by
                        have h1 := hF4.out.propose i s t
                        rw [show G4.propose i s t = G4.bid i s t from by unfold Gr.propose; rw [if_pos hcode, Int.toNat_natCast]] at h1
                        exact_mod_cast h1)
                      have hOb : Hid (One s (G4.bid i s t)) := hid (by
                        have h1 := hO4.out.propose i s t
                        rwa [show G4.propose i s t = G4.bid i s t from by unfold Gr.propose; rw [if_pos hcode, Int.toNat_natCast]] at h1)
                      have hRb := hid (hR4.out.start (t := t) hN9.out)
                      have hw3 : IntKind.i64.wrap (6 * (N : Int)) = 6 * (N : Int) := by have := hN9.out; rw [IntKind.wrap_i64]; omega
                      have hLT4 := hid hlt4
                      clear hpro0 hcode q40 hlt4
                      go_wp2_with fail
                      refine hpro.out.mono ?_
                      rintro e w5 ⟨rfl, S5, q50, hS50, hu50⟩
                      have hq5 : Hid (GAt S5 w5 w1.heap.size (G4.bid i s t) ∧ (∀ j, S5 j → w1.heap.size ≤ j) ∧ Below w1.heap.size w1 w5) := hid (by
                        refine ⟨q50, fun j hj => ?_, hB4.out.trans (hu50.below hB4.out.size fun j hj h => by have := hS4.out j h; omega)⟩
                        rcases hS50 j hj with h | h
                        · exact hS4.out j h
                        · have := hB4.out.size; omega)
                      clear q50 hS50 hu50 hpro
                      go_wp2_with (go_at_call 10; refine (num_any _ _).mono ?_; rintro e w' ⟨rfl, rfl⟩)
                      go_loopw [20] (fun v wx => ∃ (q : Nat) (S' : Nat → Prop) (G' : Gr), v = .int .i64 q ∧ (q : Int) ≤ 6 * (N : Int) ∧ GAt S' wx w1.heap.size G' ∧ (∀ j, S' j → w1.heap.size ≤ j) ∧ Fit N (us.length + k + 1 : Nat) G' ∧ One s G' ∧ Round G3 ⟨(G4.at_ i s).rd + 1, i⟩ i s N (if mo ≤ (G4.at_ i s).rd + 1 then (G4.at_ i s).rd + 1 else mo) (mo ≤ (G4.at_ i s).rd) q G' ∧ Below w1.heap.size w1 wx) (fun v _ => 6 * N - (intOf v).toNat)
                      case atStart => exact ⟨0, S5, G4.bid i s t, rfl, by omega, hq5.out.1, hq5.out.2.1, hFb.out, hOb.out, hRb.out, hq5.out.2.2⟩
                      case round =>
                        clear hq5 hFb hOb hRb
                        obtain ⟨q, S6, G6, rfl, hq60, q60, hS60, hf60, ho60, hr60, hB60⟩ := hrel
                        have hS6 := hid hS60
                        have hF6 := hid hf60
                        have hO6 := hid ho60
                        have hR6 := hid hr60
                        have hB6 := hid hB60
                        have HQ6 := hid q60
                        have hde := hid (deliver_any 0 q60 hf60 hN9.out)
                        have hn9 : (N : Int) ≤ 9 := by have := hN9.out; omega
                        clear hS60 hf60 ho60 hr60 hB60 q60
                        by_cases hlt6 : (q : Int) < 6 * (N : Int)
                        · have t11 : decide ((q : Int) < 6 * (N : Int)) = true := decide_eq_true hlt6
                          go_wp2_with fail
                          refine hde.out.mono ?_
                          rintro e w7 ⟨rfl, G7, hd70, S7, q70, hS70, hu70⟩
                          have hfin : Hid (GAt S7 w7 w1.heap.size G7 ∧ (∀ j, S7 j → w1.heap.size ≤ j) ∧ Fit N (us.length + k + 1 : Nat) G7 ∧ One s G7 ∧ Round G3 ⟨(G4.at_ i s).rd + 1, i⟩ i s N (if mo ≤ (G4.at_ i s).rd + 1 then (G4.at_ i s).rd + 1 else mo) (mo ≤ (G4.at_ i s).rd) (q + 1) G7 ∧ Below w1.heap.size w1 w7) := hid (by
                            refine ⟨q70, fun j hj => ?_, hF6.out.deliver hd70, hO6.out.deliver hF6.out hd70, hR6.out.step hN9.out hd70, hB6.out.trans (hu70.below hB6.out.size fun j hj h => by have := hS6.out j h; omega)⟩
                            rcases hS70 j hj with h | h
                            · exact hS6.out j h
                            · have := hB6.out.size; omega)
                          clear hd70 q70 hS70 hu70 hde
                          go_wp2_with fail
                          go_roundw
                          case rel => exact ⟨q + 1, S7, G7, by go_num, by omega, hfin.out⟩
                          case measure => simp [intOf]; omega
                        · have t11 : decide ((q : Int) < 6 * (N : Int)) = false := decide_eq_false hlt6
                          have hnx : Hid (Ready G3 i s N mo (k + 1) G6) := hid (hR4.out.next (t := t) hN9.out hmaj3.out hR6.out (by omega))
                          have hF7 : Hid (Fit N (us.length + (k + 1) : Nat) G6) := hid hF6.out
                          clear hde hlt6
                          go_wp2_with fail
                          go_roundw
                          case rel => exact ⟨k + 1, S6, G6, by go_num, by have := hLT4.out; omega, HQ6.out, hS6.out, hF7.out, hO6.out, hnx.out, hB6.out⟩
                          case measure => have := hLT4.out; simp [intOf]; omega
                    · have t9 : decide ((k : Int) ≤ mo + 1) = false := decide_eq_false hlt4
                      have hk2 : (k : Int) = mo + 2 := by omega
                      have hlr : Hid (∀ j, j < N → (G4.nd j).up = true → (G4.at_ j s).is = true) := hid (hR4.out.lr (by omega))
                      have hui : Hid ((G4.nd i).up = true) := hid hR4.out.iu
                      have hlen4 : Hid (G4.nds.length = N) := hid hR4.out.len
                      clear hlt4 q40
                      go_wp2_with fail
                      have hle0 := learned_any (i : Int) s HQ4.out
                      have e5 : G4.st i s = G4.at_ i s := by unfold Gr.st; rw [if_pos (by have := hlen4.out; omega), Int.toNat_natCast]
                      rw [e5, hlr.out i hiN.out hui.out] at hle0
                      have hle := hid hle0
                      have hsame : Hid (∀ j, j < N → (G4.nd j).up = true → (G4.at_ j s).text = (G4.at_ i s).text) := hid fun j hj hu => hO4.out.one (by have := hlen4.out; omega) (by have := hlen4.out; have := hiN.out; omega) (hlr.out j hj hu) (hlr.out i hiN.out hui.out)
                      clear e5 hle0
                      refine hle.out.mono ?_
                      rintro e w5 ⟨rfl, hb50⟩
                      have hb5 := hid hb50
                      clear hb50 hle
                      generalize hst : (G4.at_ i s).text = st at *
                      clear hst
                      go_wp2_with fail
                      go_loopw [23] (fun v wx => ∃ m : Nat, v = .int .i64 m ∧ m ≤ N ∧ Below w5.heap.size w5 wx) (fun v _ => N - (intOf v).toNat)
                      case atStart => exact ⟨0, rfl, Nat.zero_le _, Below.refl _ _⟩
                      case round =>
                        obtain ⟨m, rfl, hm, hb60⟩ := hrel
                        have hb6x : Hid (Below w1.heap.size w1 wr) := hid ((hB4.out.trans (hb5.out.mono hB4.out.size)).trans (hb60.mono (Nat.le_trans hB4.out.size hb5.out.size)))
                        have HQ6 := hid ((HQ4.out.below hb5.out).below hb60)
                        have hb66 := hid hb60
                        clear hb60
                        by_cases hlt7 : m < N
                        · have i7 : (m : Int) < (N : Int) := by omega
                          have hle0 := learned_any (m : Int) s HQ6.out
                          have e5 : G4.st m s = G4.at_ m s := by unfold Gr.st; rw [if_pos (by have := hlen4.out; omega), Int.toNat_natCast]
                          rw [e5] at hle0
                          have hle := hid hle0
                          have hup0 := fun w' (h : Below wr.heap.size wr w') => up_any (m : Int) (HQ6.out.below h)
                          have e1 : G4.isUp (m : Int) = (G4.nd m).up := by unfold Gr.isUp; rw [decide_eq_true (by have := hlen4.out; omega), Int.toNat_natCast]; rfl
                          rw [e1] at hup0
                          have hup := hid hup0
                          have hyes : Hid ((G4.nd m).up = true → (G4.at_ m s).is = true ∧ (G4.at_ m s).text = st) := hid fun h => ⟨hlr.out m hlt7 h, hsame.out m hlt7 h⟩
                          have hm9 : (m : Int) ≤ 9 := by have := hN9.out; omega
                          clear e5 e1 hle0 hup0
                          generalize G4.at_ m s = x at *
                          go_wp2_with fail
                          refine hle.out.mono ?_
                          rintro e w7 ⟨rfl, hb70⟩
                          have hb7 : Hid (Below w5.heap.size w5 w7) := hid (hb66.out.trans (hb70.mono hb66.out.size))
                          have hup7 := hid (hup.out w7 hb70)
                          clear hb70 hle hup
                          cases hu7 : (G4.nd m).up with
                          | false =>
                            go_wp2_with fail
                            refine hup7.out.mono ?_
                            rintro e w8 ⟨rfl, rfl⟩
                            rw [hu7]
                            go_wp2_with fail
                            go_roundw
                            case rel => exact ⟨m + 1, by go_num, by omega, hb7.out⟩
                            case measure => simp [intOf]; omega
                          | true =>
                            obtain ⟨g1, g2⟩ := hyes.out hu7
                            go_wp2_with fail
                            refine hup7.out.mono ?_
                            rintro e w8 ⟨rfl, rfl⟩
                            rw [hu7]
                            go_wp2_with fail
                            go_roundw
                            case rel => exact ⟨m + 1, by go_num, by omega, hb7.out⟩
                            case measure => simp [intOf]; omega
                        · have hmN : N = m := by omega
                          subst hmN
                          go_wp2_with (go_at_call 11; refine (live_any _).mono ?_; rintro e w3 ⟨rfl, hb3⟩)
                          go_ret
                          exact ⟨rfl, hb6x.out.trans (hb3.mono hb6x.out.size)⟩

end Go.Proofs.Ytbgopicpdpkccaa

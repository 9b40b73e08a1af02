/- Texts of the proof, joined: GCatW. -/
import Derived.Test.YtbgopicpdpkccaaJ11
import Derived.Test.YtbgopicpdpkccaaJ26
import Derived.Test.YtbgopicpdpkccaaJ15
namespace Go.Proofs.Ytbgopicpdpkccaa
open Go.RowKit
set_option linter.unusedVariables false
set_option linter.unusedSimpArgs false

theorem isUp_at {G : Gr} {j N : Nat} (hl : G.nds.length = N) (hj : j < N) : G.isUp (j : Int) = (G.nd j).up := by
  unfold Gr.isUp; rw [decide_eq_true (by omega), Int.toNat_natCast]; rfl
theorem One.catch {s : Int} {G : Gr} (h : One s G) (n : Int) : One s (G.catch n) := by
  obtain ⟨pr, g, h⟩ := h
  refine ⟨_, g, h.still (by rw [catch_nds]) (fun j => .inl (Gr.at_nds (catch_nds _) j s)) fun m hm => (catch_mem hm).imp id ?_⟩
  rintro ⟨k, s, _, _, _, rfl⟩
  rfl
set_option maxRecDepth 100000 in
set_option maxHeartbeats 4000000 in
theorem catches_walk (n : Int) (A : Option Addr) (c : Nat) (us : List GA) (nd od : Int) (W : World) (ho : GActs W A us) (hl : us.length ≤ 1048576) (ht : txts us ≤ 1048576) : Calls Try.prog 7 #[.int .i64 n, .slice A us.length c, .int .i64 nd, .int .i64 od] W fun e w' => e = .returned (.bool true) ∧ Below W.heap.size W w' := by
  have hlg := hid (long_any A c us W ho hl ht)
  have hll : Hid (us.length ≤ 1048576) := hid hl
  clear hl ht
  go_enter Try.func7, Try.ntmps7
  go_wp2_with fail
  refine hlg.out.mono ?_
  rintro e w1 ⟨⟨b, rfl, hb0⟩, rfl⟩
  have hb := hid hb0
  clear hb0
  cases b with
  | true =>
    go_wp2_with fail
    go_ret
    exact ⟨rfl, Below.refl _ _⟩
  | false =>
  by_cases h2 : nd < 0
  · have t2 : decide (nd < 0) = true := decide_eq_true h2
    go_wp2_with fail
    go_ret
    exact ⟨rfl, Below.refl _ _⟩
  have t2 : decide (nd < 0) = false := decide_eq_false h2
  by_cases h3 : n ≤ nd
  · have t3 : decide (n ≤ nd) = true := decide_eq_true h3
    go_wp2_with fail
    go_ret
    exact ⟨rfl, Below.refl _ _⟩
  have t3 : decide (n ≤ nd) = false := decide_eq_false h3
  by_cases h4 : od < 0
  · have t4 : decide (od < 0) = true := decide_eq_true h4
    go_wp2_with fail
    go_ret
    exact ⟨rfl, Below.refl _ _⟩
  have t4 : decide (od < 0) = false := decide_eq_false h4
  by_cases h5 : n ≤ od
  · have t5 : decide (n ≤ od) = true := decide_eq_true h5
    go_wp2_with fail
    go_ret
    exact ⟨rfl, Below.refl _ _⟩
  have t5 : decide (n ≤ od) = false := decide_eq_false h5
  by_cases hn : 9 < n
  · have hnew := hid (new_bad n w1 (.inr hn))
    clear h2 h3 h4 h5
    go_wp2_with fail
    refine hnew.out.mono ?_
    rintro e w2 ⟨rfl, rfl⟩
    go_wp2_with (first
      | (go_at_call 10; refine (num_any _ _).mono ?_; rintro e w' ⟨rfl, rfl⟩)
      | (go_at_call 11; refine (live_any _).mono ?_; rintro e w3 ⟨rfl, hb3⟩))
    go_ret
    exact ⟨rfl, hb3⟩
  obtain ⟨N, rfl⟩ : ∃ N : Nat, n = (N : Int) := ⟨n.toNat, by omega⟩
  obtain ⟨i, rfl⟩ : ∃ i : Nat, nd = (i : Int) := ⟨nd.toNat, by omega⟩
  obtain ⟨o, rfl⟩ : ∃ o : Nat, od = (o : Int) := ⟨od.toNat, by omega⟩
  have hN : 1 ≤ N ∧ N ≤ 9 := by omega
  have hN9 : Hid (N ≤ 9) := hid hN.2
  have hiN : Hid (i < N) := hid (by omega)
  have hoN : Hid (o < N) := hid (by omega)
  have hnew := hid (new_ok N w1 hN)
  have i5 : (i : Int) < (N : Int) := by omega
  have i4 : ¬ (N ≤ i) := by omega
  have o5 : (o : Int) < (N : Int) := by omega
  have o4 : ¬ (N ≤ o) := by omega
  clear h2 h3 h4 h5 hn t2 t3 t4 t5
  go_wp2_with fail
  refine hnew.out.mono ?_
  rintro e w2 ⟨S, rfl, hG0, hS0, hB20⟩
  have hG := hid hG0
  have hS := hid hS0
  have hB2 := hid hB20
  clear hG0 hS0 hB20 hN hnew hlg i4 o4
  go_wp2_with (go_at_call 10; refine (num_any _ _).mono ?_; rintro e w' ⟨rfl, rfl⟩)
  have hgN : Hid (Fit N 0 (grN N)) := hid (Fit.new N (Int.le_refl _))
  have HO := hid ho
  clear ho
  go_loopw [11] (fun v wr => ∃ (k : Nat) (S' : Nat → Prop) (G : Gr), v = .int .i64 k ∧ k ≤ us.length ∧ GAt S' wr w1.heap.size G ∧ (∀ j, S' j → w1.heap.size ≤ j) ∧ Fit N k G ∧ (∀ s, One s G) ∧ Below w1.heap.size w1 wr) (fun v _ => us.length - (intOf v).toNat)
  case atStart => exact ⟨0, S, grN N, rfl, Nat.zero_le _, hG.out, hS.out, hgN.out, One.new N, hB2.out⟩
  case round =>
    clear hG hS hB2 hgN
    obtain ⟨k, S1, G, rfl, hk, q, hS10, hf, hone0, hB0⟩ := hrel
    have hS1 := hid hS10
    have hone := hid hone0
    have hB := hid hB0
    clear hS10 hone0 hB0
    have hb6 : Hid (us.length ≤ 600) := hid (hb.out (by first | rfl | trivial))
    by_cases hlt : k < us.length
    · have i1 : (k : Int) < (us.length : Int) := by omega
      have hoa := HO.out.below (w' := wr) hB.out
      obtain ⟨b, oo, rfl, hbl, a0, a1, a2, a3⟩ := hoa.at_ hlt
      have hact := hid (act_any us[k] q hf hN9.out (by have := hb6.out; omega))
      have hF := hid hf
      have hkk : (k : Int) < 1048577 := by have := hll.out; omega
      clear hoa q hf
      go_wp2_with fail
      refine hact.out.mono ?_
      rintro e w5 ⟨rfl, G2, hA20, S2, q20, hS20, hu20⟩
      have hfin : Hid (GAt S2 w5 w1.heap.size G2 ∧ (∀ j, S2 j → w1.heap.size ≤ j) ∧ Fit N (k + 1 : Nat) G2 ∧ (∀ s, One s G2) ∧ Below w1.heap.size w1 w5) := hid (by
        refine ⟨q20, fun j hj => ?_, by have := hF.out.act (by omega) hA20; exact_mod_cast this, fun s => (hone.out s).act hF.out hA20, hB.out.trans (hu20.below hB.out.size fun j hj h => by have := hS1.out j h; omega)⟩
        rcases hS20 j hj with h | h
        · exact hS1.out j h
        · have := hB.out.size; omega)
      clear hA20 q20 hS20 hu20 hact
      go_wp2_with fail
      go_roundw
      case rel => exact ⟨k + 1, S2, G2, by go_num, by omega, hfin.out⟩
      case measure => simp [intOf]; omega
    · obtain rfl : k = us.length := by omega
      have HQ := hid q
      have hF := hid hf
      have hui0 := up_any (i : Int) q
      have huo0 := up_any (o : Int) q
      rw [isUp_at hf.len hiN.out] at hui0
      rw [isUp_at hf.len hoN.out] at huo0
      have hui := hid hui0
      have huo := hid huo0
      clear hui0 huo0 q hf
      cases hu : (G.nd i).up with
      | false =>
        go_wp2_with fail
        refine hui.out.mono ?_
        rintro e w5 ⟨rfl, rfl⟩
        rw [hu]
        go_wp2_with (go_at_call 11; refine (live_any _).mono ?_; rintro e w3 ⟨rfl, hb3⟩)
        go_ret
        exact ⟨rfl, hB.out.trans (hb3.mono hB.out.size)⟩
      | true =>
        cases hu2 : (G.nd o).up with
        | false =>
          go_wp2_with fail
          refine hui.out.mono ?_
          rintro e w5 ⟨rfl, rfl⟩
          rw [hu]
          go_wp2_with fail
          refine huo.out.mono ?_
          rintro e w5 ⟨rfl, rfl⟩
          rw [hu2]
          go_wp2_with (go_at_call 11; refine (live_any _).mono ?_; rintro e w3 ⟨rfl, hb3⟩)
          go_ret
          exact ⟨rfl, hB.out.trans (hb3.mono hB.out.size)⟩
        | true =>
          go_wp2_with fail
          refine hui.out.mono ?_
          rintro e w5 ⟨rfl, rfl⟩
          rw [hu]
          go_wp2_with fail
          refine huo.out.mono ?_
          rintro e w5 ⟨rfl, rfl⟩
          rw [hu2]
          have hU := hid hu
          have hU2 := hid hu2
          clear hu hu2 hui huo
          go_wp2_with fail
          go_loopw [12] (fun v wx => ∃ (k : Nat) (S' : Nat → Prop) (G' : Gr), v = .int .i64 k ∧ (k : Int) ≤ 4096 ∧ GAt S' wx w1.heap.size G' ∧ (∀ j, S' j → w1.heap.size ≤ j) ∧ Fit N us.length G' ∧ (∀ s, One s G') ∧ G'.nds = G.nds ∧ (G'.mail.length : Int) + k ≤ 4096 ∧ Below w1.heap.size w1 wx) (fun v _ => 4096 - (intOf v).toNat)
          case atStart => exact ⟨0, S1, G, rfl, by omega, HQ.out, hS1.out, hF.out, hone.out, rfl, by have := hF.out.room; omega, hB.out⟩
          case round =>
            clear HQ hB
            obtain ⟨k, S3, G3, rfl, hk40, q30, hS30, hf30, ho30, hn30, hm30, hB30⟩ := hrel
            have hS3 := hid hS30
            have hF3 := hid hf30
            have hO3 := hid ho30
            have hN3 := hid hn30
            have hM3 := hid hm30
            have hB3 := hid hB30
            have hdr := hid (drop_any 0 q30 (by have := hf30.room; omega))
            have HQ3 := hid q30
            clear hS30 hf30 ho30 hn30 hm30 hB30
            by_cases hlt3 : (k : Int) < 4096
            · have t8 : decide ((k : Int) < 4096) = true := decide_eq_true hlt3
              clear hk40 q30
              go_wp2_with fail
              refine hdr.out.mono ?_
              rintro e w5 ⟨⟨b2, rfl⟩, S4, q40, hS40, hu40⟩
              have hfin : Hid (GAt S4 w5 w1.heap.size (G3.drop 0) ∧ (∀ j, S4 j → w1.heap.size ≤ j) ∧ Fit N us.length (G3.drop 0) ∧ (∀ s, One s (G3.drop 0)) ∧ (G3.drop 0).nds = G.nds ∧ ((G3.drop 0).mail.length : Int) + (k + 1 : Nat) ≤ 4096 ∧ Below w1.heap.size w1 w5) := hid (by
                refine ⟨q40, fun j hj => ?_, hF3.out.drop 0, fun s => (hO3.out s).drop 0, (drop_nds 0).trans hN3.out, ?_, hB3.out.trans (hu40.below hB3.out.size fun j hj h => by have := hS3.out j h; omega)⟩
                · rcases hS40 j hj with h | h
                  · exact hS3.out j h
                  · have := hB3.out.size; omega
                · rw [drop_len]; have := hM3.out; omega)
              clear q40 hS40 hu40 hdr
              go_wp2_with fail
              go_roundw
              case rel => exact ⟨k + 1, S4, G3.drop 0, by go_num, by omega, hfin.out⟩
              case measure => simp [intOf]; omega
            · have t8 : decide ((k : Int) < 4096) = false := decide_eq_false hlt3
              have hm0 : Hid (G3.mail = []) := hid (List.length_eq_zero_iff.1 (by have := hM3.out; omega))
              have hlog := hid (log_any (o : Int) q30)
              clear hdr hlt3 hk40 hM3 q30
              go_wp2_with fail
              refine hlog.out.mono ?_
              rintro e w4 ⟨v, rfl, hown0, hb40⟩
              obtain ⟨p, hp256, hpl, hpis, _⟩ := logOf_form fun s => G3.st o s
              obtain ⟨hw0, hwb0⟩ := WRow.of_own hown0
              have hW := hid hw0
              have hWb : Hid (∀ b, v.ownBlock = some b → w1.heap.size ≤ b ∧ ¬ S3 b) := hid fun b hb => by
                have h1 := hwb0 b hb
                have h2 := hB3.out.size
                refine ⟨by omega, fun h => ?_⟩
                have := HQ3.out.lt.1 b h
                omega
              obtain ⟨A0, c0, hv, _⟩ := hw0
              subst hv
              obtain ⟨ln, hln0⟩ : ∃ ln, (G3.log o).length = ln := ⟨_, rfl⟩
              have hlnp : ln = p := by
                rw [← hln0]
                show (logOf fun s => G3.st o s).length = p
                rw [hpl]; simp
              have hst3 : ∀ t : Nat, G3.st o t = G3.at_ o t := fun t => by unfold Gr.st; rw [if_pos (by have := hF3.out.len; have := hoN.out; omega), Int.toNat_natCast]
              have hall : Hid (∀ t : Nat, t < ln → (G3.at_ o t).is = true) := hid fun t ht => by rw [← hst3]; exact hpis t (by omega)
              have hpre : Hid (Pre G3 i o ln N 0 G3) := hid ⟨hm0.out, hF3.out.len, hiN.out, hoN.out, by rw [Gr.up_nds hN3.out]; exact hU.out, by rw [Gr.up_nds hN3.out]; exact hU2.out, by omega, hall.out, fun t _ h => by omega, fun q t => Stb.refl _⟩
              have hln : (ln : Int) ≤ 256 := by omega
              have hB4 : Hid (Below w1.heap.size w1 w4) := hid (hB3.out.trans (hb40.mono hB3.out.size))
              have HQ4 := hid (HQ3.out.below hb40)
              simp only [hln0] at hW hWb ⊢
              have HLN := hid hln0
              clear hown0 hb40 hpl hpis hp256 hwb0 hlnp hst3 HQ3 hB3 hlog hm0 hln0
              have hw1 : IntKind.i64.wrap ((ln : Int) / 8) = (ln : Int) / 8 := by rw [IntKind.wrap_i64]; omega
              have hw2 : IntKind.i64.wrap ((ln : Int) / 8 + 1) = (ln : Int) / 8 + 1 := by rw [IntKind.wrap_i64]; omega
              go_wp2_with fail
              go_loopw [14] (fun v wx => ∃ (j : Nat) (S' : Nat → Prop) (G' : Gr), v = .int .i64 j ∧ (j : Int) ≤ (ln : Int) / 8 + 2 ∧ GAt S' wx w1.heap.size G' ∧ (∀ q, S' q → w1.heap.size ≤ q) ∧ Fit N us.length G' ∧ (∀ s, One s G') ∧ Pre G3 i o ln N j G' ∧ WRow wx (.slice A0 ln c0) (G3.log o) ∧ (∀ b, (Value.slice A0 ln c0).ownBlock = some b → w1.heap.size ≤ b ∧ ¬ S' b) ∧ Below w1.heap.size w1 wx) (fun v _ => ((ln : Int) / 8 + 2).toNat - (intOf v).toNat)
              case atStart => exact ⟨0, S3, G3, rfl, by omega, HQ4.out, hS3.out, hF3.out, hO3.out, hpre.out, hW.out, hWb.out, hB4.out⟩
              case round =>
                clear HQ4 hpre hW hWb hB4 hS3
                obtain ⟨j, S4, G4, rfl, hj0, q40, hS40, hf40, ho40, hp40, hw40, hwb40, hB50⟩ := hrel
                have hS4 := hid hS40
                have hF4 := hid hf40
                have hO4 := hid ho40
                have hP4 := hid hp40
                have hW4 := hid hw40
                have hWb4 := hid hwb40
                have hB5 := hid hB50
                have HQ5 := hid q40
                clear hS40 hf40 ho40 hp40 hw40 hwb40 hB50
                by_cases hlt4 : (j : Int) ≤ (ln : Int) / 8 + 1
                · have t9 : decide ((j : Int) ≤ (ln : Int) / 8 + 1) = true := decide_eq_true hlt4
                  have hLT := hid hlt4
                  have hj9 : (j : Int) ≤ 100 := by omega
                  have hca := hid (catch_any (i : Int) q40 (by have := hF4.out.room; have := hF4.out.len; have := hN9.out; omega))
                  clear q40 hlt4
                  go_wp2_with fail
                  refine hca.out.mono ?_
                  rintro e w5 ⟨rfl, S5, q50, hS50, hu50⟩
                  have hin : Hid (GAt S5 w5 w1.heap.size (G4.catch i) ∧ (∀ q, S5 q → w1.heap.size ≤ q) ∧ Fit N us.length (G4.catch i) ∧ (∀ s, One s (G4.catch i)) ∧ Mid G3 i o ln N j 0 (G4.catch i) ∧ WRow w5 (.slice A0 ln c0) (G3.log o) ∧ (∀ b, (Value.slice A0 ln c0).ownBlock = some b → w1.heap.size ≤ b ∧ ¬ S5 b) ∧ Below w1.heap.size w1 w5) := hid (by
                    refine ⟨q50, fun j hj => ?_, hF4.out.catch (by omega) _, fun s => (hO4.out s).catch _, hP4.out.ask hN9.out, hW4.out.upd hu50 fun b hb => (hWb4.out b hb).2, fun b hb => ⟨(hWb4.out b hb).1, fun h => ?_⟩, hB5.out.trans (hu50.below hB5.out.size fun j hj h => by have := hS4.out j h; omega)⟩
                    · rcases hS50 j hj with h | h
                      · exact hS4.out j h
                      · have := hB5.out.size; omega
                    · rcases hS50 b h with h | h
                      · exact (hWb4.out b hb).2 h
                      · have := hW4.out.lt hb; omega)
                  clear q50 hS50 hu50 hca
                  go_wp2_with fail
                  go_loopw [15] (fun v wx => ∃ (q : Nat) (S' : Nat → Prop) (G' : Gr), v = .int .i64 q ∧ GAt S' wx w1.heap.size G' ∧ (∀ q, S' q → w1.heap.size ≤ q) ∧ Fit N us.length G' ∧ (∀ s, One s G') ∧ Mid G3 i o ln N j q G' ∧ WRow wx (.slice A0 ln c0) (G3.log o) ∧ (∀ b, (Value.slice A0 ln c0).ownBlock = some b → w1.heap.size ≤ b ∧ ¬ S' b) ∧ Below w1.heap.size w1 wx) (fun v _ => 10 * N + 10 - (intOf v).toNat)
                  case atStart => exact ⟨0, S5, G4.catch i, rfl, hin.out⟩
                  case round =>
                    clear hin
                    obtain ⟨q, S6, G6, rfl, q60, hS60, hf60, ho60, hm60, hw60, hwb60, hB60⟩ := hrel
                    have hS6 := hid hS60
                    have hF6 := hid hf60
                    have hO6 := hid ho60
                    have hM6 := hid hm60
                    have hW6 := hid hw60
                    have hWb6 := hid hwb60
                    have hB6 := hid hB60
                    have HQ6 := hid q60
                    have hde := hid (deliver_any 0 q60 hf60 hN9.out)
                    have hfew := hm60.few
                    have hn9 : (N : Int) ≤ 9 := by have := hN9.out; omega
                    have hqn : (q : Int) ≤ 9 * (N : Int) := by omega
                    have hw3 : IntKind.i64.wrap (10 * (N : Int)) = 10 * (N : Int) := by rw [IntKind.wrap_i64]; omega
                    have hw4 : IntKind.i64.wrap (10 * (N : Int) + 10) = 10 * (N : Int) + 10 := by rw [IntKind.wrap_i64]; omega
                    have hw5 : IntKind.i64.wrap (9 * (N : Int)) = 9 * (N : Int) := by rw [IntKind.wrap_i64]; omega
                    have hw6 : IntKind.i64.wrap (9 * (N : Int) + 9) = 9 * (N : Int) + 9 := by rw [IntKind.wrap_i64]; omega
                    have t12 : decide ((q : Int) < 10 * (N : Int) + 10) = true := decide_eq_true (by omega)
                    have t13 : decide (9 * (N : Int) + 9 < (q : Int)) = false := decide_eq_false (by omega)
                    have hq100 : (q : Int) ≤ 100 := by omega
                    have HQN := hid hqn
                    clear hS60 hf60 ho60 hm60 hw60 hwb60 hB60 q60 hfew hqn
                    by_cases hml : G6.mail = []
                    · have hdd : Hid (decide (0 ≤ (0 : Int) ∧ (0 : Int) < G6.mail.length) = false) := hid (decide_eq_false (by rw [hml]; simp))
                      have hnx : Hid (Pre G3 i o ln N (j + 1) G6) := hid (hM6.out.end hml)
                      have HML := hid hml
                      clear hml
                      go_wp2_with fail
                      refine hde.out.mono ?_
                      rintro e w7 ⟨rfl, G7, hd70, S7, q70, hS70, hu70⟩
                      have hG7 : G7 = G6 := by
                        rcases hd70 with ⟨_, e⟩ | ⟨m, _, h2, _⟩
                        · exact e
                        · rw [HML.out] at h2; simp at h2
                      subst hG7
                      have hfin : Hid (GAt S7 w7 w1.heap.size G7 ∧ (∀ q, S7 q → w1.heap.size ≤ q) ∧ Fit N us.length G7 ∧ (∀ s, One s G7) ∧ Pre G3 i o ln N (j + 1) G7 ∧ WRow w7 (.slice A0 ln c0) (G3.log o) ∧ (∀ b, (Value.slice A0 ln c0).ownBlock = some b → w1.heap.size ≤ b ∧ ¬ S7 b) ∧ Below w1.heap.size w1 w7) := hid (by
                        refine ⟨q70, fun j hj => ?_, hF6.out, hO6.out, hnx.out, hW6.out.upd hu70 fun b hb => (hWb6.out b hb).2, fun b hb => ⟨(hWb6.out b hb).1, fun h => ?_⟩, hB6.out.trans (hu70.below hB6.out.size fun j hj h => by have := hS6.out j h; omega)⟩
                        · rcases hS70 j hj with h | h
                          · exact hS6.out j h
                          · have := hB6.out.size; omega
                        · rcases hS70 b h with h | h
                          · exact (hWb6.out b hb).2 h
                          · have := hW6.out.lt hb; omega)
                      rw [hdd.out]
                      clear hd70 q70 hS70 hu70 hde
                      go_wp2_with fail
                      go_roundw
                      case rel => exact ⟨j + 1, S7, G7, by go_num, by have := hLT.out; omega, hfin.out⟩
                      case measure => have := hLT.out; simp [intOf]; omega
                    · have hdd : Hid (decide (0 ≤ (0 : Int) ∧ (0 : Int) < G6.mail.length) = true) := hid (decide_eq_true (by have := List.length_pos_iff.2 hml; omega))
                      have HML := hid hml
                      clear hml
                      go_wp2_with fail
                      refine hde.out.mono ?_
                      rintro e w7 ⟨rfl, G7, hd70, S7, q70, hS70, hu70⟩
                      have hfin : Hid (GAt S7 w7 w1.heap.size G7 ∧ (∀ q, S7 q → w1.heap.size ≤ q) ∧ Fit N us.length G7 ∧ (∀ s, One s G7) ∧ Mid G3 i o ln N j (q + 1) G7 ∧ WRow w7 (.slice A0 ln c0) (G3.log o) ∧ (∀ b, (Value.slice A0 ln c0).ownBlock = some b → w1.heap.size ≤ b ∧ ¬ S7 b) ∧ Below w1.heap.size w1 w7) := hid (by
                        refine ⟨q70, fun j hj => ?_, hF6.out.deliver hd70, fun s => (hO6.out s).deliver hF6.out hd70, hM6.out.step hN9.out HML.out hd70, hW6.out.upd hu70 fun b hb => (hWb6.out b hb).2, fun b hb => ⟨(hWb6.out b hb).1, fun h => ?_⟩, hB6.out.trans (hu70.below hB6.out.size fun j hj h => by have := hS6.out j h; omega)⟩
                        · rcases hS70 j hj with h | h
                          · exact hS6.out j h
                          · have := hB6.out.size; omega
                        · rcases hS70 b h with h | h
                          · exact (hWb6.out b hb).2 h
                          · have := hW6.out.lt hb; omega)
                      rw [hdd.out]
                      clear hd70 q70 hS70 hu70 hde
                      go_wp2_with fail
                      go_roundw
                      case rel => exact ⟨q + 1, S7, G7, by go_num, hfin.out⟩
                      case measure => have := HQN.out; simp [intOf]; omega
                · have t9 : decide ((j : Int) ≤ (ln : Int) / 8 + 1) = false := decide_eq_false hlt4
                  have hlt5 : (ln : Int) / 8 + 1 < j := Int.not_le.1 hlt4
                  clear hw1 hw2
                  have h8 : ln ≤ 8 * j := by omega
                  have hlogs := hid (hP4.out.logs h8 hO4.out hF3.out.len HLN.out hall.out)
                  have hlog := hid (log_any (i : Int) q40)
                  clear hlt4 q40
                  go_wp2_with fail
                  refine hlog.out.mono ?_
                  rintro e w5 ⟨v5, rfl, hown0, hb50⟩
                  obtain ⟨hw50, _⟩ := WRow.of_own hown0
                  have hlen5 : (G4.log i).length ≤ 256 := by
                    obtain ⟨p, q1, q2, _⟩ := logOf_form fun s => G4.st i s
                    show (logOf fun s => G4.st i s).length ≤ 256
                    rw [q2]; simpa using q1
                  obtain ⟨hlg1, hlg2⟩ := hlogs.out
                  obtain ⟨A5, c5, hv5, hown5⟩ := hw50
                  subst hv5
                  have hW5 : WRow w5 (.slice A0 ln c0) (G3.log o) := hW4.out.upd (.of_below' hb50 (fun _ => False)) fun _ _ h => h
                  have hB6 : Hid (Below w1.heap.size w1 w5) := hid (hB5.out.trans (hb50.mono hB5.out.size))
                  obtain ⟨l5, hl50⟩ : ∃ l5, G4.log i = l5 := ⟨_, rfl⟩
                  rw [hl50] at hlg1 hlg2 hlen5 hown5
                  simp only [hl50]
                  obtain ⟨AW, cW, hvW, hownW⟩ := hW5
                  rw [HLN.out] at hvW hownW
                  injection hvW with e1 e2 e3
                  subst e1 e3
                  have hrd1 : Rd (fun b => b < w5.heap.size) w5 1 A0 ln ((G3.log o).map .string) := (Rd.of_own hownW).more fun b hb hl => hl
                  have hrd5 : Rd (fun b => b < w5.heap.size) w5 1 A5 l5.length (l5.map .string) := (Rd.of_own hown5).more fun b hb hl => hl
                  have hcap : l5.length ≤ c5 := by
                    obtain ⟨A6, c6, e6, h6, _⟩ := own_form hown5
                    injection e6 with _ _ e6
                    omega
                  have htx0 := texts_same _ _ A5 A0 c5 c0 (G3.log o) w5 (by rw [HLN.out, ← hlg2]; exact rd_take hrd5 hlg1) (by rw [HLN.out]; exact hrd1) (by rw [HLN.out]; omega)
                  rw [HLN.out] at htx0
                  have htx := hid htx0
                  have hln5 : (ln : Int) ≤ (l5.length : Int) := by omega
                  have hl5x : (l5.length : Int) ≤ 256 := by omega
                  clear hown0 hb50 hown5 hownW hlogs hlog htx0 hrd1 hrd5
                  go_wp2_with fail
                  refine htx.out.mono ?_
                  rintro e w6 ⟨rfl, hb60⟩
                  have hB7 := hid (hB6.out.trans (hb60.mono hB6.out.size))
                  clear hb60 htx
                  go_wp2_with (go_at_call 11; refine (live_any _).mono ?_; rintro e w3 ⟨rfl, hb3⟩)
                  go_ret
                  exact ⟨rfl, hB7.out.trans (hb3.mono hB7.out.size)⟩

end Go.Proofs.Ytbgopicpdpkccaa


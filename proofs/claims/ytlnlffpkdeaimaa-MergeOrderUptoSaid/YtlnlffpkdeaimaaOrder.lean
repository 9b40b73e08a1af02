/- MergeOrder: the walk of the law. -/
import Derived.Test.YtlnlffpkdeaimaaTwo
import Derived.Test.YtlnlffpkdeaimaaAll
import Derived.Test.YtlnlffpkdeaimaaComplete
import Derived.Test.YtlnlffpkdeaimaaLive
namespace Go.Proofs.Ytlnlffpkdeaimaa
open Go.RowKit
set_option linter.unusedVariables false

set_option maxRecDepth 100000 in
set_option maxHeartbeats 4000000 in
theorem order_walk (n : Int) (A : Option Addr) (c : Nat) (us : List AR) (AT : Option Addr) (cT : Nat) (ts : List Int) (W : World) (ha : ActsOk (fun b => b < W.heap.size) W A us) (ht : Rd (fun b => b < W.heap.size) W 1 AT ts.length (ts.map (Value.int .i64))) (hl : us.length ≤ 1000000) (hlt0 : ts.length ≤ 2000000) (hp : partsAll us ≤ 100000000)
    (hr : ∀ a ∈ us, a.rs.length ≤ 1000000000 ∧ (∀ r ∈ a.rs, r.p.fits) ∧ a.x ≤ 9223372036854775807) :
    Calls Try.prog 4 #[.int .i64 n, .slice A us.length c, .slice AT ts.length cT] W fun e w' => e = .returned (.bool true) ∧ Below W.heap.size W w' := by
  go_enter Try.func4, Try.ntmps4
  go_wp2_with fail
  refine (long_any _ A c us W ha (by omega) hp fun a h => (hr a h).1).mono ?_
  rintro e w1 ⟨b, rfl, hb1⟩
  cases b with
  | true =>
    go_wp2_with fail
    go_ret
    exact ⟨rfl, hb1⟩
  | false =>
    by_cases hn : n < 1 ∨ 16 < n
    · go_wp2_with fail
      refine (mnew_bad n _ hn).mono ?_
      rintro e w' ⟨rfl, rfl⟩
      go_wp2_with fail
      refine (mnew_bad n _ hn).mono ?_
      rintro e w' ⟨rfl, rfl⟩
      go_wp2_with (first
        | (go_at_call 7; refine (mnum_any _ _).mono ?_; rintro e w' ⟨rfl, rfl⟩)
        | (go_at_call 8; refine (live_any _).mono ?_; rintro e w3 ⟨rfl, hb3⟩))
      go_ret
      exact ⟨rfl, hb1.trans (hb3.mono hb1.size)⟩
    · obtain ⟨N, rfl⟩ : ∃ N : Nat, n = (N : Int) := ⟨n.toNat, by omega⟩
      have hn1 : 1 ≤ (N : Int) := by omega
      have hn2 : (N : Int) ≤ 16 := by omega
      clear hn
      go_wp2_with fail
      refine (mnew_ok N _ hn1 hn2).mono ?_
      rintro e w2 ⟨gA, mA, rfl, ⟨hg0, hm0⟩, hM, hb2⟩
      go_wp2_with fail
      refine (mnew_ok N _ hn1 hn2).mono ?_
      rintro e w3 ⟨gB, mB, rfl, ⟨hg1, hm1⟩, hM1, hb3⟩
      have T0 : Two W N gA mA gB mB [] [] w3 := by
        have h1 := hb1.size
        have h2 := hb2.size
        have hgl := hM.blk.lt
        have hml := hM.map.lt
        exact ⟨hM.below hb3, hM1, (hb1.trans (hb2.mono h1)).trans (hb3.mono (by omega)), ⟨by omega, by omega⟩, ⟨by omega, by omega⟩, ⟨by omega, by omega, by omega, by omega⟩, by simp, by simp⟩
      clear hM hM1 hb1 hb2 hb3 hg0 hm0 hg1 hm1
      go_wp2_with (go_at_call 7; refine (mnum_any _ _).mono ?_; rintro e w' ⟨rfl, rfl⟩)
      go_loopw [6, 11] (fun _ v wr => OrdA W N gA mA gB mB us v wr) (fun _ v _ => us.length - (intOf v).toNat)
      case atStart => exact ⟨0, [], rfl, Nat.zero_le _, T0, Holds.nil⟩
      case round =>
        obtain ⟨i, HA, rfl, hi, T, hH⟩ := hrel
        by_cases hlt : i < us.length
        · have i1 : (i : Int) < (us.length : Int) := by omega
          obtain ⟨b, o, rfl, hbW, hbl, okp, a0, a1, a2, a3⟩ := (ha.below T.below).at_ hlt
          obtain ⟨hrl, hrf, hrx⟩ := hr _ (List.getElem_mem hlt)
          obtain ⟨cd, hcd0⟩ : ∃ cd, arrCode N 0 0 (held HA) us[i].x us[i].s (plans us[i].rs) = cd := ⟨_, rfl⟩
          have hcd := hid hcd0
          by_cases hc : cd = 0
          · subst hc
            clear hcd0
            have keepS : Hid (∀ w' : World, w'.heap[b]? = wr.heap[b]? → w'.cell? ⟨b, o + i * 4 + 1, none⟩ = some (.int .i64 us[i].s) ∧ w'.cell? ⟨b, o + i * 4 + 2, none⟩ = some (.int .i64 us[i].x) ∧ w'.cell? ⟨b, o + i * 4 + 3, none⟩ = some (.slice us[i].A us[i].rs.length us[i].c)) := fun w' h =>
              ⟨(World.cell?_of_block (w := wr) (a := ⟨b, o + i * 4 + 1, none⟩) h).trans a1, (World.cell?_of_block (w := wr) (a := ⟨b, o + i * 4 + 2, none⟩) h).trans a2, (World.cell?_of_block (w := wr) (a := ⟨b, o + i * 4 + 3, none⟩) h).trans a3⟩
            have Td := T.step (Below.refl _ _).drew
            have okd := okp.keep (w' := wr.drew) fun _ _ _ => rfl
            have hnewm := T.newA.2
            go_wp2_with fail
            go_region_held3 (fun w' => w'.cell? ⟨b, o + i * 4 + 1, none⟩ = some (.int .i64 us[i].s) ∧ w'.cell? ⟨b, o + i * 4 + 2, none⟩ = some (.int .i64 us[i].x) ∧ w'.cell? ⟨b, o + i * 4 + 3, none⟩ = some (.slice us[i].A us[i].rs.length us[i].c))
              (first | exact keepS.out _ hq3.out | exact keepS.out _ hq1.out | exact keepS.out _ rfl)
              (first
                | (go_at_call 12; refine (own_any _ us[i].A us[i].x us[i].c us[i].rs _ okd hrl hrf).mono ?_; rintro r w1 ⟨A1, c1, rs1, ⟨hp0, rfl⟩, hown, hb1⟩
                   have hp := hid hp0
                   have hl1 : rs1.length ≤ 1000000000 := by have := congrArg List.length hp0; simp [plans] at this; omega
                   have hf1 : ∀ r ∈ rs1, r.p.fits := fun r hr => by
                     have hr' : r.p ∈ plans us[i].rs := by rw [← hp0]; exact List.mem_map.2 ⟨r, hr, rfl⟩
                     obtain ⟨q, hq, hqe⟩ := List.mem_map.1 hr'
                     rw [← hqe]; exact hrf q hq
                   clear hp0
                   have hP := (PlansS.of_own hown).ok'
                   have T1 := Td.step hb1
                   have hq1 : Hid (w1.heap[b]? = wr.heap[b]?) := hid (hb1.block b (by simpa using hbl))
                   have hz1 := hb1.size
                   clear hown)
                | (go_at_call 11; refine (arrive_as hp.out _ gA mA N 0 0 us[i].x us[i].s HA A1 c1 w1 T1.a (by omega) hrx hP hl1 hf1).mono ?_; rintro r w3 ⟨H', rfl, hM', hH', hHn, hu3⟩; rw [hcd.out]
                   have hq3 : Hid (w3.heap[b]? = wr.heap[b]?) := hid ((hu3.block b (by simp at hz1; omega) (by omega)).trans hq1.out))
                | (go_at_call 7; refine (mnum_any _ _).mono ?_; rintro r w' ⟨rfl, rfl⟩))
            have T3 := T1.arr hM' hHn hu3
            go_wp2_with fail
            go_roundw
            case rel =>
              refine ⟨i + 1, H', by go_num, hlt, T3, ?_⟩
              rw [hH', actsD_take hlt]
              exact hH.step hcd.out
            case measure => simp [intOf]; omega
          · have hc1 : (cd != 0) = true := by simpa using hc
            clear hcd0 hc
            have keepS : Hid (∀ w' : World, w'.heap[b]? = wr.heap[b]? → w'.cell? ⟨b, o + i * 4 + 1, none⟩ = some (.int .i64 us[i].s) ∧ w'.cell? ⟨b, o + i * 4 + 2, none⟩ = some (.int .i64 us[i].x) ∧ w'.cell? ⟨b, o + i * 4 + 3, none⟩ = some (.slice us[i].A us[i].rs.length us[i].c)) := fun w' h =>
              ⟨(World.cell?_of_block (w := wr) (a := ⟨b, o + i * 4 + 1, none⟩) h).trans a1, (World.cell?_of_block (w := wr) (a := ⟨b, o + i * 4 + 2, none⟩) h).trans a2, (World.cell?_of_block (w := wr) (a := ⟨b, o + i * 4 + 3, none⟩) h).trans a3⟩
            have Td := T.step (Below.refl _ _).drew
            have okd := okp.keep (w' := wr.drew) fun _ _ _ => rfl
            have hnewm := T.newA.2
            go_wp2_with fail
            go_region_held3 (fun w' => w'.cell? ⟨b, o + i * 4 + 1, none⟩ = some (.int .i64 us[i].s) ∧ w'.cell? ⟨b, o + i * 4 + 2, none⟩ = some (.int .i64 us[i].x) ∧ w'.cell? ⟨b, o + i * 4 + 3, none⟩ = some (.slice us[i].A us[i].rs.length us[i].c))
              (first | exact keepS.out _ hq3.out | exact keepS.out _ hq1.out | exact keepS.out _ rfl)
              (first
                | (go_at_call 12; refine (own_any _ us[i].A us[i].x us[i].c us[i].rs _ okd hrl hrf).mono ?_; rintro r w1 ⟨A1, c1, rs1, ⟨hp0, rfl⟩, hown, hb1⟩
                   have hp := hid hp0
                   have hl1 : rs1.length ≤ 1000000000 := by have := congrArg List.length hp0; simp [plans] at this; omega
                   have hf1 : ∀ r ∈ rs1, r.p.fits := fun r hr => by
                     have hr' : r.p ∈ plans us[i].rs := by rw [← hp0]; exact List.mem_map.2 ⟨r, hr, rfl⟩
                     obtain ⟨q, hq, hqe⟩ := List.mem_map.1 hr'
                     rw [← hqe]; exact hrf q hq
                   clear hp0
                   have hP := (PlansS.of_own hown).ok'
                   have T1 := Td.step hb1
                   have hq1 : Hid (w1.heap[b]? = wr.heap[b]?) := hid (hb1.block b (by simpa using hbl))
                   have hz1 := hb1.size
                   clear hown)
                | (go_at_call 11; refine (arrive_as hp.out _ gA mA N 0 0 us[i].x us[i].s HA A1 c1 w1 T1.a (by omega) hrx hP hl1 hf1).mono ?_; rintro r w3 ⟨H', rfl, hM', hH', hHn, hu3⟩; rw [hcd.out]
                   have hq3 : Hid (w3.heap[b]? = wr.heap[b]?) := hid ((hu3.block b (by simp at hz1; omega) (by omega)).trans hq1.out))
                | (go_at_call 7; refine (mnum_any _ _).mono ?_; rintro r w' ⟨rfl, rfl⟩))
            have T3 := T1.arr hM' hHn hu3
            go_wp2_with (go_at_call 8; refine (live_any _).mono ?_; rintro e w9 ⟨rfl, hb9⟩)
            go_ret
            exact ⟨rfl, T3.below.trans (hb9.mono T3.below.size)⟩
        · obtain rfl : i = us.length := by omega
          rw [List.take_length] at hH
          have hH := hid hH
          go_wp2_with fail
          go_loopw [12] (fun v wr => OrdB W N gA mA gB mB us HA ts.length v wr) (fun v _ => ts.length - (intOf v).toNat)
          case atStart => exact ⟨0, [], rfl, Nat.zero_le _, T, fun k ps h => by simp [held, getA] at h⟩
          case round =>
            clear T
            obtain ⟨i, HB, rfl, hi, T, hP⟩ := hrel
            by_cases hlt : i < ts.length
            · have i1 : (i : Int) < (ts.length : Int) := by omega
              by_cases hl0 : us.length = 0
              · have hdl : ¬ 0 < us.length := by omega
                have hl0' := hid hl0
                clear hl0
                go_wp2_with fail
                clear hdl
                go_loopw [14] (fun v wr => OrdC W N gA mA gB mB us HA v wr) (fun v _ => (intOf v + 1).toNat)
                case atStart => exact ⟨us.length, HB, by go_num, Nat.le_refl _, T, hP, fun j h hj => by omega⟩
                case round =>
                  clear T hP
                  obtain ⟨i, HB, rfl, hi, T, hP, hD⟩ := hrel
                  cases i with
                  | succ i =>
                    have hlt : i < us.length := hi
                    exact absurd hlt (by have := hl0'.out; omega)
                  | zero =>
                    have hsame : ∀ k, getA k (held HA) = getA k (held HB) := same_held hH.out hP fun k qs hm => by
                      obtain ⟨a, ham, he⟩ := List.mem_map.1 hm
                      obtain ⟨j, hj, rfl⟩ := List.getElem_of_mem ham
                      obtain ⟨rfl, rfl⟩ := Prod.mk.inj he
                      exact hD j hj (Nat.zero_le _)
                    have hxy0 : held (takesN N (us.length + 1) 0 HA) = held (takesN N (us.length + 1) 0 HB) := by
                      rw [takesN_held, takesN_held]
                      exact takesN_congr _ _ _ _ _ fun j _ => hsame _
                    have hcomp0 : (takesN N (us.length + 1) 0 HA).length = gapN (fun k => us.any (atN N · k)) (us.length + 1) 0 := by
                      rw [← held_len, takesN_held, takes_complete hH.out]
                      congr 1
                      funext k
                      simp only [actsD, List.any_map]
                      rfl
                    have hxk0 := fun i h => takesN_key N (us.length + 1) 0 HA i h
                    have hxm0 := fun h hh => takesN_sub N (us.length + 1) 0 HA h hh
                    have hym0 := fun h hh => takesN_sub N (us.length + 1) 0 HB h hh
                    have hle0 := takesN_le N (us.length + 1) 0 HA
                    have hxm := hid hxm0
                    have hym := hid hym0
                    have hxk := hid hxk0
                    have hxy := hid hxy0
                    have hcomp := hid hcomp0
                    clear hD hP hsame hxy0 hcomp0 hxk0 hxm0 hym0
                    go_wp2_with fail
                    refine (all_any gA mA N HA (us.length + 1) _ T.a (by omega) (by omega) (by omega) (by omega)).mono ?_
                    rintro r w5 ⟨Ax, cx, rfl, hox, hu5⟩
                    have hb5 : Below W.heap.size wr w5 := hu5.below T.below.size fun k hk h => by have := T.newA; rcases h with h | h <;> omega
                    have hMB : MergeAt w5 gB mB N 0 0 HB := T.b.upd hu5 (by rintro (h | h); exact T.ne.1 h.symm; exact T.ne.2.2.1 h.symm) (by rintro (h | h); exact T.ne.2.1 h.symm; exact T.ne.2.2.2 h.symm) (fun x hx k hk h => by have := T.hB x hx k hk; rcases h with h | h; exact this.2.1 h; exact this.2.2 h)
                    go_wp2_with fail
                    refine (all_any gB mB N HB (us.length + 1) _ hMB (by omega) (by omega) (by omega) (by omega)).mono ?_
                    rintro r w6 ⟨Ay, cy, rfl, hoy, hu6⟩
                    have hz5 := hu5.size
                    have hz6 := hu6.size
                    have hb6 : Below W.heap.size w5 w6 := hu6.below (Nat.le_trans T.below.size hz5) fun k hk h => by have := T.newB; rcases h with h | h <;> omega
                    have hBW : Below W.heap.size W w6 := (T.below.trans hb5).trans hb6
                    have hgBl := T.b.blk.lt
                    have hmBl := T.b.map.lt
                    have hX : Rd (fun b => b < w6.heap.size) w6 3 Ax _ _ := (Rd.of_own (own_upd hox hu6 fun k hk _ h => by rcases h with h | h <;> omega)).all
                    have hY : Rd (fun b => b < w6.heap.size) w6 3 Ay _ _ := (Rd.of_own hoy).all
                    have hpA : ∀ h ∈ HA, PlansOk h.2.S w6 h.2.A h.2.rs := fun h hh => (((T.a.plans h hh).keep fun b hb hl => hu5.block b hl (by have := T.a.out h hh b hb; rintro (e | e); exact this.1 e; exact this.2.1 e)).keep fun b hb hl => hu6.block b hl (by have := T.hA h hh b hb; rintro (e | e); exact this.2.1 e; exact this.2.2 e)).ok'
                    have hpB : ∀ h ∈ HB, PlansOk h.2.S w6 h.2.A h.2.rs := fun h hh => ((((T.b.plans h hh).keep fun b hb hl => hu5.block b hl (by have := T.hB h hh b hb; rintro (e | e); exact this.2.1 e; exact this.2.2 e))).keep fun b hb hl => hu6.block b hl (by have := T.b.out h hh b hb; rintro (e | e); exact this.1 e; exact this.2.1 e)).ok'
                    have hfA := T.a.fits
                    have hfB := T.b.fits
                    have hpA := hid hpA
                    have hpB := hid hpB
                    have hfA := hid hfA
                    have hfB := hid hfB
                    clear T hox hoy hMB hu5 hu6 hb5 hb6
                    generalize takesN N (us.length + 1) 0 HA = xs at *
                    generalize takesN N (us.length + 1) 0 HB = ys at *
                    have hlen : ys.length = xs.length := by
                      have := congrArg List.length hxy.out
                      rw [held_len, held_len] at this
                      exact this.symm
                    have hX := hid hX
                    have hY := hid hY
                    rw [hlen]
                    have hlen := hid hlen
                    go_wp2_with fail
                    go_loopw [17] (fun v wr => ∃ i : Nat, v = .int .i64 i ∧ i ≤ xs.length ∧ Below w6.heap.size w6 wr) (fun v _ => xs.length - (intOf v).toNat)
                    case atStart => exact ⟨0, rfl, Nat.zero_le _, Below.refl _ _⟩
                    case round =>
                      obtain ⟨i, rfl, hi, hB⟩ := hrel
                      by_cases hlt : i < xs.length
                      · have i1 : (i : Int) < (xs.length : Int) := by omega
                        have hlt2 : i < ys.length := by rw [hlen.out]; exact hlt
                        obtain ⟨bx, ox, rfl, _, hbx, x0, x1, x2⟩ := orow_at (hX.out.below_all hB) hlt
                        obtain ⟨bz, oz, rfl, _, hbz, y0, y1, y2⟩ := orow_at (hY.out.below_all hB) hlt2
                        obtain ⟨hk1, hpl0⟩ := held_at hxy.out hlt hlt2
                        have hk0 : xs[i].1 = (((i / N : Nat) : Int), ((i % N : Nat) : Int)) := by rw [hxk.out i hlt, Nat.zero_add]; rfl
                        rw [← hk1, hk0] at y0 y1
                        rw [hk0] at x0 x1
                        simp only at x0 x1 y0 y1
                        have hpl := hid hpl0
                        have hpx := (hpA.out _ (hxm.out _ (List.getElem_mem hlt))).keep (w' := wr.drew) fun b hb hl => hB.block b hl
                        have hpy := (hpB.out _ (hym.out _ (List.getElem_mem hlt2))).keep (w' := wr.drew) fun b hb hl => hB.block b hl
                        have hfx := hfA.out _ (hxm.out _ (List.getElem_mem hlt))
                        have hfy := hfB.out _ (hym.out _ (List.getElem_mem hlt2))
                        have hN0 : ¬ N = 0 := by omega
                        have hd1 : i / N ≤ i := Nat.div_le_self _ _
                        have hd2 : i % N < N := Nat.mod_lt _ (by omega)
                        have hwq : IntKind.i64.wrap ((i : Int) / (N : Int)) = ((i / N : Nat) : Int) := by
                          rw [show (i : Int) / (N : Int) = ((i / N : Nat) : Int) from by simp]; exact wrap_nat _ (Nat.le_trans hd1 (by omega))
                        have hrI : (i : Int) % (N : Int) = ((i % N : Nat) : Int) := by simp
                        have hrT : Int.tmod (i : Int) (N : Int) = ((i % N : Nat) : Int) := by rw [Int.tmod_eq_emod_of_nonneg (by omega)]; exact hrI
                        have hk0 := hid hk0
                        clear hk1 hpl0
                        obtain ⟨q, hq⟩ : ∃ q, i / N = q := ⟨_, rfl⟩
                        obtain ⟨r, hr⟩ : ∃ r, i % N = r := ⟨_, rfl⟩
                        rw [hq] at x0 y0 hwq
                        rw [hr] at x1 y1 hrT
                        clear hq hr hd1 hd2 hrI
                        have hsm : Hid (eqO r r q q (plans xs[i].2.rs) (plans ys[i].2.rs) = true) := by
                          have : eqO r r q q (plans xs[i].2.rs) (plans ys[i].2.rs) = true := by rw [hpl.out]; simp [eqO, eqB]
                          exact hid this
                        have keepS : Hid (∀ w' : World, Below wr.heap.size wr w' → w'.cell? ⟨bx, ox + i * 3, none⟩ = some (.int .i64 q) ∧ w'.cell? ⟨bx, ox + i * 3 + 1, none⟩ = some (.int .i64 r) ∧ w'.cell? ⟨bx, ox + i * 3 + 2, none⟩ = some (.slice xs[i].2.A xs[i].2.rs.length xs[i].2.c) ∧ w'.cell? ⟨bz, oz + i * 3, none⟩ = some (.int .i64 q) ∧ w'.cell? ⟨bz, oz + i * 3 + 1, none⟩ = some (.int .i64 r) ∧ w'.cell? ⟨bz, oz + i * 3 + 2, none⟩ = some (.slice ys[i].2.A ys[i].2.rs.length ys[i].2.c)) := fun w' h =>
                          ⟨(h.cell (p := ⟨bx, ox + i * 3, none⟩) hbx).trans x0, (h.cell (p := ⟨bx, ox + i * 3 + 1, none⟩) hbx).trans x1, (h.cell (p := ⟨bx, ox + i * 3 + 2, none⟩) hbx).trans x2, (h.cell (p := ⟨bz, oz + i * 3, none⟩) hbz).trans y0, (h.cell (p := ⟨bz, oz + i * 3 + 1, none⟩) hbz).trans y1, (h.cell (p := ⟨bz, oz + i * 3 + 2, none⟩) hbz).trans y2⟩
                        go_wp2_with fail
                        go_region_held3 (fun w' => w'.cell? ⟨bx, ox + i * 3, none⟩ = some (.int .i64 q) ∧ w'.cell? ⟨bx, ox + i * 3 + 1, none⟩ = some (.int .i64 r) ∧ w'.cell? ⟨bx, ox + i * 3 + 2, none⟩ = some (.slice xs[i].2.A xs[i].2.rs.length xs[i].2.c) ∧ w'.cell? ⟨bz, oz + i * 3, none⟩ = some (.int .i64 q) ∧ w'.cell? ⟨bz, oz + i * 3 + 1, none⟩ = some (.int .i64 r) ∧ w'.cell? ⟨bz, oz + i * 3 + 2, none⟩ = some (.slice ys[i].2.A ys[i].2.rs.length ys[i].2.c))
                          (first | exact keepS.out _ hq7 | exact keepS.out _ (below_drewN hq7 _) | exact keepS.out _ (Below.refl _ _).drew | exact keepS.out _ (Below.refl _ _))
                          ((go_at_call 14; refine (rsame_any xs[i].2.S ys[i].2.S xs[i].2.A ys[i].2.A xs[i].2.rs ys[i].2.rs q q r r xs[i].2.c ys[i].2.c _ hpx hpy hfx.1 hfy.1 hfx.2 hfy.2).mono ?_; rw [hsm.out]; rintro e w7 ⟨rfl, hb7⟩; have hq7 : Below wr.heap.size wr w7 := ((Below.refl _ wr).drew).trans hb7))
                        go_wp2_with fail
                        go_roundw
                        case rel => exact ⟨i + 1, by go_num, hlt, hB.trans (hq7.mono hB.size)⟩
                        case measure => simp [intOf]; omega
                      · obtain rfl : i = xs.length := by omega
                        go_wp2_with (first
                          | (go_at_call 15; refine (complete_any _ N A c us _ (ha.below (hBW.trans (hB.mono hBW.size))) hl (by omega) (by omega)).mono ?_; rw [← hcomp.out]; rintro r w8 ⟨rfl, hb8⟩)
                          | (go_at_call 8; refine (live_any _).mono ?_; rintro e w9 ⟨rfl, hb9⟩))
                        go_ret
                        have hz8 := hBW.size
                        have hB6 := hBW.trans (hB.mono hz8)
                        have hB8 := hB6.trans (hb8.mono hB6.size)
                        exact ⟨rfl, hB8.trans (hb9.mono hB8.size)⟩
              · have hl1 : (0 : Int) < (us.length : Int) := by omega
                obtain ⟨bt, ot, rfl, _, hbtl, hct⟩ := (ht.below_all T.below).at_ hlt
                have t0 := hct i (.int .i64 ts[i]) (by simp [hlt])
                clear hct
                have hN0 : ¬ us.length = 0 := hl0
                obtain ⟨kk, hkk, hm1⟩ := turn_at ts[i] us.length (by omega) (by omega)
                obtain ⟨b, o, rfl, hbW, hbl, okp, a0, a1, a2, a3⟩ := (ha.below T.below).at_ hkk
                obtain ⟨hrl, hrf, hrx⟩ := hr _ (List.getElem_mem hkk)
                obtain ⟨hcd0, hP2, hD2⟩ := PartOf.step hH.out hP (actsD_mem hkk)
                have hcd := hid hcd0
                have hkI : (kk : Int) < (us.length : Int) := by omega
                clear hcd0 hD2
                have keepS : Hid (∀ w' : World, w'.heap[b]? = wr.heap[b]? → w'.cell? ⟨b, o + kk * 4 + 1, none⟩ = some (.int .i64 us[kk].s) ∧ w'.cell? ⟨b, o + kk * 4 + 2, none⟩ = some (.int .i64 us[kk].x) ∧ w'.cell? ⟨b, o + kk * 4 + 3, none⟩ = some (.slice us[kk].A us[kk].rs.length us[kk].c)) := fun w' h =>
                  ⟨(World.cell?_of_block (w := wr) (a := ⟨b, o + kk * 4 + 1, none⟩) h).trans a1, (World.cell?_of_block (w := wr) (a := ⟨b, o + kk * 4 + 2, none⟩) h).trans a2, (World.cell?_of_block (w := wr) (a := ⟨b, o + kk * 4 + 3, none⟩) h).trans a3⟩
                have Td := T.step (Below.refl _ _).drew
                have okd := okp.keep (w' := wr.drew) fun _ _ _ => rfl
                have hnewm := T.newB.2
                go_wp2_with fail
                go_region_held3 (fun w' => w'.cell? ⟨b, o + kk * 4 + 1, none⟩ = some (.int .i64 us[kk].s) ∧ w'.cell? ⟨b, o + kk * 4 + 2, none⟩ = some (.int .i64 us[kk].x) ∧ w'.cell? ⟨b, o + kk * 4 + 3, none⟩ = some (.slice us[kk].A us[kk].rs.length us[kk].c))
                  (first | exact keepS.out _ hq3.out | exact keepS.out _ hq1.out | exact keepS.out _ rfl)
                  (first
                    | (go_at_call 12; refine (own_any _ us[kk].A us[kk].x us[kk].c us[kk].rs _ okd hrl hrf).mono ?_; rintro r w1 ⟨A1, c1, rs1, ⟨hp0, rfl⟩, hown, hb1⟩
                       have hp := hid hp0
                       have hl1 : rs1.length ≤ 1000000000 := by have := congrArg List.length hp0; simp [plans] at this; omega
                       have hf1 : ∀ r ∈ rs1, r.p.fits := fun r hr => by
                         have hr' : r.p ∈ plans us[kk].rs := by rw [← hp0]; exact List.mem_map.2 ⟨r, hr, rfl⟩
                         obtain ⟨q, hq, hqe⟩ := List.mem_map.1 hr'
                         rw [← hqe]; exact hrf q hq
                       clear hp0
                       have hP := (PlansS.of_own hown).ok'
                       have T1 := Td.step hb1
                       have hq1 : Hid (w1.heap[b]? = wr.heap[b]?) := hid (hb1.block b (by simpa using hbl))
                       have hz1 := hb1.size
                       clear hown)
                    | (go_at_call 11; refine (arrive_as hp.out _ gB mB N 0 0 us[kk].x us[kk].s HB A1 c1 w1 T1.swap.a (by omega) hrx hP hl1 hf1).mono ?_; rintro r w3 ⟨H', rfl, hM', hH', hHn, hu3⟩; rw [hcd.out]
                       have hq3 : Hid (w3.heap[b]? = wr.heap[b]?) := hid ((hu3.block b (by simp at hz1; omega) (by omega)).trans hq1.out))
                    | (go_at_call 7; refine (mnum_any _ _).mono ?_; rintro r w' ⟨rfl, rfl⟩))
                have T3 := (T1.swap.arr hM' hHn hu3).swap
                rw [← hH'] at hP2
                go_wp2_with fail
                go_roundw
                case rel => exact ⟨i + 1, H', by go_num, hlt, T3, hP2⟩
                case measure => simp [intOf]; omega
            · obtain rfl : i = ts.length := by omega
              go_wp2_with fail
              go_loopw [14] (fun v wr => OrdC W N gA mA gB mB us HA v wr) (fun v _ => (intOf v + 1).toNat)
              case atStart => exact ⟨us.length, HB, by go_num, Nat.le_refl _, T, hP, fun j h hj => by omega⟩
              case round =>
                clear T hP
                obtain ⟨i, HB, rfl, hi, T, hP, hD⟩ := hrel
                cases i with
                | succ i =>
                  have hlt : i < us.length := hi
                  have hD := hid hD
                  rw [show (((i + 1 : Nat) : Int) - 1) = (i : Int) from by omega]
                  obtain ⟨b, o, rfl, hbW, hbl, okp, a0, a1, a2, a3⟩ := (ha.below T.below).at_ hlt
                  obtain ⟨hrl, hrf, hrx⟩ := hr _ (List.getElem_mem hlt)
                  obtain ⟨hcd0, hP2, hD2⟩ := PartOf.step hH.out hP (actsD_mem hlt)
                  have hcd := hid hcd0
                  have hD2 := hid hD2
                  clear hcd0
                  have keepS : Hid (∀ w' : World, w'.heap[b]? = wr.heap[b]? → w'.cell? ⟨b, o + i * 4 + 1, none⟩ = some (.int .i64 us[i].s) ∧ w'.cell? ⟨b, o + i * 4 + 2, none⟩ = some (.int .i64 us[i].x) ∧ w'.cell? ⟨b, o + i * 4 + 3, none⟩ = some (.slice us[i].A us[i].rs.length us[i].c)) := fun w' h =>
                    ⟨(World.cell?_of_block (w := wr) (a := ⟨b, o + i * 4 + 1, none⟩) h).trans a1, (World.cell?_of_block (w := wr) (a := ⟨b, o + i * 4 + 2, none⟩) h).trans a2, (World.cell?_of_block (w := wr) (a := ⟨b, o + i * 4 + 3, none⟩) h).trans a3⟩
                  have Td := T.step (Below.refl _ _).drew
                  have okd := okp.keep (w' := wr.drew) fun _ _ _ => rfl
                  have hnewm := T.newB.2
                  go_wp2_with fail
                  go_region_held3 (fun w' => w'.cell? ⟨b, o + i * 4 + 1, none⟩ = some (.int .i64 us[i].s) ∧ w'.cell? ⟨b, o + i * 4 + 2, none⟩ = some (.int .i64 us[i].x) ∧ w'.cell? ⟨b, o + i * 4 + 3, none⟩ = some (.slice us[i].A us[i].rs.length us[i].c))
                    (first | exact keepS.out _ hq3.out | exact keepS.out _ hq1.out | exact keepS.out _ rfl)
                    (first
                      | (go_at_call 12; refine (own_any _ us[i].A us[i].x us[i].c us[i].rs _ okd hrl hrf).mono ?_; rintro r w1 ⟨A1, c1, rs1, ⟨hp0, rfl⟩, hown, hb1⟩
                         have hp := hid hp0
                         have hl1 : rs1.length ≤ 1000000000 := by have := congrArg List.length hp0; simp [plans] at this; omega
                         have hf1 : ∀ r ∈ rs1, r.p.fits := fun r hr => by
                           have hr' : r.p ∈ plans us[i].rs := by rw [← hp0]; exact List.mem_map.2 ⟨r, hr, rfl⟩
                           obtain ⟨q, hq, hqe⟩ := List.mem_map.1 hr'
                           rw [← hqe]; exact hrf q hq
                         clear hp0
                         have hP := (PlansS.of_own hown).ok'
                         have T1 := Td.step hb1
                         have hq1 : Hid (w1.heap[b]? = wr.heap[b]?) := hid (hb1.block b (by simpa using hbl))
                         have hz1 := hb1.size
                         clear hown)
                      | (go_at_call 11; refine (arrive_as hp.out _ gB mB N 0 0 us[i].x us[i].s HB A1 c1 w1 T1.swap.a (by omega) hrx hP hl1 hf1).mono ?_; rintro r w3 ⟨H', rfl, hM', hH', hHn, hu3⟩; rw [hcd.out]
                         have hq3 : Hid (w3.heap[b]? = wr.heap[b]?) := hid ((hu3.block b (by simp at hz1; omega) (by omega)).trans hq1.out))
                      | (go_at_call 7; refine (mnum_any _ _).mono ?_; rintro r w' ⟨rfl, rfl⟩))
                  have T3 := (T1.swap.arr hM' hHn hu3).swap
                  rw [← hH'] at hP2
                  go_wp2_with fail
                  go_roundw
                  case rel =>
                    refine ⟨i, H', by go_num, by omega, T3, hP2, fun j h hj => ?_⟩
                    rw [hH']
                    refine hD2.out _ _ (actsD_mem h) ?_
                    rcases Nat.lt_or_ge i j with h1 | h1
                    · exact .inr (hD.out j h h1)
                    · obtain rfl : j = i := by omega
                      exact .inl rfl
                  case measure => simp [intOf]
                | zero =>
                  have hsame : ∀ k, getA k (held HA) = getA k (held HB) := same_held hH.out hP fun k qs hm => by
                    obtain ⟨a, ham, he⟩ := List.mem_map.1 hm
                    obtain ⟨j, hj, rfl⟩ := List.getElem_of_mem ham
                    obtain ⟨rfl, rfl⟩ := Prod.mk.inj he
                    exact hD j hj (Nat.zero_le _)
                  have hxy0 : held (takesN N (us.length + 1) 0 HA) = held (takesN N (us.length + 1) 0 HB) := by
                    rw [takesN_held, takesN_held]
                    exact takesN_congr _ _ _ _ _ fun j _ => hsame _
                  have hcomp0 : (takesN N (us.length + 1) 0 HA).length = gapN (fun k => us.any (atN N · k)) (us.length + 1) 0 := by
                    rw [← held_len, takesN_held, takes_complete hH.out]
                    congr 1
                    funext k
                    simp only [actsD, List.any_map]
                    rfl
                  have hxk0 := fun i h => takesN_key N (us.length + 1) 0 HA i h
                  have hxm0 := fun h hh => takesN_sub N (us.length + 1) 0 HA h hh
                  have hym0 := fun h hh => takesN_sub N (us.length + 1) 0 HB h hh
                  have hle0 := takesN_le N (us.length + 1) 0 HA
                  have hxm := hid hxm0
                  have hym := hid hym0
                  have hxk := hid hxk0
                  have hxy := hid hxy0
                  have hcomp := hid hcomp0
                  clear hD hP hsame hxy0 hcomp0 hxk0 hxm0 hym0
                  go_wp2_with fail
                  refine (all_any gA mA N HA (us.length + 1) _ T.a (by omega) (by omega) (by omega) (by omega)).mono ?_
                  rintro r w5 ⟨Ax, cx, rfl, hox, hu5⟩
                  have hb5 : Below W.heap.size wr w5 := hu5.below T.below.size fun k hk h => by have := T.newA; rcases h with h | h <;> omega
                  have hMB : MergeAt w5 gB mB N 0 0 HB := T.b.upd hu5 (by rintro (h | h); exact T.ne.1 h.symm; exact T.ne.2.2.1 h.symm) (by rintro (h | h); exact T.ne.2.1 h.symm; exact T.ne.2.2.2 h.symm) (fun x hx k hk h => by have := T.hB x hx k hk; rcases h with h | h; exact this.2.1 h; exact this.2.2 h)
                  go_wp2_with fail
                  refine (all_any gB mB N HB (us.length + 1) _ hMB (by omega) (by omega) (by omega) (by omega)).mono ?_
                  rintro r w6 ⟨Ay, cy, rfl, hoy, hu6⟩
                  have hz5 := hu5.size
                  have hz6 := hu6.size
                  have hb6 : Below W.heap.size w5 w6 := hu6.below (Nat.le_trans T.below.size hz5) fun k hk h => by have := T.newB; rcases h with h | h <;> omega
                  have hBW : Below W.heap.size W w6 := (T.below.trans hb5).trans hb6
                  have hgBl := T.b.blk.lt
                  have hmBl := T.b.map.lt
                  have hX : Rd (fun b => b < w6.heap.size) w6 3 Ax _ _ := (Rd.of_own (own_upd hox hu6 fun k hk _ h => by rcases h with h | h <;> omega)).all
                  have hY : Rd (fun b => b < w6.heap.size) w6 3 Ay _ _ := (Rd.of_own hoy).all
                  have hpA : ∀ h ∈ HA, PlansOk h.2.S w6 h.2.A h.2.rs := fun h hh => (((T.a.plans h hh).keep fun b hb hl => hu5.block b hl (by have := T.a.out h hh b hb; rintro (e | e); exact this.1 e; exact this.2.1 e)).keep fun b hb hl => hu6.block b hl (by have := T.hA h hh b hb; rintro (e | e); exact this.2.1 e; exact this.2.2 e)).ok'
                  have hpB : ∀ h ∈ HB, PlansOk h.2.S w6 h.2.A h.2.rs := fun h hh => ((((T.b.plans h hh).keep fun b hb hl => hu5.block b hl (by have := T.hB h hh b hb; rintro (e | e); exact this.2.1 e; exact this.2.2 e))).keep fun b hb hl => hu6.block b hl (by have := T.b.out h hh b hb; rintro (e | e); exact this.1 e; exact this.2.1 e)).ok'
                  have hfA := T.a.fits
                  have hfB := T.b.fits
                  have hpA := hid hpA
                  have hpB := hid hpB
                  have hfA := hid hfA
                  have hfB := hid hfB
                  clear T hox hoy hMB hu5 hu6 hb5 hb6
                  generalize takesN N (us.length + 1) 0 HA = xs at *
                  generalize takesN N (us.length + 1) 0 HB = ys at *
                  have hlen : ys.length = xs.length := by
                    have := congrArg List.length hxy.out
                    rw [held_len, held_len] at this
                    exact this.symm
                  have hX := hid hX
                  have hY := hid hY
                  rw [hlen]
                  have hlen := hid hlen
                  go_wp2_with fail
                  go_loopw [17] (fun v wr => ∃ i : Nat, v = .int .i64 i ∧ i ≤ xs.length ∧ Below w6.heap.size w6 wr) (fun v _ => xs.length - (intOf v).toNat)
                  case atStart => exact ⟨0, rfl, Nat.zero_le _, Below.refl _ _⟩
                  case round =>
                    obtain ⟨i, rfl, hi, hB⟩ := hrel
                    by_cases hlt : i < xs.length
                    · have i1 : (i : Int) < (xs.length : Int) := by omega
                      have hlt2 : i < ys.length := by rw [hlen.out]; exact hlt
                      obtain ⟨bx, ox, rfl, _, hbx, x0, x1, x2⟩ := orow_at (hX.out.below_all hB) hlt
                      obtain ⟨bz, oz, rfl, _, hbz, y0, y1, y2⟩ := orow_at (hY.out.below_all hB) hlt2
                      obtain ⟨hk1, hpl0⟩ := held_at hxy.out hlt hlt2
                      have hk0 : xs[i].1 = (((i / N : Nat) : Int), ((i % N : Nat) : Int)) := by rw [hxk.out i hlt, Nat.zero_add]; rfl
                      rw [← hk1, hk0] at y0 y1
                      rw [hk0] at x0 x1
                      simp only at x0 x1 y0 y1
                      have hpl := hid hpl0
                      have hpx := (hpA.out _ (hxm.out _ (List.getElem_mem hlt))).keep (w' := wr.drew) fun b hb hl => hB.block b hl
                      have hpy := (hpB.out _ (hym.out _ (List.getElem_mem hlt2))).keep (w' := wr.drew) fun b hb hl => hB.block b hl
                      have hfx := hfA.out _ (hxm.out _ (List.getElem_mem hlt))
                      have hfy := hfB.out _ (hym.out _ (List.getElem_mem hlt2))
                      have hN0 : ¬ N = 0 := by omega
                      have hd1 : i / N ≤ i := Nat.div_le_self _ _
                      have hd2 : i % N < N := Nat.mod_lt _ (by omega)
                      have hwq : IntKind.i64.wrap ((i : Int) / (N : Int)) = ((i / N : Nat) : Int) := by
                        rw [show (i : Int) / (N : Int) = ((i / N : Nat) : Int) from by simp]; exact wrap_nat _ (Nat.le_trans hd1 (by omega))
                      have hrI : (i : Int) % (N : Int) = ((i % N : Nat) : Int) := by simp
                      have hrT : Int.tmod (i : Int) (N : Int) = ((i % N : Nat) : Int) := by rw [Int.tmod_eq_emod_of_nonneg (by omega)]; exact hrI
                      have hk0 := hid hk0
                      clear hk1 hpl0
                      obtain ⟨q, hq⟩ : ∃ q, i / N = q := ⟨_, rfl⟩
                      obtain ⟨r, hr⟩ : ∃ r, i % N = r := ⟨_, rfl⟩
                      rw [hq] at x0 y0 hwq
                      rw [hr] at x1 y1 hrT
                      clear hq hr hd1 hd2 hrI
                      have hsm : Hid (eqO r r q q (plans xs[i].2.rs) (plans ys[i].2.rs) = true) := by
                        have : eqO r r q q (plans xs[i].2.rs) (plans ys[i].2.rs) = true := by rw [hpl.out]; simp [eqO, eqB]
                        exact hid this
                      have keepS : Hid (∀ w' : World, Below wr.heap.size wr w' → w'.cell? ⟨bx, ox + i * 3, none⟩ = some (.int .i64 q) ∧ w'.cell? ⟨bx, ox + i * 3 + 1, none⟩ = some (.int .i64 r) ∧ w'.cell? ⟨bx, ox + i * 3 + 2, none⟩ = some (.slice xs[i].2.A xs[i].2.rs.length xs[i].2.c) ∧ w'.cell? ⟨bz, oz + i * 3, none⟩ = some (.int .i64 q) ∧ w'.cell? ⟨bz, oz + i * 3 + 1, none⟩ = some (.int .i64 r) ∧ w'.cell? ⟨bz, oz + i * 3 + 2, none⟩ = some (.slice ys[i].2.A ys[i].2.rs.length ys[i].2.c)) := fun w' h =>
                        ⟨(h.cell (p := ⟨bx, ox + i * 3, none⟩) hbx).trans x0, (h.cell (p := ⟨bx, ox + i * 3 + 1, none⟩) hbx).trans x1, (h.cell (p := ⟨bx, ox + i * 3 + 2, none⟩) hbx).trans x2, (h.cell (p := ⟨bz, oz + i * 3, none⟩) hbz).trans y0, (h.cell (p := ⟨bz, oz + i * 3 + 1, none⟩) hbz).trans y1, (h.cell (p := ⟨bz, oz + i * 3 + 2, none⟩) hbz).trans y2⟩
                      go_wp2_with fail
                      go_region_held3 (fun w' => w'.cell? ⟨bx, ox + i * 3, none⟩ = some (.int .i64 q) ∧ w'.cell? ⟨bx, ox + i * 3 + 1, none⟩ = some (.int .i64 r) ∧ w'.cell? ⟨bx, ox + i * 3 + 2, none⟩ = some (.slice xs[i].2.A xs[i].2.rs.length xs[i].2.c) ∧ w'.cell? ⟨bz, oz + i * 3, none⟩ = some (.int .i64 q) ∧ w'.cell? ⟨bz, oz + i * 3 + 1, none⟩ = some (.int .i64 r) ∧ w'.cell? ⟨bz, oz + i * 3 + 2, none⟩ = some (.slice ys[i].2.A ys[i].2.rs.length ys[i].2.c))
                        (first | exact keepS.out _ hq7 | exact keepS.out _ (below_drewN hq7 _) | exact keepS.out _ (Below.refl _ _).drew | exact keepS.out _ (Below.refl _ _))
                        ((go_at_call 14; refine (rsame_any xs[i].2.S ys[i].2.S xs[i].2.A ys[i].2.A xs[i].2.rs ys[i].2.rs q q r r xs[i].2.c ys[i].2.c _ hpx hpy hfx.1 hfy.1 hfx.2 hfy.2).mono ?_; rw [hsm.out]; rintro e w7 ⟨rfl, hb7⟩; have hq7 : Below wr.heap.size wr w7 := ((Below.refl _ wr).drew).trans hb7))
                      go_wp2_with fail
                      go_roundw
                      case rel => exact ⟨i + 1, by go_num, hlt, hB.trans (hq7.mono hB.size)⟩
                      case measure => simp [intOf]; omega
                    · obtain rfl : i = xs.length := by omega
                      go_wp2_with (first
                        | (go_at_call 15; refine (complete_any _ N A c us _ (ha.below (hBW.trans (hB.mono hBW.size))) hl (by omega) (by omega)).mono ?_; rw [← hcomp.out]; rintro r w8 ⟨rfl, hb8⟩)
                        | (go_at_call 8; refine (live_any _).mono ?_; rintro e w9 ⟨rfl, hb9⟩))
                      go_ret
                      have hz8 := hBW.size
                      have hB6 := hBW.trans (hB.mono hz8)
                      have hB8 := hB6.trans (hb8.mono hB6.size)
                      exact ⟨rfl, hB8.trans (hb9.mono hB8.size)⟩


end Go.Proofs.Ytlnlffpkdeaimaa

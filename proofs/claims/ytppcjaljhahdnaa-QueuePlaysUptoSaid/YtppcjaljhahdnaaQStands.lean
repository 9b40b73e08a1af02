/- does: an act of any kind; stands: the two queues tell the same. -/
import Derived.Test.YtppcjaljhahdnaaQDoes2
namespace Go.Proofs.Ytppcjaljhahdnaa
open Go.RowKit
set_option linter.unusedVariables false
set_option linter.unusedSimpArgs false

theorem RAt.tlen {S : Nat → Prop} {w : World} {g : Nat} {mt sh wn : Int} {L : List Pl} {T : Int → List Int} (h : RAt S w g mt sh wn L T) (x : Int) : (T x).length ≤ 256 := by
  obtain ⟨bt, A, c, rs, tv, q, rfl⟩ := h
  have := q.tlen x
  have := q.wn1
  omega
section
variable {B : Nat} {mt sh wn : Int} {g g' : Nat} {S S' : Nat → Prop} {L : List Pl} {T : Int → List Int} {w : World} {a : QA}
theorem does_any (h : Pair B mt sh wn g g' S S' L T w) (hB : B ≤ w.heap.size) (ha : a.r.ok (fun k => k < B) w) (hf : a.r.p.fits) : Calls Try.prog 24 #[.pointer (some ⟨g, 0, none⟩), .pointer (some ⟨g', 0, none⟩), .agg #[.int .i64 a.kind, .int .i64 a.r.p.cl, .int .u64 a.r.p.tok, .string a.r.p.nm, .slice a.r.A1 a.r.p.args.length a.r.c1, .int .i64 a.r.p.how, .slice a.r.A2 a.r.p.rd.length a.r.c2, .slice a.r.A3 a.r.p.wr.length a.r.c3, .int .i64 a.i, .int .i64 a.cl, .int .u64 a.tok]] w (Done B mt sh wn g g' w) := by
  by_cases h1 : a.kind = 1
  · rw [h1]; exact does_submit h hB ha hf
  by_cases h2 : a.kind = 2
  · rw [h2]; exact does_take h hB ha hf
  by_cases h3 : a.kind = 3
  · rw [h3]; exact does_settle h hB ha hf
  by_cases h4 : a.kind = 4
  · rw [h4]; exact does_cancel h hB ha hf
  by_cases h5 : a.kind = 5
  · rw [h5]; exact does_clear h hB ha hf
  by_cases h6 : a.kind = 6
  · rw [h6]; exact does_first h hB ha hf
  by_cases h7 : a.kind = 7
  · rw [h7]; exact does_out h hB ha hf
  exact does_else a.kind h1 h2 h3 h4 h5 h6 h7 h hB ha hf
set_option maxRecDepth 100000 in
set_option maxHeartbeats 4000000 in
theorem stands_any (h : Pair B mt sh wn g g' S S' L T w) (hB : B ≤ w.heap.size) : Calls Try.prog 25 #[.pointer (some ⟨g, 0, none⟩), .pointer (some ⟨g', 0, none⟩)] w fun e w' => e = .returned (.bool true) ∧ Below B w w' := by
  have hlen0 := fun (m : Nat) => len_any (h.q.below (w' := w.drewN m) (below_drewN (Below.refl _ _) _))
  have hlen := hid hlen0
  obtain ⟨Al, cl, c3⟩ := h.t.l3
  have hl9 : (L.length : Int) ≤ 1024 := by have := h.t.len; omega
  have hP := hid h
  clear hlen0 h
  go_enter Try.func25, Try.ntmps25
  go_wp2_with fail
  go_quiet ((go_at_call 13; exact Calls.quiet_of_same (hlen.out _)))
  have P0 := hP.out.step (below_drewN (Below.refl _ _) nq)
  have U0 : Upd (fun k => B ≤ k) w (w.drewN nq) := Upd.of_below' (below_drewN (Below.refl _ _) nq) _
  clear c3 hlen hP
  go_wp2_with fail
  go_loopw [5] (fun v wr => ∃ i : Int, v = .int .i64 i ∧ -1 ≤ i ∧ i ≤ L.length + 1 ∧ Pair B mt sh wn g g' S S' L T wr ∧ Upd (fun k => B ≤ k) w wr) (fun v _ => ((L.length : Int) + 1 - intOf v).toNat)
  case atStart => exact ⟨-1, rfl, by omega, by omega, P0, U0⟩
  case round =>
    clear P0 U0
    obtain ⟨i, rfl, hi0, hi1, P, U⟩ := hrel
    obtain ⟨Al, cl, c3⟩ := P.t.l3
    have hwB : B ≤ wr.heap.size := by have := U.size; omega
    by_cases hlt : i ≤ (L.length : Int)
    · have dd : decide (i ≤ (L.length : Int)) = true := decide_eq_true hlt
      go_wp2_with fail
      refine (atI i P.q).mono ?_
      rintro e w2 ⟨r2, ok2, rfl, hc2, hown2, hb2⟩
      have hY : Below w2.heap.size w2 (w2.alloc (.cells #[.int .i64 r2.p.cl, .int .u64 r2.p.tok, .string r2.p.nm, .slice r2.A1 r2.p.args.length r2.c1, .int .i64 r2.p.how, .slice r2.A2 r2.p.rd.length r2.c2, .slice r2.A3 r2.p.wr.length r2.c3] 40)) := (Below.refl _ _).alloc (Nat.le_refl _) _
      have hb3 := hb2.trans (hY.mono hb2.size)
      have P3 := P.step hb3
      have own3 := hown2.below hY
      have kp3 := Blk.new w2 40 #[.int .i64 r2.p.cl, .int .u64 r2.p.tok, .string r2.p.nm, .slice r2.A1 r2.p.args.length r2.c1, .int .i64 r2.p.how, .slice r2.A2 r2.p.rd.length r2.c2, .slice r2.A3 r2.p.wr.length r2.c3]
      have hbl2 := fun k (hk : r2.blks k) => hown2.blks hk
      have U3 := U.trans (Upd.of_below' hb3 _) fun _ _ h => h
      have hz2 := hb2.size
      have hz3 := hb3.size
      have hk3 := kp3.lt
      have hSlt := P.q.lt.1
      have hTlt := P.t.lt.1
      have hc2 := hid hc2
      clear P hown2 hY hb2 hb3 U c3
      go_upto_region 7 with fail
      generalize w2.alloc (.cells #[.int .i64 r2.p.cl, .int .u64 r2.p.tok, .string r2.p.nm, .slice r2.A1 r2.p.args.length r2.c1, .int .i64 r2.p.how, .slice r2.A2 r2.p.rd.length r2.c2, .slice r2.A3 r2.p.wr.length r2.c3] 40) = w3 at *
      go_wp2_with fail
      refine (ratI i P3.t).mono ?_
      rintro e w4 ⟨s4, ok4, rfl, hc4, hown4, hb4⟩
      obtain ⟨rfl, hps0, hf2⟩ := gone_same P3.fits hc2.out hc4
      have hps := hid hps0
      have hY : Below w4.heap.size w4 (w4.alloc (.cells #[.int .i64 s4.p.cl, .int .u64 s4.p.tok, .string s4.p.nm, .slice s4.A1 s4.p.args.length s4.c1, .int .i64 s4.p.how, .slice s4.A2 s4.p.rd.length s4.c2, .slice s4.A3 s4.p.wr.length s4.c3] 40)) := (Below.refl _ _).alloc (Nat.le_refl _) _
      have hb5 := hb4.trans (hY.mono hb4.size)
      have P5 := P3.step hb5
      have own5 := own3.below hb5
      have kp5 := kp3.below_all hb5
      have sown5 := hown4.below hY
      have ks5 := Blk.new w4 40 #[.int .i64 s4.p.cl, .int .u64 s4.p.tok, .string s4.p.nm, .slice s4.A1 s4.p.args.length s4.c1, .int .i64 s4.p.how, .slice s4.A2 s4.p.rd.length s4.c2, .slice s4.A3 s4.p.wr.length s4.c3]
      have U5 := U3.trans (Upd.of_below' hb5 _) fun _ _ h => h
      have hz4 := hb4.size
      have hz5 := hb5.size
      have hk5 := ks5.lt
      clear P3 own3 kp3 hown4 hY hb4 hb5 U3 hps0 hc4
      go_upto_region 8 with fail
      generalize w4.alloc (.cells #[.int .i64 s4.p.cl, .int .u64 s4.p.tok, .string s4.p.nm, .slice s4.A1 s4.p.args.length s4.c1, .int .i64 s4.p.how, .slice s4.A2 s4.p.rd.length s4.c2, .slice s4.A3 s4.p.wr.length s4.c3] 40) = w5 at *
      have p0 : w5.cell? ⟨w2.heap.size, 0, none⟩ = some (.int .i64 r2.p.cl) := kp5.cell 0
      have p1 : w5.cell? ⟨w2.heap.size, 1, none⟩ = some (.int .u64 r2.p.tok) := kp5.cell 1
      have p2 : w5.cell? ⟨w2.heap.size, 2, none⟩ = some (.string r2.p.nm) := kp5.cell 2
      have p3 : w5.cell? ⟨w2.heap.size, 3, none⟩ = some (.slice r2.A1 r2.p.args.length r2.c1) := kp5.cell 3
      have p4 : w5.cell? ⟨w2.heap.size, 4, none⟩ = some (.int .i64 r2.p.how) := kp5.cell 4
      have p5 : w5.cell? ⟨w2.heap.size, 5, none⟩ = some (.slice r2.A2 r2.p.rd.length r2.c2) := kp5.cell 5
      have p6 : w5.cell? ⟨w2.heap.size, 6, none⟩ = some (.slice r2.A3 r2.p.wr.length r2.c3) := kp5.cell 6
      have q0 : w5.cell? ⟨w4.heap.size, 0, none⟩ = some (.int .i64 s4.p.cl) := ks5.cell 0
      have q1 : w5.cell? ⟨w4.heap.size, 1, none⟩ = some (.int .u64 s4.p.tok) := ks5.cell 1
      have q2 : w5.cell? ⟨w4.heap.size, 2, none⟩ = some (.string s4.p.nm) := ks5.cell 2
      have q3 : w5.cell? ⟨w4.heap.size, 3, none⟩ = some (.slice s4.A1 s4.p.args.length s4.c1) := ks5.cell 3
      have q4 : w5.cell? ⟨w4.heap.size, 4, none⟩ = some (.int .i64 s4.p.how) := ks5.cell 4
      have q5 : w5.cell? ⟨w4.heap.size, 5, none⟩ = some (.slice s4.A2 s4.p.rd.length s4.c2) := ks5.cell 5
      have q6 : w5.cell? ⟨w4.heap.size, 6, none⟩ = some (.slice s4.A3 s4.p.wr.length s4.c3) := ks5.cell 6
      go_wp2_with fail
      refine (told_any _ _ r2 s4 ok4 w5 own5 sown5.ok hps.out hf2).mono ?_
      rintro e w6 ⟨rfl, hu6⟩
      have P6 := P5.far hu6 (fun k hk hb => by have := hbl2 k hb; have := hSlt k hk; omega) (fun k hk hb => by have := hbl2 k hb; have := hTlt k hk; omega)
      have U6 := U5.trans (hu6.mono (M' := fun k => B ≤ k) fun k _ h => by have := hbl2 k h; have := hwB; omega) fun _ _ h => h
      clear p0 p1 p2 p3 p4 p5 p6 q0 q1 q2 q3 q4 q5 q6 P5 own5 kp5 sown5 ks5 U5 hu6
      go_wp2_with fail
      go_roundw
      case rel => exact ⟨i + 1, by go_num, by omega, by omega, P6, U6⟩
      case measure => simp [intOf]; omega
    · have dd : decide (i ≤ (L.length : Int)) = false := decide_eq_false hlt
      go_wp2_with fail
      go_loopw [10] (fun v wr => ∃ x : Int, v = .int .i64 x ∧ -1 ≤ x ∧ x ≤ 65 ∧ Pair B mt sh wn g g' S S' L T wr ∧ Upd (fun k => B ≤ k) w wr) (fun v _ => ((65 : Int) - intOf v).toNat)
      case atStart => exact ⟨-1, rfl, by omega, by omega, P, U⟩
      case round =>
        clear P U c3 hwB hlt
        obtain ⟨x, rfl, hx0, hx1, P, U⟩ := hrel
        have hwB : B ≤ wr.heap.size := by have := U.size; omega
        by_cases hlt : x ≤ 64
        · have dd : decide (x ≤ 64) = true := decide_eq_true hlt
          have htl := P.t.tlen x
          go_wp2_with fail
          refine (seen_any x P.q).mono ?_
          rintro e w2 ⟨A2, c2, rfl, hown2, hb2⟩
          have P2 := P.step hb2
          have U2 := U.trans (Upd.of_below' hb2 _) fun _ _ h => h
          have hSlt := P.q.lt.1
          have hTlt := P.t.lt.1
          clear P U
          go_wp2_with fail
          refine (of_any x P2.q).mono ?_
          rintro e w' ⟨rfl, rfl⟩
          go_wp2_with fail
          refine (rof_any x P2.t).mono ?_
          rintro e w' ⟨rfl, rfl⟩
          go_wp2_with fail
          refine (rseen_any x P2.t).mono ?_
          rintro e w4 ⟨A4, c4, rfl, hown4, hb4⟩
          have P4 := P2.step hb4
          have U4 := U2.trans (Upd.of_below' hb4 _) fun _ _ h => h
          have hown24 := own_below hown2 hb4
          have hz2 := hb2.size
          have hz4 := hb4.size
          clear P2 U2 hown2 hb2 hb4
          go_wp2_with fail
          refine (tokens_any _ _ A2 A4 (T x) c2 c4 w4 (Rd.of_own' hown24) (Rd.of_own' hown4) (by omega)).mono ?_
          rintro e w5 ⟨rfl, nq, rfl⟩
          have P5 := P4.step (below_drewN (Below.refl _ _) nq)
          have U5 := U4.trans (Upd.of_below' (below_drewN (Below.refl _ _) nq) _) fun _ _ h => h
          have hw5 : WrRow (w4.drewN nq) 32 1 (.slice A2 (T x).length c2) (T x).length := ⟨_, own_base (Nat.zero_le _) hown24⟩
          have hbl := hown24.lt
          have hz5 : (w4.drewN nq).heap.size = w4.heap.size := rfl
          clear P4 U4 hown24 hown4
          generalize w4.drewN nq = w6 at *
          generalize hnn : (T x).length = n at *
          have hnn := hid hnn
          go_wp2_with fail
          go_loopw [12] (fun v wr => ∃ k : Nat, v = .int .i64 k ∧ k ≤ n ∧ WrRow wr 32 1 (.slice A2 n c2) n ∧ Upd (fun k => (Value.slice A2 n c2).ownBlock = some k) w6 wr) (fun v _ => n - (intOf v).toNat)
          case atStart => exact ⟨0, rfl, Nat.zero_le _, hw5, Upd.refl _ _⟩
          case round =>
            clear hw5
            obtain ⟨k, rfl, hk, hwr, hur⟩ := hrel
            by_cases hkl : k < n
            · obtain ⟨b, hA, hc, hz⟩ := hwr.at_ hkl
              subst hA
              obtain ⟨v0, y0⟩ := hc 0 (by omega)
              simp only [Nat.add_zero, Nat.mul_one] at y0
              have k1 : (k : Int) < (n : Int) := by omega
              clear hc
              go_wp2_with fail
              go_roundw
              case rel => exact ⟨k + 1, by go_num, by omega, hwr.set _ _ _, hur.setCell (p := ⟨b, k, none⟩) (fun _ => rfl) _⟩
              case measure => simp [intOf]; omega
            · obtain rfl : k = n := by omega
              have P7 := P5.far hur (fun k hk hb => by have := hbl k hb; have := hSlt k hk; omega) (fun k hk hb => by have := hbl k hb; have := hTlt k hk; omega)
              have U7 := U5.trans (hur.mono (M' := fun k => B ≤ k) fun k _ h => by have := hbl k h; omega) fun _ _ h => h
              clear P5 U5 hwr hur
              go_wp2_with fail
              go_roundw
              case rel => exact ⟨x + 1, by go_num, by omega, by omega, P7, U7⟩
              case measure => simp [intOf]; omega
        · have dd : decide (x ≤ 64) = false := decide_eq_false hlt
          go_wp2_with fail
          go_ret
          exact ⟨rfl, U.below hB fun k hk h => by omega⟩
end

end Go.Proofs.Ytppcjaljhahdnaa

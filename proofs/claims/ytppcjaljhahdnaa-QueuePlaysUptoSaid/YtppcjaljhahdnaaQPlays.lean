/- QueuePlays: the walk of the law. -/
import Derived.Test.YtppcjaljhahdnaaQStands
namespace Go.Proofs.Ytppcjaljhahdnaa
open Go.RowKit
set_option linter.unusedVariables false
set_option linter.unusedSimpArgs false

set_option maxRecDepth 100000 in
set_option maxHeartbeats 8000000 in
theorem plays_walk (mt sh wn : Int) (A : Option Addr) (c : Nat) (us : List QA) (W : World) (ha : QActs (fun b => b < W.heap.size) W A us) (hl : us.length ≤ 2000000) (hp : partsQ us ≤ 100000000) (hf : ∀ a ∈ us, a.r.p.fits) :
    Calls Try.prog 7 #[.agg #[.int .i64 mt, .int .i64 sh, .int .i64 wn, .slice A us.length c]] W fun e w' => e = .returned (.bool true) ∧ Below W.heap.size W w' := by
  go_enter Try.func7, Try.ntmps7
  go_wp2_with fail
  have hB0 : Below W.heap.size W (W.alloc (.cells #[.int .i64 mt, .int .i64 sh, .int .i64 wn, .slice A us.length c] 24)) := (Below.refl _ _).alloc (Nat.le_refl _) _
  have kb0 := Blk.new W 24 #[.int .i64 mt, .int .i64 sh, .int .i64 wn, .slice A us.length c]
  generalize W.alloc (.cells #[.int .i64 mt, .int .i64 sh, .int .i64 wn, .slice A us.length c] 24) = W0 at *
  refine (long_any _ A c us mt sh wn W0 (ha.below hB0) (by omega) hp).mono ?_
  rintro e w1 ⟨b, rfl, hb1⟩
  have hB1 := hB0.trans (hb1.mono hB0.size)
  have kb1 := kb0.below_all hb1
  have hz1 := kb1.lt
  have d0 : w1.cell? ⟨W.heap.size, 0, none⟩ = some (.int .i64 mt) := kb1.cell 0
  have d1 : w1.cell? ⟨W.heap.size, 1, none⟩ = some (.int .i64 sh) := kb1.cell 1
  have d2 : w1.cell? ⟨W.heap.size, 2, none⟩ = some (.int .i64 wn) := kb1.cell 2
  clear hb1 hB0 kb0
  cases b with
  | true =>
    go_wp2_with (go_at_call 10; refine (live_any _).mono ?_; rintro e w3 ⟨rfl, hb3⟩)
    go_ret
    exact ⟨rfl, hB1.trans (hb3.mono hB1.size)⟩
  | false =>
    cases hbad : badNew mt sh wn with
    | true =>
      go_wp2_with fail
      refine (new_bad mt sh wn _ hbad).mono ?_
      rintro e w' ⟨rfl, rfl⟩
      go_wp2_with fail
      refine (rnew_bad mt sh wn _ hbad).mono ?_
      rintro e w' ⟨rfl, rfl⟩
      go_wp2_with (first
        | (go_at_call 12; refine (num_any _ _).mono ?_; rintro e w' ⟨rfl, rfl⟩)
        | (go_at_call 10; refine (live_any _).mono ?_; rintro e w3 ⟨rfl, hb3⟩))
      go_loopw [7] (fun v wr => v = .int .i64 0 ∧ wr = w3) (fun v _ => 0)
      case atStart => exact ⟨rfl, rfl⟩
      case round =>
        obtain ⟨rfl, rfl⟩ := hrel
        go_wp2_with fail
        go_ret
        exact ⟨rfl, hB1.trans (hb3.mono hB1.size)⟩
    | false =>
      have hsh : 0 ≤ sh := by unfold badNew at hbad; have := of_decide_eq_false hbad; omega
      go_wp2_with fail
      refine (new_ok mt sh wn _ hbad).mono ?_
      rintro e w2 ⟨S2, g, ⟨rfl, hS2⟩, h2, hb2⟩
      have kb2 := kb1.below_all hb2
      have hB2 := hB1.trans (hb2.mono hB1.size)
      have e0 : w2.cell? ⟨W.heap.size, 0, none⟩ = some (.int .i64 mt) := kb2.cell 0
      have e1 : w2.cell? ⟨W.heap.size, 1, none⟩ = some (.int .i64 sh) := kb2.cell 1
      have e2 : w2.cell? ⟨W.heap.size, 2, none⟩ = some (.int .i64 wn) := kb2.cell 2
      have hz2 := hb2.size
      clear d0 d1 d2 kb1 hB1 hb2
      go_wp2_with fail
      refine (rnew_ok mt sh wn _ hbad).mono ?_
      rintro e w3 ⟨S3, g', ⟨rfl, hS3⟩, h3, hb3⟩
      have P3 : Pair (W.heap.size + 1) mt sh wn g g' S2 S3 [] (fun _ => []) w3 := ⟨h2.below hb3, h3, fun k hk => by have := hS2 k hk; omega, fun k hk => by have := hS3 k hk; omega, fun k h1 h4 => by have := hS3 k h4; have := h2.lt.1 k h1; omega, .nil hsh⟩
      have kb3 := kb2.below_all hb3
      have hB3 := hB2.trans (hb3.mono hB2.size)
      have hz3 := hb3.size
      clear e0 e1 e2 kb2 hB2 h2 h3 hb3 hS2 hS3
      go_wp2_with (first
        | (go_at_call 12; refine (num_any _ _).mono ?_; rintro e w' ⟨rfl, rfl⟩)
        | (go_at_call 10; refine (live_any _).mono ?_; rintro e w4 ⟨rfl, hb4⟩))
      have P4 := P3.step hb4
      have kb4 := kb3.below_all hb4
      have hB4 := hB3.trans (hb4.mono hB3.size)
      have hz4 := hb4.size
      clear P3 kb3 hB3 hb4
      go_loopw [7] (fun v wr => ∃ (i : Nat) (S S' : Nat → Prop) (L : List Pl) (T : Int → List Int), v = .int .i64 i ∧ i ≤ us.length ∧ Pair (W.heap.size + 1) mt sh wn g g' S S' L T wr ∧ Blk wr W.heap.size 24 #[.int .i64 mt, .int .i64 sh, .int .i64 wn, .slice A us.length c] ∧ Below W.heap.size W wr ∧ W.heap.size + 1 ≤ wr.heap.size) (fun v _ => us.length - (intOf v).toNat)
      case atStart => exact ⟨0, _, _, _, _, rfl, Nat.zero_le _, P4, kb4, hB4, by omega⟩
      case round =>
        clear P4 kb4 hB4
        obtain ⟨i, S, S', L, T, rfl, hi, P, kb, hB, hzr⟩ := hrel
        have b3 : wr.cell? ⟨W.heap.size, 3, none⟩ = some (.slice A us.length c) := kb.cell 3
        by_cases hlt : i < us.length
        · obtain ⟨b, o, rfl, hbW, hbl, okp, a0, a1, a2, a3, a4, a5, a6, a7, a8, a9, a10⟩ := (ha.below hB).at_ hlt
          have hrf := hf _ (List.getElem_mem hlt)
          have i1 : (i : Int) < (us.length : Int) := by omega
          go_wp2_with fail
          refine (does_any (a := us[i]) P hzr (okp.more fun k hk _ => by omega) hrf).mono ?_
          rintro e w5 ⟨rfl, ⟨S5, S5', L5, T5, P5⟩, hb5⟩
          have kb5 := kb.below hb5 (by omega)
          have hB5 := hB.trans (hb5.mono (by omega))
          have hz5 := hb5.size
          clear P kb hB b3 a0 a1 a2 a3 a4 a5 a6 a7 a8 a9 a10
          go_wp2_with fail
          go_roundw
          case rel => exact ⟨i + 1, _, _, _, _, by go_num, hlt, P5, kb5, hB5, by omega⟩
          case measure => simp [intOf]; omega
        · obtain rfl : i = us.length := by omega
          go_wp2_with fail
          refine (stands_any P hzr).mono ?_
          rintro e w5 ⟨rfl, hb5⟩
          go_wp2_with fail
          go_ret
          exact ⟨rfl, hB.trans (hb5.mono (by omega))⟩

end Go.Proofs.Ytppcjaljhahdnaa

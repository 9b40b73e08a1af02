/- QueueRefused: the walk of the law. -/
import Derived.Test.YtppcjaljhahdnaaQPlans
import Derived.Test.YtppcjaljhahdnaaQBounds
namespace Go.Proofs.Ytppcjaljhahdnaa
open Go.RowKit
set_option linter.unusedVariables false
set_option linter.unusedSimpArgs false

/-- two queues beside a law's arguments -/
structure Twin (W : World) (g g' : Nat) (mt sh wn : Int) (A : Option Addr) (c : Nat) (us : List QA) (S : Nat → Prop) (L : List Pl) (T : Int → List Int) (S' : Nat → Prop) (L' : List Pl) (T' : Int → List Int) (wr : World) : Prop where
  q : QAt S wr g mt sh wn L T
  t : QAt S' wr g' mt sh wn L' T'
  newq : ∀ k, S k → W.heap.size < k
  newt : ∀ k, S' k → W.heap.size < k
  dis : ∀ k, S k → S' k → False
  box : Blk wr W.heap.size 24 #[.int .i64 mt, .int .i64 sh, .int .i64 wn, .slice A us.length c]
  below : Below W.heap.size W wr
section
variable {W wr w' : World} {g g' : Nat} {mt sh wn : Int} {A : Option Addr} {c : Nat} {us : List QA} {S S' S1 : Nat → Prop} {L L' L1 : List Pl} {T T' T1 : Int → List Int}
theorem Twin.swap (h : Twin W g g' mt sh wn A c us S L T S' L' T' wr) : Twin W g' g mt sh wn A c us S' L' T' S L T wr := ⟨h.t, h.q, h.newt, h.newq, fun k h1 h2 => h.dis k h2 h1, h.box, h.below⟩
theorem Twin.step (h : Twin W g g' mt sh wn A c us S L T S' L' T' wr) (hb : Below wr.heap.size wr w') : Twin W g g' mt sh wn A c us S L T S' L' T' w' :=
  ⟨h.q.below hb, h.t.below hb, h.newq, h.newt, h.dis, h.box.below_all hb, h.below.trans (hb.mono h.below.size)⟩
theorem Twin.turn (h : Twin W g g' mt sh wn A c us S L T S' L' T' wr) (hq : QAt S1 w' g mt sh wn L1 T1) (hS : ∀ k, S1 k → S k ∨ wr.heap.size ≤ k) (hu : Upd S wr w') : Twin W g g' mt sh wn A c us S1 L1 T1 S' L' T' w' := by
  have hz := h.box.lt
  refine ⟨hq, h.t.far hu fun k h1 h2 => h.dis k h2 h1, fun k hk => ?_, h.newt, fun k h1 h2 => ?_, h.box.upd hu fun hk => ?_, h.below.trans (hu.below h.below.size fun k hk hS => ?_)⟩
  · rcases hS k hk with h1 | h1
    · exact h.newq k h1
    · omega
  · rcases hS k h1 with h3 | h3
    · exact h.dis k h3 h2
    · have := h.t.lt.1 k h2; omega
  · have := h.newq _ hk; omega
  · have := h.newq k hS; omega
end
theorem QAt.fits {S : Nat → Prop} {w : World} {g : Nat} {mt sh wn : Int} {L : List Pl} {T : Int → List Int} (h : QAt S w g mt sh wn L T) : ∀ p ∈ L, p.fits := by
  obtain ⟨mo, ms, A, c, rs, of, tk, q, rfl, _⟩ := h
  intro p hp
  obtain ⟨r, hr, rfl⟩ := List.mem_map.1 hp
  exact q.fits r hr
theorem gone_same {L : List Pl} {i : Int} {r s : RP} {ok ok' : Bool} (hL : ∀ p ∈ L, p.fits) (h1 : if 0 ≤ i ∧ i < L.length then ok = true ∧ some r.p = L[i.toNat]? else ok = false ∧ r.p = ⟨0, 0, ⟨#[]⟩, [], 0, [], []⟩) (h2 : if 0 ≤ i ∧ i < L.length then ok' = true ∧ some s.p = L[i.toNat]? else ok' = false ∧ s.p = ⟨0, 0, ⟨#[]⟩, [], 0, [], []⟩) :
    ok' = ok ∧ r.p = s.p ∧ r.p.fits := by
  split at h1
  · rename_i hi
    rw [if_pos hi] at h2
    have e : some r.p = some s.p := h1.2.trans h2.2.symm
    refine ⟨h2.1.trans h1.1.symm, by injection e, hL _ ?_⟩
    exact List.mem_of_getElem? h1.2.symm
  · rename_i hi
    rw [if_neg hi] at h2
    exact ⟨h2.1.trans h1.1.symm, h1.2.trans h2.2.symm, by rw [h1.2]; exact ⟨by simp, by simp, by simp⟩⟩

def TRel (W : World) (g g' : Nat) (mt sh wn : Int) (A : Option Addr) (c : Nat) (us : List QA) (v : Value) (wr : World) : Prop :=
  ∃ (i : Nat) (S S' : Nat → Prop) (L : List Pl) (T : Int → List Int), v = .int .i64 i ∧ i ≤ us.length ∧ Twin W g g' mt sh wn A c us S L T S' L T wr

set_option maxRecDepth 100000 in
set_option maxHeartbeats 8000000 in
theorem refused_walk (mt sh wn : Int) (A : Option Addr) (c : Nat) (us : List QA) (W : World) (ha : QActs (fun b => b < W.heap.size) W A us) (hl : us.length ≤ 2000000) (hp : partsQ us ≤ 100000000) (hf : ∀ a ∈ us, a.r.p.fits) :
    Calls Try.prog 4 #[.agg #[.int .i64 mt, .int .i64 sh, .int .i64 wn, .slice A us.length c]] W fun e w' => e = .returned (.bool true) ∧ Below W.heap.size W w' := by
  go_enter Try.func4, Try.ntmps4
  go_wp2_with fail
  have hB0 : Below W.heap.size W (W.alloc (.cells #[.int .i64 mt, .int .i64 sh, .int .i64 wn, .slice A us.length c] 24)) := (Below.refl _ _).alloc (Nat.le_refl _) _
  have kb0 := Blk.new W 24 #[.int .i64 mt, .int .i64 sh, .int .i64 wn, .slice A us.length c]
  generalize W.alloc (.cells #[.int .i64 mt, .int .i64 sh, .int .i64 wn, .slice A us.length c] 24) = W0 at *
  refine (long_any _ A c us mt sh wn W0 (ha.below hB0) (by omega) hp).mono ?_
  rintro e w1 ⟨b, rfl, hb1⟩
  have hB1 := hB0.trans (hb1.mono hB0.size)
  have kb1 := kb0.below_all hb1
  have hz1 := kb1.lt
  have d0 : w1.cell? ⟨W.heap.size, 0, none⟩ = some (.int .i64 mt) := kb1.cell 0
  have d1 : w1.cell? ⟨W.heap.size, 1, none⟩ = some (.int .i64 sh) := kb1.cell 1
  have d2 : w1.cell? ⟨W.heap.size, 2, none⟩ = some (.int .i64 wn) := kb1.cell 2
  have d3 : w1.cell? ⟨W.heap.size, 3, none⟩ = some (.slice A us.length c) := kb1.cell 3
  clear hb1 hB0 kb0
  by_cases hb : b = true ∨ (300 : Int) < (us.length : Int)
  · rcases hb with rfl | hb
    · go_wp2_with (go_at_call 10; refine (live_any _).mono ?_; rintro e w3 ⟨rfl, hb3⟩)
      go_ret
      exact ⟨rfl, hB1.trans (hb3.mono hB1.size)⟩
    · cases b with
      | true =>
        go_wp2_with (go_at_call 10; refine (live_any _).mono ?_; rintro e w3 ⟨rfl, hb3⟩)
        go_ret
        exact ⟨rfl, hB1.trans (hb3.mono hB1.size)⟩
      | false =>
        go_wp2_with (go_at_call 10; refine (live_any _).mono ?_; rintro e w3 ⟨rfl, hb3⟩)
        go_ret
        exact ⟨rfl, hB1.trans (hb3.mono hB1.size)⟩
  · obtain rfl : b = false := by cases b <;> simp_all
    have hb300 : ¬ (300 : Int) < (us.length : Int) := fun h => hb (.inr h)
    clear hb
    cases hbad : badNew mt sh wn with
    | true =>
      go_wp2_with (first
        | (go_at_call 11; refine (new_bad mt sh wn _ hbad).mono ?_; rintro e w' ⟨rfl, rfl⟩)
        | (go_at_call 12; refine (num_any _ _).mono ?_; rintro e w' ⟨rfl, rfl⟩)
        | (go_at_call 10; refine (live_any _).mono ?_; rintro e w3 ⟨rfl, hb3⟩))
      go_ret
      exact ⟨rfl, hB1.trans (hb3.mono hB1.size)⟩
    | false =>
      go_wp2_with fail
      refine (new_ok mt sh wn _ hbad).mono ?_
      rintro e w2 ⟨S2, g, ⟨rfl, hS2⟩, h2, hb2⟩
      have hB2 := hB1.trans (hb2.mono hB1.size)
      have kb2 := kb1.below_all hb2
      have hz2 := hb2.size
      have e0 : w2.cell? ⟨W.heap.size, 0, none⟩ = some (.int .i64 mt) := kb2.cell 0
      have e1 : w2.cell? ⟨W.heap.size, 1, none⟩ = some (.int .i64 sh) := kb2.cell 1
      have e2 : w2.cell? ⟨W.heap.size, 2, none⟩ = some (.int .i64 wn) := kb2.cell 2
      go_wp2_with fail
      refine (new_ok mt sh wn _ hbad).mono ?_
      rintro e w3 ⟨S3, g', ⟨rfl, hS3⟩, h3, hb3⟩
      have R2 : Twin W g g' mt sh wn A c us S2 [] (fun _ => []) S3 [] (fun _ => []) w3 := ⟨h2.below hb3, h3, fun k hk => by have := hS2 k hk; omega, fun k hk => by have := hS3 k hk; omega, fun k h4 h5 => by have := h2.lt.1 k h4; have := hS3 k h5; omega, kb2.below_all hb3, hB2.trans (hb3.mono hB2.size)⟩
      clear h2 hb2 kb1 hB1 d0 d1 d2 d3 hS2 h3 hb3 hS3 kb2 hB2 e0 e1 e2
      go_wp2_with (go_at_call 12; refine (num_any _ _).mono ?_; rintro e w' ⟨rfl, rfl⟩)
      go_loopw [7] (fun v wr => TRel W g g' mt sh wn A c us v wr) (fun v _ => us.length - (intOf v).toNat)
      case atStart => exact ⟨0, S2, S3, [], _, rfl, Nat.zero_le _, R2⟩
      case round =>
        clear R2
        obtain ⟨i, S, S', L, T, rfl, hi, R⟩ := hrel
        have b3 : wr.cell? ⟨W.heap.size, 3, none⟩ = some (.slice A us.length c) := R.box.cell 3
        have hwrS : ∀ k, S k → k < wr.heap.size := R.q.lt.1
        have hwrS' : ∀ k, S' k → k < wr.heap.size := R.t.lt.1
        have hfi := R.q.fits
        by_cases hlt : i < us.length
        · obtain ⟨b, o, rfl, hbW, hbl, okp, a0, a1, a2, a3, a4, a5, a6, a7, a8, a9, a10⟩ := (ha.below R.below).at_ hlt
          have hrf := hf _ (List.getElem_mem hlt)
          have i1 : (i : Int) < (us.length : Int) := by omega
          by_cases hk1 : us[i].kind = 1
          · rw [hk1] at a0
            clear hk1
            have hX : Below wr.heap.size wr (wr.alloc (.cells #[.int .i64 1, .int .i64 us[i].r.p.cl, .int .u64 us[i].r.p.tok, .string us[i].r.p.nm, .slice us[i].r.A1 us[i].r.p.args.length us[i].r.c1, .int .i64 us[i].r.p.how, .slice us[i].r.A2 us[i].r.p.rd.length us[i].r.c2, .slice us[i].r.A3 us[i].r.p.wr.length us[i].r.c3, .int .i64 us[i].i, .int .i64 us[i].cl, .int .u64 us[i].tok] 42)) := (Below.refl _ _).alloc (Nat.le_refl _) _
            have R1 := R.step hX
            have ka := Blk.new wr 42 #[.int .i64 1, .int .i64 us[i].r.p.cl, .int .u64 us[i].r.p.tok, .string us[i].r.p.nm, .slice us[i].r.A1 us[i].r.p.args.length us[i].r.c1, .int .i64 us[i].r.p.how, .slice us[i].r.A2 us[i].r.p.rd.length us[i].r.c2, .slice us[i].r.A3 us[i].r.p.wr.length us[i].r.c3, .int .i64 us[i].i, .int .i64 us[i].cl, .int .u64 us[i].tok]
            have okp1 := okp.below hX
            clear R hX
            go_wp2_with fail
            generalize wr.alloc (.cells #[.int .i64 1, .int .i64 us[i].r.p.cl, .int .u64 us[i].r.p.tok, .string us[i].r.p.nm, .slice us[i].r.A1 us[i].r.p.args.length us[i].r.c1, .int .i64 us[i].r.p.how, .slice us[i].r.A2 us[i].r.p.rd.length us[i].r.c2, .slice us[i].r.A3 us[i].r.p.wr.length us[i].r.c3, .int .i64 us[i].i, .int .i64 us[i].cl, .int .u64 us[i].tok] 42) = w5 at *
            refine (eplan_any _ us[i].r w5 okp1 hrf).mono ?_
            rintro e w6 ⟨r6, ⟨hp0, rfl⟩, hown6, hb6⟩
            have hf6 : r6.p.fits := by rw [hp0]; exact hrf
            have hp6 := hid hp0
            clear hp0
            have R6 := R1.step hb6
            have ka6 := ka.below_all hb6
            have okp6 := okp1.below hb6
            go_wp2_with fail
            refine (submit_any _ r6 R6.q hown6.ok hf6).mono ?_
            rintro e w7 ⟨S7, rfl, hq7, hS7, hu7⟩
            have R7 := R6.turn hq7 hS7 hu7
            have hq6S : ∀ k, S k → W.heap.size < k ∧ k < wr.heap.size := fun k hk => ⟨R6.newq k hk, hwrS k hk⟩
            have ka7 := ka6.upd hu7 fun h => by have := hwrS _ h; omega
            have okp7 := okp6.keep fun b hb hl => hu7.block b hl fun h => by have := (hq6S b h).1; omega
            have hcd6 : subCode mt sh L T r6.p = subCode mt sh L T us[i].r.p := by rw [hp6.out]
            have hL6 : subL mt sh L T r6.p = subL mt sh L T us[i].r.p := by rw [hp6.out]
            have hT6 : subT mt sh wn L T r6.p = subT mt sh wn L T us[i].r.p := by rw [hp6.out]
            rw [hL6, hT6] at R7
            rw [hcd6]
            clear R1 R6 ka ka6 okp6 hq7 hS7 hu7 hb6 hown6 hf6 hcd6 hL6 hT6
            by_cases hc : subCode mt sh L T us[i].r.p = 0
            · have hcc := hid hc
              rw [hc]
              have e1 : w7.cell? ⟨wr.heap.size, 1, none⟩ = some (.int .i64 us[i].r.p.cl) := ka7.cell 1
              have e2 : w7.cell? ⟨wr.heap.size, 2, none⟩ = some (.int .u64 us[i].r.p.tok) := ka7.cell 2
              have e3 : w7.cell? ⟨wr.heap.size, 3, none⟩ = some (.string us[i].r.p.nm) := ka7.cell 3
              have e4 : w7.cell? ⟨wr.heap.size, 4, none⟩ = some (.slice us[i].r.A1 us[i].r.p.args.length us[i].r.c1) := ka7.cell 4
              have e5 : w7.cell? ⟨wr.heap.size, 5, none⟩ = some (.int .i64 us[i].r.p.how) := ka7.cell 5
              have e6 : w7.cell? ⟨wr.heap.size, 6, none⟩ = some (.slice us[i].r.A2 us[i].r.p.rd.length us[i].r.c2) := ka7.cell 6
              have e7 : w7.cell? ⟨wr.heap.size, 7, none⟩ = some (.slice us[i].r.A3 us[i].r.p.wr.length us[i].r.c3) := ka7.cell 7
              clear hc
              go_wp2_with (go_at_call 12; refine (num_any _ _).mono ?_; rintro e w' ⟨rfl, rfl⟩)
              refine (eplan_any _ us[i].r w7 okp7 hrf).mono ?_
              rintro e w8 ⟨r8, ⟨hp0, rfl⟩, hown8, hb8⟩
              have hf8 : r8.p.fits := by rw [hp0]; exact hrf
              have hp8 := hid hp0
              clear hp0
              have R8 := R7.step hb8
              go_wp2_with fail
              refine (submit_any _ r8 R8.t hown8.ok hf8).mono ?_
              rintro e w9 ⟨S9, rfl, hq9, hS9, hu9⟩
              have R9 := (R8.swap.turn hq9 hS9 hu9).swap
              have hcd8 : subCode mt sh L T r8.p = 0 := by rw [hp8.out]; exact hcc.out
              have hL8 : subL mt sh L T r8.p = subL mt sh L T us[i].r.p := by rw [hp8.out]
              have hT8 : subT mt sh wn L T r8.p = subT mt sh wn L T us[i].r.p := by rw [hp8.out]
              rw [hL8, hT8] at R9
              rw [hcd8]
              clear R7 R8 hq9 hS9 hu9 hcd8 hL8 hT8 e1 e2 e3 e4 e5 e6 e7
              go_wp2_with (go_at_call 12; refine (num_any _ _).mono ?_; rintro e w' ⟨rfl, rfl⟩)
              go_roundw
              case rel => exact ⟨i + 1, S7, S9, _, _, by go_num, hlt, R9⟩
              case measure => simp [intOf]; omega
            · have hcc : (subCode mt sh L T us[i].r.p == 0) = false := by simpa using hc
              have hL : subL mt sh L T us[i].r.p = L := by unfold subL; rw [if_neg hc]
              have hT : subT mt sh wn L T us[i].r.p = T := by unfold subT; rw [if_neg hc]
              rw [hL, hT] at R7
              clear hc hL hT
              generalize subCode mt sh L T us[i].r.p = cd at *
              go_wp2_with (go_at_call 12; refine (num_any _ _).mono ?_; rintro e w' ⟨rfl, rfl⟩)
              go_roundw
              case rel => exact ⟨i + 1, S7, S', L, T, by go_num, hlt, R7⟩
              case measure => simp [intOf]; omega
          · by_cases hk2 : us[i].kind = 2
            · rw [hk2] at a0
              clear hk1 hk2
              have hX : Below wr.heap.size wr (wr.alloc (.cells #[.int .i64 2, .int .i64 us[i].r.p.cl, .int .u64 us[i].r.p.tok, .string us[i].r.p.nm, .slice us[i].r.A1 us[i].r.p.args.length us[i].r.c1, .int .i64 us[i].r.p.how, .slice us[i].r.A2 us[i].r.p.rd.length us[i].r.c2, .slice us[i].r.A3 us[i].r.p.wr.length us[i].r.c3, .int .i64 us[i].i, .int .i64 us[i].cl, .int .u64 us[i].tok] 42)) := (Below.refl _ _).alloc (Nat.le_refl _) _
              have R1 := R.step hX
              have ka := Blk.new wr 42 #[.int .i64 2, .int .i64 us[i].r.p.cl, .int .u64 us[i].r.p.tok, .string us[i].r.p.nm, .slice us[i].r.A1 us[i].r.p.args.length us[i].r.c1, .int .i64 us[i].r.p.how, .slice us[i].r.A2 us[i].r.p.rd.length us[i].r.c2, .slice us[i].r.A3 us[i].r.p.wr.length us[i].r.c3, .int .i64 us[i].i, .int .i64 us[i].cl, .int .u64 us[i].tok]
              have okp1 := okp.below hX
              clear R hX
              go_wp2_with fail
              generalize wr.alloc (.cells #[.int .i64 2, .int .i64 us[i].r.p.cl, .int .u64 us[i].r.p.tok, .string us[i].r.p.nm, .slice us[i].r.A1 us[i].r.p.args.length us[i].r.c1, .int .i64 us[i].r.p.how, .slice us[i].r.A2 us[i].r.p.rd.length us[i].r.c2, .slice us[i].r.A3 us[i].r.p.wr.length us[i].r.c3, .int .i64 us[i].i, .int .i64 us[i].cl, .int .u64 us[i].tok] 42) = w4 at *
              have hz4 := ka.lt
              refine (takeI R1.q).mono ?_
              rintro e w5 ⟨r5, ok5, rfl, hc5, hown5, hq5, hu5⟩
              have R5 := R1.turn hq5 (fun k h => .inl h) hu5
              have ka5 := ka.upd hu5 fun h => by have := hwrS _ h; omega
              have R6 := R5.step ((Below.refl _ _).alloc (Nat.le_refl _) (.cells #[.int .i64 r5.p.cl, .int .u64 r5.p.tok, .string r5.p.nm, .slice r5.A1 r5.p.args.length r5.c1, .int .i64 r5.p.how, .slice r5.A2 r5.p.rd.length r5.c2, .slice r5.A3 r5.p.wr.length r5.c3] 40))
              have kb6 := Blk.new w5 40 #[.int .i64 r5.p.cl, .int .u64 r5.p.tok, .string r5.p.nm, .slice r5.A1 r5.p.args.length r5.c1, .int .i64 r5.p.how, .slice r5.A2 r5.p.rd.length r5.c2, .slice r5.A3 r5.p.wr.length r5.c3]
              have ka6 := ka5.alloc (.cells #[.int .i64 r5.p.cl, .int .u64 r5.p.tok, .string r5.p.nm, .slice r5.A1 r5.p.args.length r5.c1, .int .i64 r5.p.how, .slice r5.A2 r5.p.rd.length r5.c2, .slice r5.A3 r5.p.wr.length r5.c3] 40)
              have hown6 : r5.own w4.heap.size (w5.alloc (.cells #[.int .i64 r5.p.cl, .int .u64 r5.p.tok, .string r5.p.nm, .slice r5.A1 r5.p.args.length r5.c1, .int .i64 r5.p.how, .slice r5.A2 r5.p.rd.length r5.c2, .slice r5.A3 r5.p.wr.length r5.c3] 40)) := ⟨hown5.args.alloc _, hown5.rd.alloc _, hown5.wr.alloc _⟩
              have hz5 := hu5.size
              clear R1 R5 ka5 hq5 hu5 hown5
              go_wp2_with fail
              generalize w5.alloc (.cells #[.int .i64 r5.p.cl, .int .u64 r5.p.tok, .string r5.p.nm, .slice r5.A1 r5.p.args.length r5.c1, .int .i64 r5.p.how, .slice r5.A2 r5.p.rd.length r5.c2, .slice r5.A3 r5.p.wr.length r5.c3] 40) = w6 at *
              refine (takeI R6.t).mono ?_
              rintro e w7 ⟨r7, ok7, rfl, hc7, hown7, hq7, hu7⟩
              have R7 := (R6.swap.turn hq7 (fun k h => .inl h) hu7).swap
              obtain ⟨rfl, hpe0, hfit⟩ := gone_same hfi hc5 hc7
              have hpe := hid hpe0
              clear hpe0
              have kb7 := kb6.upd hu7 fun h => by have := hwrS' _ h; omega
              have hown8 : r5.own w4.heap.size w7 := hown6.upd hu7 fun k h1 _ h2 => by have := hwrS' _ h2; omega
              have R8 := R7.step ((Below.refl _ _).alloc (Nat.le_refl _) (.cells #[.int .i64 r7.p.cl, .int .u64 r7.p.tok, .string r7.p.nm, .slice r7.A1 r7.p.args.length r7.c1, .int .i64 r7.p.how, .slice r7.A2 r7.p.rd.length r7.c2, .slice r7.A3 r7.p.wr.length r7.c3] 40))
              have kb8 := kb7.alloc (.cells #[.int .i64 r7.p.cl, .int .u64 r7.p.tok, .string r7.p.nm, .slice r7.A1 r7.p.args.length r7.c1, .int .i64 r7.p.how, .slice r7.A2 r7.p.rd.length r7.c2, .slice r7.A3 r7.p.wr.length r7.c3] 40)
              have kc8 := Blk.new w7 40 #[.int .i64 r7.p.cl, .int .u64 r7.p.tok, .string r7.p.nm, .slice r7.A1 r7.p.args.length r7.c1, .int .i64 r7.p.how, .slice r7.A2 r7.p.rd.length r7.c2, .slice r7.A3 r7.p.wr.length r7.c3]
              have ok8 : r5.ok (fun b => w4.heap.size ≤ b) (w7.alloc (.cells #[.int .i64 r7.p.cl, .int .u64 r7.p.tok, .string r7.p.nm, .slice r7.A1 r7.p.args.length r7.c1, .int .i64 r7.p.how, .slice r7.A2 r7.p.rd.length r7.c2, .slice r7.A3 r7.p.wr.length r7.c3] 40)) := hown8.ok.alloc _
              have ok9 : r7.ok (fun b => w6.heap.size ≤ b) (w7.alloc (.cells #[.int .i64 r7.p.cl, .int .u64 r7.p.tok, .string r7.p.nm, .slice r7.A1 r7.p.args.length r7.c1, .int .i64 r7.p.how, .slice r7.A2 r7.p.rd.length r7.c2, .slice r7.A3 r7.p.wr.length r7.c3] 40)) := hown7.ok.alloc _
              have x0 : w7.cell? ⟨w5.heap.size, 0, none⟩ = some (.int .i64 r5.p.cl) := kb7.cell 0
              have x1 : w7.cell? ⟨w5.heap.size, 1, none⟩ = some (.int .u64 r5.p.tok) := kb7.cell 1
              have x2 : w7.cell? ⟨w5.heap.size, 2, none⟩ = some (.string r5.p.nm) := kb7.cell 2
              have x3 : w7.cell? ⟨w5.heap.size, 3, none⟩ = some (.slice r5.A1 r5.p.args.length r5.c1) := kb7.cell 3
              have x4 : w7.cell? ⟨w5.heap.size, 4, none⟩ = some (.int .i64 r5.p.how) := kb7.cell 4
              have x5 : w7.cell? ⟨w5.heap.size, 5, none⟩ = some (.slice r5.A2 r5.p.rd.length r5.c2) := kb7.cell 5
              have x6 : w7.cell? ⟨w5.heap.size, 6, none⟩ = some (.slice r5.A3 r5.p.wr.length r5.c3) := kb7.cell 6
              have hl7 := kb7.lt
              clear R6 R7 kb6 ka6 kb7 hown6 hown7 hown8 hq7 hu7 hc5 hc7
              go_wp2_with fail
              refine (plans_any _ _ r5 r7 _ hpe.out ok8 ok9 hfit).mono ?_
              rintro e w9 ⟨rfl, hb9⟩
              have R9 := R8.step hb9
              go_wp2_with fail
              go_roundw
              case rel => exact ⟨i + 1, S, S', _, T, by go_num, hlt, R9⟩
              case measure => simp [intOf]; omega
            · by_cases hk4 : us[i].kind = 4
              · rw [hk4] at a0
                clear hk1 hk2 hk4
                have hX : Below wr.heap.size wr (wr.alloc (.cells #[.int .i64 4, .int .i64 us[i].r.p.cl, .int .u64 us[i].r.p.tok, .string us[i].r.p.nm, .slice us[i].r.A1 us[i].r.p.args.length us[i].r.c1, .int .i64 us[i].r.p.how, .slice us[i].r.A2 us[i].r.p.rd.length us[i].r.c2, .slice us[i].r.A3 us[i].r.p.wr.length us[i].r.c3, .int .i64 us[i].i, .int .i64 us[i].cl, .int .u64 us[i].tok] 42)) := (Below.refl _ _).alloc (Nat.le_refl _) _
                have R1 := R.step hX
                have ka := Blk.new wr 42 #[.int .i64 4, .int .i64 us[i].r.p.cl, .int .u64 us[i].r.p.tok, .string us[i].r.p.nm, .slice us[i].r.A1 us[i].r.p.args.length us[i].r.c1, .int .i64 us[i].r.p.how, .slice us[i].r.A2 us[i].r.p.rd.length us[i].r.c2, .slice us[i].r.A3 us[i].r.p.wr.length us[i].r.c3, .int .i64 us[i].i, .int .i64 us[i].cl, .int .u64 us[i].tok]
                have okp1 := okp.below hX
                clear R hX
                have a9' : (wr.alloc (.cells #[.int .i64 4, .int .i64 us[i].r.p.cl, .int .u64 us[i].r.p.tok, .string us[i].r.p.nm, .slice us[i].r.A1 us[i].r.p.args.length us[i].r.c1, .int .i64 us[i].r.p.how, .slice us[i].r.A2 us[i].r.p.rd.length us[i].r.c2, .slice us[i].r.A3 us[i].r.p.wr.length us[i].r.c3, .int .i64 us[i].i, .int .i64 us[i].cl, .int .u64 us[i].tok] 42)).cell? ⟨wr.heap.size, 9, none⟩ = some (.int .i64 us[i].cl) := ka.cell 9
                have a10' : (wr.alloc (.cells #[.int .i64 4, .int .i64 us[i].r.p.cl, .int .u64 us[i].r.p.tok, .string us[i].r.p.nm, .slice us[i].r.A1 us[i].r.p.args.length us[i].r.c1, .int .i64 us[i].r.p.how, .slice us[i].r.A2 us[i].r.p.rd.length us[i].r.c2, .slice us[i].r.A3 us[i].r.p.wr.length us[i].r.c3, .int .i64 us[i].i, .int .i64 us[i].cl, .int .u64 us[i].tok] 42)).cell? ⟨wr.heap.size, 10, none⟩ = some (.int .u64 us[i].tok) := ka.cell 10
                go_wp2_with fail
                generalize wr.alloc (.cells #[.int .i64 4, .int .i64 us[i].r.p.cl, .int .u64 us[i].r.p.tok, .string us[i].r.p.nm, .slice us[i].r.A1 us[i].r.p.args.length us[i].r.c1, .int .i64 us[i].r.p.how, .slice us[i].r.A2 us[i].r.p.rd.length us[i].r.c2, .slice us[i].r.A3 us[i].r.p.wr.length us[i].r.c3, .int .i64 us[i].i, .int .i64 us[i].cl, .int .u64 us[i].tok] 42) = w4 at *
                have hz4 := ka.lt
                have Rd := R1.step (Below.refl _ _).drew
                have keep : Hid (∀ w' : World, (∀ k, k = wr.heap.size → w'.heap[k]? = w4.heap[k]?) → w'.cell? ⟨wr.heap.size, 9, none⟩ = some (.int .i64 us[i].cl) ∧ w'.cell? ⟨wr.heap.size, 10, none⟩ = some (.int .u64 us[i].tok)) := fun w' h =>
                  ⟨(World.cell?_of_block (w := w4) (a := ⟨wr.heap.size, 9, none⟩) (h _ rfl)).trans a9', (World.cell?_of_block (w := w4) (a := ⟨wr.heap.size, 10, none⟩) (h _ rfl)).trans a10'⟩
                go_region_held3 (fun w' => w'.cell? ⟨wr.heap.size, 9, none⟩ = some (.int .i64 us[i].cl) ∧ w'.cell? ⟨wr.heap.size, 10, none⟩ = some (.int .u64 us[i].tok))
                  (first | exact keep.out _ hk7.out | exact keep.out _ hk6.out | exact keep.out _ (fun _ _ => rfl))
                  (first
                    | (go_at_call 20; refine (cancel_any us[i].cl us[i].tok R6.t).mono ?_; rintro e w7 ⟨rfl, hq7, hu7⟩
                       have R7 := (R6.swap.turn hq7 (fun k h => .inl h) hu7).swap
                       have hk7 : Hid (∀ k, k = wr.heap.size → w7.heap[k]? = w4.heap[k]?) := hid (fun k hk => (hu7.block k (by subst hk; simp at hz6; omega) fun h => by have := hwrS' _ h; omega).trans (hk6.out k hk))
                       clear hq7 hu7)
                    | (go_at_call 20; refine (cancel_any us[i].cl us[i].tok Rd.q).mono ?_; rintro e w6 ⟨rfl, hq6, hu6⟩
                       have R6 := Rd.turn hq6 (fun k h => .inl h) hu6
                       have hz6 := hu6.size
                       have hk6 : Hid (∀ k, k = wr.heap.size → w6.heap[k]? = w4.heap[k]?) := hid (fun k hk => hu6.block k (by subst hk; exact hz4) fun h => by have := hwrS _ h; omega)
                       clear hq6 hu6))
                go_wp2_with fail
                go_roundw
                case rel => exact ⟨i + 1, S, S', _, T, by go_num, hlt, R7⟩
                case measure => simp [intOf]; omega
              · by_cases hk7 : us[i].kind = 7
                · rw [hk7] at a0
                  clear hk1 hk2 hk4 hk7
                  have hX : Below wr.heap.size wr (wr.alloc (.cells #[.int .i64 7, .int .i64 us[i].r.p.cl, .int .u64 us[i].r.p.tok, .string us[i].r.p.nm, .slice us[i].r.A1 us[i].r.p.args.length us[i].r.c1, .int .i64 us[i].r.p.how, .slice us[i].r.A2 us[i].r.p.rd.length us[i].r.c2, .slice us[i].r.A3 us[i].r.p.wr.length us[i].r.c3, .int .i64 us[i].i, .int .i64 us[i].cl, .int .u64 us[i].tok] 42)) := (Below.refl _ _).alloc (Nat.le_refl _) _
                  have R1 := R.step hX
                  have ka := Blk.new wr 42 #[.int .i64 7, .int .i64 us[i].r.p.cl, .int .u64 us[i].r.p.tok, .string us[i].r.p.nm, .slice us[i].r.A1 us[i].r.p.args.length us[i].r.c1, .int .i64 us[i].r.p.how, .slice us[i].r.A2 us[i].r.p.rd.length us[i].r.c2, .slice us[i].r.A3 us[i].r.p.wr.length us[i].r.c3, .int .i64 us[i].i, .int .i64 us[i].cl, .int .u64 us[i].tok]
                  have okp1 := okp.below hX
                  clear R hX
                  have a8' : (wr.alloc (.cells #[.int .i64 7, .int .i64 us[i].r.p.cl, .int .u64 us[i].r.p.tok, .string us[i].r.p.nm, .slice us[i].r.A1 us[i].r.p.args.length us[i].r.c1, .int .i64 us[i].r.p.how, .slice us[i].r.A2 us[i].r.p.rd.length us[i].r.c2, .slice us[i].r.A3 us[i].r.p.wr.length us[i].r.c3, .int .i64 us[i].i, .int .i64 us[i].cl, .int .u64 us[i].tok] 42)).cell? ⟨wr.heap.size, 8, none⟩ = some (.int .i64 us[i].i) := ka.cell 8
                  go_wp2_with fail
                  generalize wr.alloc (.cells #[.int .i64 7, .int .i64 us[i].r.p.cl, .int .u64 us[i].r.p.tok, .string us[i].r.p.nm, .slice us[i].r.A1 us[i].r.p.args.length us[i].r.c1, .int .i64 us[i].r.p.how, .slice us[i].r.A2 us[i].r.p.rd.length us[i].r.c2, .slice us[i].r.A3 us[i].r.p.wr.length us[i].r.c3, .int .i64 us[i].i, .int .i64 us[i].cl, .int .u64 us[i].tok] 42) = w4 at *
                  have hz4 := ka.lt
                  refine (outI us[i].i R1.q).mono ?_
                  rintro e w5 ⟨r5, ok5, rfl, hc5, hown5, hq5, hu5⟩
                  have R5 := R1.turn hq5 (fun k h => .inl h) hu5
                  have ka5 := ka.upd hu5 fun h => by have := hwrS _ h; omega
                  have R6 := R5.step ((Below.refl _ _).alloc (Nat.le_refl _) (.cells #[.int .i64 r5.p.cl, .int .u64 r5.p.tok, .string r5.p.nm, .slice r5.A1 r5.p.args.length r5.c1, .int .i64 r5.p.how, .slice r5.A2 r5.p.rd.length r5.c2, .slice r5.A3 r5.p.wr.length r5.c3] 40))
                  have kb6 := Blk.new w5 40 #[.int .i64 r5.p.cl, .int .u64 r5.p.tok, .string r5.p.nm, .slice r5.A1 r5.p.args.length r5.c1, .int .i64 r5.p.how, .slice r5.A2 r5.p.rd.length r5.c2, .slice r5.A3 r5.p.wr.length r5.c3]
                  have ka6 := ka5.alloc (.cells #[.int .i64 r5.p.cl, .int .u64 r5.p.tok, .string r5.p.nm, .slice r5.A1 r5.p.args.length r5.c1, .int .i64 r5.p.how, .slice r5.A2 r5.p.rd.length r5.c2, .slice r5.A3 r5.p.wr.length r5.c3] 40)
                  have hown6 : r5.own w4.heap.size (w5.alloc (.cells #[.int .i64 r5.p.cl, .int .u64 r5.p.tok, .string r5.p.nm, .slice r5.A1 r5.p.args.length r5.c1, .int .i64 r5.p.how, .slice r5.A2 r5.p.rd.length r5.c2, .slice r5.A3 r5.p.wr.length r5.c3] 40)) := ⟨hown5.args.alloc _, hown5.rd.alloc _, hown5.wr.alloc _⟩
                  have hz5 := hu5.size
                  have a8'' : (w5.alloc (.cells #[.int .i64 r5.p.cl, .int .u64 r5.p.tok, .string r5.p.nm, .slice r5.A1 r5.p.args.length r5.c1, .int .i64 r5.p.how, .slice r5.A2 r5.p.rd.length r5.c2, .slice r5.A3 r5.p.wr.length r5.c3] 40)).cell? ⟨wr.heap.size, 8, none⟩ = some (.int .i64 us[i].i) := ka6.cell 8
                  clear R1 R5 ka5 hq5 hu5 hown5
                  go_wp2_with fail
                  generalize w5.alloc (.cells #[.int .i64 r5.p.cl, .int .u64 r5.p.tok, .string r5.p.nm, .slice r5.A1 r5.p.args.length r5.c1, .int .i64 r5.p.how, .slice r5.A2 r5.p.rd.length r5.c2, .slice r5.A3 r5.p.wr.length r5.c3] 40) = w6 at *
                  refine (outI us[i].i R6.t).mono ?_
                  rintro e w7 ⟨r7, ok7, rfl, hc7, hown7, hq7, hu7⟩
                  have R7 := (R6.swap.turn hq7 (fun k h => .inl h) hu7).swap
                  obtain ⟨rfl, hpe0, hfit⟩ := gone_same hfi hc5 hc7
                  have hpe := hid hpe0
                  clear hpe0
                  have kb7 := kb6.upd hu7 fun h => by have := hwrS' _ h; omega
                  have hown8 : r5.own w4.heap.size w7 := hown6.upd hu7 fun k h1 _ h2 => by have := hwrS' _ h2; omega
                  have R8 := R7.step ((Below.refl _ _).alloc (Nat.le_refl _) (.cells #[.int .i64 r7.p.cl, .int .u64 r7.p.tok, .string r7.p.nm, .slice r7.A1 r7.p.args.length r7.c1, .int .i64 r7.p.how, .slice r7.A2 r7.p.rd.length r7.c2, .slice r7.A3 r7.p.wr.length r7.c3] 40))
                  have kb8 := kb7.alloc (.cells #[.int .i64 r7.p.cl, .int .u64 r7.p.tok, .string r7.p.nm, .slice r7.A1 r7.p.args.length r7.c1, .int .i64 r7.p.how, .slice r7.A2 r7.p.rd.length r7.c2, .slice r7.A3 r7.p.wr.length r7.c3] 40)
                  have kc8 := Blk.new w7 40 #[.int .i64 r7.p.cl, .int .u64 r7.p.tok, .string r7.p.nm, .slice r7.A1 r7.p.args.length r7.c1, .int .i64 r7.p.how, .slice r7.A2 r7.p.rd.length r7.c2, .slice r7.A3 r7.p.wr.length r7.c3]
                  have ok8 : r5.ok (fun b => w4.heap.size ≤ b) (w7.alloc (.cells #[.int .i64 r7.p.cl, .int .u64 r7.p.tok, .string r7.p.nm, .slice r7.A1 r7.p.args.length r7.c1, .int .i64 r7.p.how, .slice r7.A2 r7.p.rd.length r7.c2, .slice r7.A3 r7.p.wr.length r7.c3] 40)) := hown8.ok.alloc _
                  have ok9 : r7.ok (fun b => w6.heap.size ≤ b) (w7.alloc (.cells #[.int .i64 r7.p.cl, .int .u64 r7.p.tok, .string r7.p.nm, .slice r7.A1 r7.p.args.length r7.c1, .int .i64 r7.p.how, .slice r7.A2 r7.p.rd.length r7.c2, .slice r7.A3 r7.p.wr.length r7.c3] 40)) := hown7.ok.alloc _
                  have x0 : w7.cell? ⟨w5.heap.size, 0, none⟩ = some (.int .i64 r5.p.cl) := kb7.cell 0
                  have x1 : w7.cell? ⟨w5.heap.size, 1, none⟩ = some (.int .u64 r5.p.tok) := kb7.cell 1
                  have x2 : w7.cell? ⟨w5.heap.size, 2, none⟩ = some (.string r5.p.nm) := kb7.cell 2
                  have x3 : w7.cell? ⟨w5.heap.size, 3, none⟩ = some (.slice r5.A1 r5.p.args.length r5.c1) := kb7.cell 3
                  have x4 : w7.cell? ⟨w5.heap.size, 4, none⟩ = some (.int .i64 r5.p.how) := kb7.cell 4
                  have x5 : w7.cell? ⟨w5.heap.size, 5, none⟩ = some (.slice r5.A2 r5.p.rd.length r5.c2) := kb7.cell 5
                  have x6 : w7.cell? ⟨w5.heap.size, 6, none⟩ = some (.slice r5.A3 r5.p.wr.length r5.c3) := kb7.cell 6
                  have hl7 := kb7.lt
                  clear R6 R7 kb6 ka6 kb7 hown6 hown7 hown8 hq7 hu7 hc5 hc7
                  go_wp2_with fail
                  refine (plans_any _ _ r5 r7 _ hpe.out ok8 ok9 hfit).mono ?_
                  rintro e w9 ⟨rfl, hb9⟩
                  have R9 := R8.step hb9
                  go_wp2_with fail
                  go_roundw
                  case rel => exact ⟨i + 1, S, S', _, T, by go_num, hlt, R9⟩
                  case measure => simp [intOf]; omega
                · have hd1 : (us[i].kind == 1) = false := by simpa using hk1
                  have hd2 : (us[i].kind == 2) = false := by simpa using hk2
                  have hd4 : (us[i].kind == 4) = false := by simpa using hk4
                  have hd7 : (us[i].kind == 7) = false := by simpa using hk7
                  clear hk1 hk2 hk4 hk7
                  have hX : Below wr.heap.size wr (wr.alloc (.cells #[.int .i64 us[i].kind, .int .i64 us[i].r.p.cl, .int .u64 us[i].r.p.tok, .string us[i].r.p.nm, .slice us[i].r.A1 us[i].r.p.args.length us[i].r.c1, .int .i64 us[i].r.p.how, .slice us[i].r.A2 us[i].r.p.rd.length us[i].r.c2, .slice us[i].r.A3 us[i].r.p.wr.length us[i].r.c3, .int .i64 us[i].i, .int .i64 us[i].cl, .int .u64 us[i].tok] 42)) := (Below.refl _ _).alloc (Nat.le_refl _) _
                  have R1 := R.step hX
                  have ka := Blk.new wr 42 #[.int .i64 us[i].kind, .int .i64 us[i].r.p.cl, .int .u64 us[i].r.p.tok, .string us[i].r.p.nm, .slice us[i].r.A1 us[i].r.p.args.length us[i].r.c1, .int .i64 us[i].r.p.how, .slice us[i].r.A2 us[i].r.p.rd.length us[i].r.c2, .slice us[i].r.A3 us[i].r.p.wr.length us[i].r.c3, .int .i64 us[i].i, .int .i64 us[i].cl, .int .u64 us[i].tok]
                  have okp1 := okp.below hX
                  clear R hX
                  go_wp2_with fail
                  go_roundw
                  case rel => exact ⟨i + 1, S, S', L, T, by go_num, hlt, R1⟩
                  case measure => simp [intOf]; omega
        · obtain rfl : i = us.length := by omega
          go_wp2_with fail
          refine (len_any R.q).mono ?_
          rintro e w' ⟨rfl, rfl⟩
          go_wp2_with fail
          refine (len_any R.t).mono ?_
          rintro e w' ⟨rfl, rfl⟩
          go_wp2_with (go_at_call 10; refine (live_any _).mono ?_; rintro e w3 ⟨rfl, hb3⟩)
          go_ret
          exact ⟨rfl, R.below.trans (hb3.mono R.below.size)⟩

end Go.Proofs.Ytppcjaljhahdnaa

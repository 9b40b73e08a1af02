/- QueueOrder: the walk of the law. -/
import Derived.Test.YtppcjaljhahdnaaQOwe
import Derived.Deep.CutBlock
import Derived.Deep.DeepCutAuto
namespace Go.Proofs.Ytppcjaljhahdnaa
open Go.RowKit
set_option linter.unusedVariables false
set_option linter.unusedSimpArgs false

/-- behind the switch -/
def OrdMid (W : World) (g : Nat) (mt sh wn : Int) (A : Option Addr) (c : Nat) (us : List QA) (z : Nat) (q : Array Value) (v : Value) (wx : World) : Prop :=
  ∃ (S : Nat → Prop) (L : List Pl) (T : Int → List Int) (l : List RP) (A' : Option Addr) (c' : Nat), v = .slice A' l.length c' ∧ Beside W g mt sh wn A c us S L T wx ∧ Owe W S (.slice A' l.length c') l wx ∧ SameKeys l L ∧ Bnd sh L ∧ Blk wx z 42 q

set_option maxRecDepth 100000 in
set_option maxHeartbeats 8000000 in
theorem order_walk (mt sh wn : Int) (A : Option Addr) (c : Nat) (us : List QA) (W : World) (ha : QActs (fun b => b < W.heap.size) W A us) (hl : us.length ≤ 2000000) (hp : partsQ us ≤ 100000000) (hf : ∀ a ∈ us, a.r.p.fits) :
    Calls Try.prog 6 #[.agg #[.int .i64 mt, .int .i64 sh, .int .i64 wn, .slice A us.length c]] W fun e w' => e = .returned (.bool true) ∧ Below W.heap.size W w' := by
  go_enter Try.func6, Try.ntmps6
  go_wp2_with fail
  have hB0 : Below W.heap.size W (W.alloc (.cells #[.int .i64 mt, .int .i64 sh, .int .i64 wn, .slice A us.length c] 24)) := (Below.refl _ _).alloc (Nat.le_refl _) _
  have kb0 := Blk.new W 24 #[.int .i64 mt, .int .i64 sh, .int .i64 wn, .slice A us.length c]
  generalize W.alloc (.cells #[.int .i64 mt, .int .i64 sh, .int .i64 wn, .slice A us.length c] 24) = W0 at *
  refine (long_any _ A c us mt sh wn W0 (ha.below hB0) (by omega) hp).mono ?_
  rintro e w1 ⟨b, rfl, hb1⟩
  have hB1 := hB0.trans (hb1.mono hB0.size)
  have kb1 := kb0.below_all hb1
  have hz1 := kb1.lt
  have d0 : w1.cell? ⟨W.heap.size, 0, none⟩ = some (.int .i64 mt) := kb1.cell 0
  have d1 : w1.cell? ⟨W.heap.size, 1, none⟩ = some (.int .i64 sh) := kb1.cell 1
  have d2 : w1.cell? ⟨W.heap.size, 2, none⟩ = some (.int .i64 wn) := kb1.cell 2
  clear hb1 hB0 kb0
  cases b with
  | true =>
    go_wp2_with (go_at_call 10; refine (live_any _).mono ?_; rintro e w3 ⟨rfl, hb3⟩)
    go_ret
    exact ⟨rfl, hB1.trans (hb3.mono hB1.size)⟩
  | false =>
    cases hbad : badNew mt sh wn with
    | true =>
      go_wp2_with (first
        | (go_at_call 11; refine (new_bad mt sh wn _ hbad).mono ?_; rintro e w' ⟨rfl, rfl⟩)
        | (go_at_call 12; refine (num_any _ _).mono ?_; rintro e w' ⟨rfl, rfl⟩)
        | (go_at_call 10; refine (live_any _).mono ?_; rintro e w3 ⟨rfl, hb3⟩))
      go_ret
      exact ⟨rfl, hB1.trans (hb3.mono hB1.size)⟩
    | false =>
      have hsh : 0 ≤ sh := by unfold badNew at hbad; have := of_decide_eq_false hbad; omega
      go_wp2_with fail
      refine (new_ok mt sh wn _ hbad).mono ?_
      rintro e w2 ⟨S2, g, ⟨rfl, hS2⟩, h2, hb2⟩
      have R2 : Beside W g mt sh wn A c us S2 [] (fun _ => []) w2 := ⟨h2, fun k hk => by have := hS2 k hk; omega, kb1.below_all hb2, hB1.trans (hb2.mono hB1.size)⟩
      clear h2 hb2 kb1 hB1 d0 d1 d2 hS2
      go_wp2_with (go_at_call 12; refine (num_any _ _).mono ?_; rintro e w' ⟨rfl, rfl⟩)
      go_loopw [5, 6] (fun v i' wr => OrdRel W g mt sh wn A c us v i' wr) (fun _ i' _ => us.length - (intOf i').toNat)
      case atStart => exact ⟨0, S2, [], _, [], rfl, Nat.zero_le _, R2, ⟨ReqAt.nil _, by simp [Value.ownBlock]⟩, rfl, .nil hsh⟩
      case round =>
        clear R2
        obtain ⟨i, S, L, T, l, rfl, hi, R, D, hK, hBd⟩ := hrel
        have b3 : wr.cell? ⟨W.heap.size, 3, none⟩ = some (.slice A us.length c) := R.box.cell 3
        have hwrS : ∀ k, S k → k < wr.heap.size := R.q.lt.1
        have hL0 := R.q.len
        have hav := hid (D.fresh (k := wr.heap.size) (Nat.le_refl _))
        by_cases hlt : i < us.length
        · obtain ⟨b, o, rfl, hbW, hbl, okp, a0, a1, a2, a3, a4, a5, a6, a7, a8, a9, a10⟩ := (ha.below R.below).at_ hlt
          have hrf := hf _ (List.getElem_mem hlt)
          have i1 : (i : Int) < (us.length : Int) := by omega
          have hX : Below wr.heap.size wr (wr.alloc (.cells #[.int .i64 us[i].kind, .int .i64 us[i].r.p.cl, .int .u64 us[i].r.p.tok, .string us[i].r.p.nm, .slice us[i].r.A1 us[i].r.p.args.length us[i].r.c1, .int .i64 us[i].r.p.how, .slice us[i].r.A2 us[i].r.p.rd.length us[i].r.c2, .slice us[i].r.A3 us[i].r.p.wr.length us[i].r.c3, .int .i64 us[i].i, .int .i64 us[i].cl, .int .u64 us[i].tok] 42)) := (Below.refl _ _).alloc (Nat.le_refl _) _
          have R1 := R.step hX
          have D1 := D.step hX
          have ka := Blk.new wr 42 #[.int .i64 us[i].kind, .int .i64 us[i].r.p.cl, .int .u64 us[i].r.p.tok, .string us[i].r.p.nm, .slice us[i].r.A1 us[i].r.p.args.length us[i].r.c1, .int .i64 us[i].r.p.how, .slice us[i].r.A2 us[i].r.p.rd.length us[i].r.c2, .slice us[i].r.A3 us[i].r.p.wr.length us[i].r.c3, .int .i64 us[i].i, .int .i64 us[i].cl, .int .u64 us[i].tok]
          have okp1 := okp.below hX
          have hz4 := ka.lt
          clear R D hX
          go_upto_block 2 with fail
          generalize wr.alloc (.cells #[.int .i64 us[i].kind, .int .i64 us[i].r.p.cl, .int .u64 us[i].r.p.tok, .string us[i].r.p.nm, .slice us[i].r.A1 us[i].r.p.args.length us[i].r.c1, .int .i64 us[i].r.p.how, .slice us[i].r.A2 us[i].r.p.rd.length us[i].r.c2, .slice us[i].r.A3 us[i].r.p.wr.length us[i].r.c3, .int .i64 us[i].i, .int .i64 us[i].cl, .int .u64 us[i].tok] 42) = w4 at *
          go_cut [5] (fun v' wx => OrdMid W g mt sh wn (some ⟨b, o, none⟩) c us wr.heap.size #[.int .i64 us[i].kind, .int .i64 us[i].r.p.cl, .int .u64 us[i].r.p.tok, .string us[i].r.p.nm, .slice us[i].r.A1 us[i].r.p.args.length us[i].r.c1, .int .i64 us[i].r.p.how, .slice us[i].r.A2 us[i].r.p.rd.length us[i].r.c2, .slice us[i].r.A3 us[i].r.p.wr.length us[i].r.c3, .int .i64 us[i].i, .int .i64 us[i].cl, .int .u64 us[i].tok] v' wx)
          case first =>
            by_cases hk1 : us[i].kind = 1
            · have hd1 : (us[i].kind == 1) = true := by simpa using hk1
              clear hk1
              as_aux_lemma =>
                have c1 : w4.cell? ⟨wr.heap.size, 1, none⟩ = some (.int .i64 us[i].r.p.cl) := ka.cell 1
                have c2 : w4.cell? ⟨wr.heap.size, 2, none⟩ = some (.int .u64 us[i].r.p.tok) := ka.cell 2
                have c3 : w4.cell? ⟨wr.heap.size, 3, none⟩ = some (.string us[i].r.p.nm) := ka.cell 3
                have c4 : w4.cell? ⟨wr.heap.size, 4, none⟩ = some (.slice us[i].r.A1 us[i].r.p.args.length us[i].r.c1) := ka.cell 4
                have c5 : w4.cell? ⟨wr.heap.size, 5, none⟩ = some (.int .i64 us[i].r.p.how) := ka.cell 5
                have c6 : w4.cell? ⟨wr.heap.size, 6, none⟩ = some (.slice us[i].r.A2 us[i].r.p.rd.length us[i].r.c2) := ka.cell 6
                have c7 : w4.cell? ⟨wr.heap.size, 7, none⟩ = some (.slice us[i].r.A3 us[i].r.p.wr.length us[i].r.c3) := ka.cell 7
                go_wp2_with fail
                clear c1 c2 c3 c4 c5 c6 c7
                refine (eplan_any _ us[i].r w4 okp1 hrf).mono ?_
                rintro e w6 ⟨r6, ⟨hp0, rfl⟩, hown6, hb6⟩
                have hf6 : r6.p.fits := by rw [hp0]; exact hrf
                have hp6 := hid hp0
                clear hp0
                have R6 := R1.step hb6
                have D6 := D1.step hb6
                have ka6 := ka.below_all hb6
                go_wp2_with fail
                refine (submit_any _ r6 R6.q hown6.ok hf6).mono ?_
                rintro e w7 ⟨S7, rfl, hq7, hS7, hu7⟩
                have R7 := R6.turn hq7 hS7 hu7
                have D7 := D6.turn hS7 hu7
                have ka7 := ka6.upd hu7 fun h => by have := hwrS _ h; omega
                have hlt7 := ka7.lt
                have hBd7 : Bnd sh (subL mt sh L T r6.p) := hBd.sub
                by_cases hc : subCode mt sh L T r6.p = 0
                · have hK7 : SameKeys (l ++ [us[i].r]) (subL mt sh L T r6.p) := by
                    unfold subL
                    rw [if_pos hc]
                    exact hK.snoc hp6.out
                  rw [hc]
                  generalize subL mt sh L T r6.p = L7 at *
                  generalize subT mt sh wn L T r6.p = T7 at *
                  have hK7 := hid hK7
                  clear R6 D6 ka ka6 hq7 hS7 hu7 hb6 hown6 hf6 hc R1 D1 hBd
                  have hl9 : l.length ≤ 1000000000 := by have := hK.len; omega
                  clear hK
                  have hBA : Below w7.heap.size w7 (w7.alloc (.cells #[.int .i64 us[i].r.p.cl, .int .u64 us[i].r.p.tok, .string us[i].r.p.nm, .slice us[i].r.A1 us[i].r.p.args.length us[i].r.c1] 35)) := (Below.refl _ _).alloc (Nat.le_refl _) _
                  have R8 := R7.step hBA
                  have D8 := D7.step hBA
                  have ka8 := ka7.below_all hBA
                  obtain ⟨v9, w9, hrun9, hr9, hu9, ho9⟩ := run_req_append _ _ l D8.req w7.heap.size us[i].r (Rd.new w7 35 4 1 (rcells us[i].r).toArray _ rfl rfl) hl9 52
                  have R9 := R8.far hu9 fun k hk => ⟨(D8.out k hk).2, (D8.out k hk).1⟩
                  have ka9 := ka8.upd hu9 fun hk => hav.out hk
                  have D9 : Owe W S7 v9 (l ++ [us[i].r]) w9 := ⟨hr9, fun b hb => by
                    rcases ho9 b hb with h | h
                    · exact D8.out b h
                    · have h1 := R8.below.size
                      have h2 := R8.box.lt
                      exact ⟨fun hs => by have := R8.q.lt.1 b hs; omega, by omega⟩⟩
                  obtain ⟨Av, cv, rfl, hcv, _⟩ := D9.req.form
                  have e1 : w7.cell? ⟨wr.heap.size, 1, none⟩ = some (.int .i64 us[i].r.p.cl) := ka7.cell 1
                  have e2 : w7.cell? ⟨wr.heap.size, 2, none⟩ = some (.int .u64 us[i].r.p.tok) := ka7.cell 2
                  have e3 : w7.cell? ⟨wr.heap.size, 3, none⟩ = some (.string us[i].r.p.nm) := ka7.cell 3
                  have e4 : w7.cell? ⟨wr.heap.size, 4, none⟩ = some (.slice us[i].r.A1 us[i].r.p.args.length us[i].r.c1) := ka7.cell 4
                  clear R7 D7 R8 D8 hBA ka7 ka8 hu9 hr9 ho9
                  go_wp2_with (first
                    | (go_at_call 12; refine (num_any _ _).mono ?_; rintro e w' ⟨rfl, rfl⟩)
                    | (at_builtin; refine wpList_append_of rfl (.tmp 65) (.tmp 69) 52 rfl _ (.slice (some ⟨w7.heap.size, 0, none⟩) 1 1) rfl rfl _ w9 hrun9 ?_))
                  go_meet
                  exact ⟨S7, L7, T7, l ++ [us[i].r], Av, cv, by simp, R9, D9, hK7.out, hBd7, ka9⟩
                · have hcc : (subCode mt sh L T r6.p == 0) = false := by simpa using hc
                  have hL7 : subL mt sh L T r6.p = L := by unfold subL; rw [if_neg hc]
                  rw [hL7] at R7 hBd7
                  generalize subT mt sh wn L T r6.p = T7 at *
                  generalize subCode mt sh L T r6.p = cd at *
                  clear hc hL7 R6 D6 ka ka6 hq7 hS7 hu7 hb6 hown6 hf6 R1 D1 hBd
                  obtain ⟨Av, cv, rfl, hcv, _⟩ := D7.req.form
                  go_wp2_with (go_at_call 12; refine (num_any _ _).mono ?_; rintro e w' ⟨rfl, rfl⟩)
                  go_meet
                  exact ⟨S7, L, T7, l, Av, cv, rfl, R7, D7, hK, hBd7, ka7⟩
            · have hd1 : (us[i].kind == 1) = false := by simpa using hk1
              clear hk1
              by_cases hk2 : us[i].kind = 2
              · have hd2 : (us[i].kind == 2) = true := by simpa using hk2
                clear hk2
                as_aux_lemma =>
                  obtain ⟨Av, cv, rfl, hcv, hcm⟩ := D1.req.form
                  go_wp2_with fail
                  have hlenH := hid hK.len
                  refine (takeI R1.q).mono ?_
                  rintro e w5 ⟨r5, ok5, rfl, hc5, hown5, hq5, hu5⟩
                  have R5 := R1.turn hq5 (fun k h => .inl h) hu5
                  have D5 := D1.turn (fun k h => .inl h) hu5
                  have ka5 := ka.upd hu5 fun h => by have := hwrS _ h; omega
                  have hBd5 := hBd.out 0
                  have hBA : Below w5.heap.size w5 (w5.alloc (.cells #[.int .i64 r5.p.cl, .int .u64 r5.p.tok, .string r5.p.nm, .slice r5.A1 r5.p.args.length r5.c1, .int .i64 r5.p.how, .slice r5.A2 r5.p.rd.length r5.c2, .slice r5.A3 r5.p.wr.length r5.c3] 40)) := (Below.refl _ _).alloc (Nat.le_refl _) _
                  have R6 := R5.step hBA
                  have D6 := D5.step hBA
                  have ka6 := ka5.below_all hBA
                  have kb6 := Blk.new w5 40 #[.int .i64 r5.p.cl, .int .u64 r5.p.tok, .string r5.p.nm, .slice r5.A1 r5.p.args.length r5.c1, .int .i64 r5.p.how, .slice r5.A2 r5.p.rd.length r5.c2, .slice r5.A3 r5.p.wr.length r5.c3]
                  clear R1 D1 ka hown5 hq5 hu5 R5 D5 ka5 hBA hBd
                  by_cases h0 : L.length = 0
                  · rw [if_neg (by omega)] at hc5
                    obtain ⟨rfl, hz⟩ := hc5
                    obtain rfl : l = [] := List.eq_nil_of_length_eq_zero (by rw [hK.len]; exact h0)
                    have hoL : outL L 0 = L := by unfold outL; rw [if_neg (by omega)]
                    rw [hoL] at R6 hBd5
                    clear h0 hz hoL kb6
                    go_wp2_with fail
                    go_meet
                    exact ⟨S, L, T, [], Av, cv, rfl, R6, D6, hK, hBd5, ka6⟩
                  · rw [if_pos (by omega)] at hc5
                    obtain ⟨rfl, hr5⟩ := hc5
                    cases l with
                    | nil => exact absurd hK.len (by simp; omega)
                    | cons r0 l0 =>
                      obtain ⟨hk1, hk2, hk3⟩ := hK.at_ (k := 0) (by simp) (by omega)
                      simp only [List.getElem_cons_zero] at hk1 hk2 hk3
                      have hr5' : r5.p = L[0] := by
                        simp only [Int.toNat_zero] at hr5
                        rw [List.getElem?_eq_getElem (by omega)] at hr5
                        injection hr5
                      rw [← hr5'] at hk1 hk2 hk3
                      have hoL : outL L 0 = L.take 0 ++ L.drop (0 + 1) := by unfold outL; rw [if_pos (by omega)]; rfl
                      have hK5 : SameKeys l0 (outL L 0) := by rw [hoL]; simpa using hK.out 0
                      generalize outL L 0 = L5 at *
                      have hk := hid (And.intro hk1 (And.intro hk2 hk3))
                      clear hr5 hr5' hoL hK hk1 hk2 hk3 h0
                      obtain ⟨b2, o2, rfl, _, hb2, f0, f1, f2⟩ := req_at (D6.req.rd) (k := 0) (by simp)
                      simp only [Nat.zero_mul, Nat.add_zero, List.getElem_cons_zero] at f0 f1 f2
                      have ht := D6.req
                      simp only [List.length_cons] at ht hcv
                      have ht := ht.tail
                      have i2 : (0 : Int) < (l0.length : Int) + 1 := by omega
                      have i4 : (1 : Int) ≤ (l0.length : Int) + 1 := by omega
                      have hD := hid D6.out
                      clear D6
                      go_wp2_with fail
                      generalize w5.alloc (.cells #[.int .i64 r5.p.cl, .int .u64 r5.p.tok, .string r5.p.nm, .slice r5.A1 r5.p.args.length r5.c1, .int .i64 r5.p.how, .slice r5.A2 r5.p.rd.length r5.c2, .slice r5.A3 r5.p.wr.length r5.c3] 40) = w7 at *
                      have x0 : w7.cell? ⟨w5.heap.size, 0, none⟩ = some (.int .i64 r0.p.cl) := by rw [hk.out.1]; exact kb6.cell 0
                      have x1 : w7.cell? ⟨w5.heap.size, 1, none⟩ = some (.int .u64 r0.p.tok) := by rw [hk.out.2.1]; exact kb6.cell 1
                      have x2 : w7.cell? ⟨w5.heap.size, 2, none⟩ = some (.string r0.p.nm) := by rw [hk.out.2.2]; exact kb6.cell 2
                      clear kb6 hk
                      go_quiet (fail)
                      by_cases hc1 : cv = 1
                      · rw [if_pos hc1] at ht
                        have R7 := R6.step (below_drewN (Below.refl _ _) nq)
                        have ka7 : Blk (w7.drewN nq) wr.heap.size _ _ := ka6
                        have D7 : Owe W S (.slice (some ⟨b2, o2, none⟩) l0.length (cv - 1)) l0 (w7.drewN nq) := ⟨ht.below (below_drewN (Below.refl _ _) nq), fun b hb => hD.out b hb⟩
                        subst hc1
                        obtain rfl : l0 = [] := List.eq_nil_of_length_eq_zero (by omega)
                        have D7 : Owe W S (.slice (some ⟨b2, o2, none⟩) 0 0) [] (w7.drewN nq) := D7
                        clear x0 x1 x2 f0 f1 f2 R6 ka6 ht
                        go_wp2_with fail
                        go_meet
                        exact ⟨S, L5, T, [], _, _, rfl, R7, D7, hK5, hBd5, ka7⟩
                      · rw [if_neg hc1] at ht
                        have R7 := R6.step (below_drewN (Below.refl _ _) nq)
                        have ka7 : Blk (w7.drewN nq) wr.heap.size _ _ := ka6
                        have D7 : Owe W S (.slice (some ⟨b2, o2 + 4, none⟩) l0.length (cv - 1)) l0 (w7.drewN nq) := ⟨ht.below (below_drewN (Below.refl _ _) nq), fun b hb => hD.out b hb⟩
                        clear x0 x1 x2 f0 f1 f2 R6 ka6 ht
                        go_wp2_with fail
                        go_meet
                        exact ⟨S, L5, T, l0, _, _, rfl, R7, D7, hK5, hBd5, ka7⟩
              · have hd2 : (us[i].kind == 2) = false := by simpa using hk2
                clear hk2
                by_cases hk4 : us[i].kind = 4
                · have hd4 : (us[i].kind == 4) = true := by simpa using hk4
                  clear hk4
                  as_aux_lemma =>
                    obtain ⟨Av, cv, rfl, hcv, hcm⟩ := D1.req.form
                    have a9' : w4.cell? ⟨wr.heap.size, 9, none⟩ = some (.int .i64 us[i].cl) := ka.cell 9
                    have a10' : w4.cell? ⟨wr.heap.size, 10, none⟩ = some (.int .u64 us[i].tok) := ka.cell 10
                    have hl9 : l.length ≤ 1000000000 := by have := hK.len; omega
                    have hfa := find_any _ Av cv l us[i].cl us[i].tok w4 D1.req.rd hl9
                    have hca := cancel_any us[i].cl us[i].tok R1.q
                    have hlt2 := idxP_lt us[i].cl us[i].tok L 0
                    rw [hK.idx] at hfa
                    generalize idxP us[i].cl us[i].tok L 0 = ix at *
                    have hfa := hid hfa
                    have hlenH := hid hK.len
                    go_wp2_with fail
                    refine (hfa.out).mono ?_
                    rintro e w' ⟨rfl, rfl⟩
                    go_wp2_with fail
                    refine hca.mono ?_
                    rintro e w5 ⟨rfl, hq5, hu5⟩
                    have R5 := R1.turn hq5 (fun k h => .inl h) hu5
                    have D5 := D1.turn (fun k h => .inl h) hu5
                    have ka5 := ka.upd hu5 fun h => by have := hwrS _ h; omega
                    clear R1 D1 ka hq5 hu5 hfa hca
                    rcases hlt2 with rfl | ⟨m, hm, rfl⟩
                    · have hoL : outL L (-1) = L := by unfold outL; rw [if_neg (by omega)]
                      rw [hoL] at R5
                      clear hoL
                      go_wp2_with fail
                      go_meet
                      exact ⟨S, L, T, l, Av, cv, rfl, R5, D5, hK, hBd, ka5⟩
                    · simp only [Nat.zero_add] at R5
                      have hoL : outL L (m : Int) = L.take m ++ L.drop (m + 1) := by unfold outL; rw [if_pos (by omega)]; rfl
                      have hBd5 := hBd.out m
                      have hK5 : SameKeys (l.take m ++ l.drop (m + 1)) (outL L m) := by rw [hoL]; exact hK.out m
                      have hml : m < l.length := by rw [hlenH.out]; exact hm
                      generalize outL L (m : Int) = L5 at *
                      have hK5 := hid hK5
                      clear hoL hK hBd
                      obtain ⟨bq, oq, rfl, _, hbq, _⟩ := req_at D5.req.rd hml
                      have hpre := D5.req.rd.preq m (by omega)
                      have hsuf := hid D5.req.rd
                      obtain ⟨iq, hiq, hq0, hq1, hq2⟩ := info_parts info_req
                      have hw1 : IntKind.i64.wrap ((m : Int) + 1) = (m : Int) + 1 := IntWalk.i64_in _ (by omega)
                      have i2 : m ≤ cv := by omega
                      have i3 : m + 1 ≤ l.length := by omega
                      have i4 : l.length ≤ cv := hcv
                      have j1 : (0 : Int) ≤ (m : Int) + 1 := by omega
                      have j2 : (m : Int) + 1 ≤ (l.length : Int) := by omega
                      have hl0 : (l.take m ++ l.drop (m + 1)).length = l.length - 1 := by simp; omega
                      have hl1 := hid hl0
                      clear hl0
                      clear D5
                      have y9 : w5.cell? ⟨wr.heap.size, 9, none⟩ = some (.int .i64 us[i].cl) := ka5.cell 9
                      have hz8 := ka5.lt
                      go_upto_region 28 with fail
                      by_cases hcc : cv = m + 1
                      · obtain rfl := hcc
                        have i5 : l.length ≤ m + 1 := i4
                        have j3 : (m : Int) ≤ (m : Int) + 1 := by omega
                        have j4 : m ≤ m + 1 := by omega
                        obtain ⟨A2, c2, w2, A3, c3, w3, hr2, hb2, hr3, hb3, ho3⟩ := run_two w5 l m 0 (m + 1) 0 (some ⟨bq, oq, none⟩) (some ⟨bq, oq, none⟩) hpre ⟨by rw [List.drop_eq_nil_of_le (by omega)]; rfl, fun h => absurd h (by omega)⟩ hml (by omega) hl9
                        have y12 : (w5.alloc (.cells #[] 35)).drew.cell? ⟨wr.heap.size, 9, none⟩ = some (.int .i64 us[i].cl) := ((((Below.refl _ w5).alloc (Nat.le_refl _) _).drew).cell (p := ⟨wr.heap.size, 9, none⟩) hz8).trans y9
                        have y10 : w2.cell? ⟨wr.heap.size, 9, none⟩ = some (.int .i64 us[i].cl) := (hb2.cell (p := ⟨wr.heap.size, 9, none⟩) hz8).trans y9
                        have y11 : w3.cell? ⟨wr.heap.size, 9, none⟩ = some (.int .i64 us[i].cl) := (hb3.cell (p := ⟨wr.heap.size, 9, none⟩) hz8).trans y9
                        have hb3 := hid hb3
                        have ho3 := hid ho3
                        clear hb2 hpre hsuf
                        go_region_held3 (fun w' => w'.cell? ⟨wr.heap.size, 9, none⟩ = some (.int .i64 us[i].cl)) (first | exact y9 | exact y12 | exact y10 | exact y11)
                          (first
                            | refine step_append_of rfl (.tmp 137) (.tmp 141) 52 rfl (.slice A2 m c2) (.slice (some ⟨bq, oq, none⟩) 0 0) rfl rfl _ w3 hr3 ?_
                            | refine step_append_of rfl (.tmp 133) (.tmp 136) 52 rfl (.slice (some ⟨w5.heap.size, 0, none⟩) 0 0) (.slice (some ⟨bq, oq, none⟩) m (m + 1)) rfl rfl _ w2 hr2 ?_)
                        all_goals
                          go_wp2_with fail
                          go_meet
                          refine ⟨S, L5, T, l.take m ++ l.drop (m + 1), A3, c3, by rw [hl1.out], R5.step hb3.out, ?_, hK5, hBd5, ka5.below_all hb3.out⟩
                          rw [hl1.out]
                          exact owe_of_two hb3.out ho3.out hl1.out R5.box.lt R5.q.lt.1
                      · obtain ⟨A2, c2, w2, A3, c3, w3, hr2, hb2, hr3, hb3, ho3⟩ := run_two w5 l m (l.length - (m + 1)) cv (cv - (m + 1)) (some ⟨bq, oq, none⟩) (some ⟨bq, oq + (m + 1) * 4, none⟩) hpre (hsuf.out.sufq (m + 1) hcc i4) hml (by omega) hl9
                        have y12 : (w5.alloc (.cells #[] 35)).drew.cell? ⟨wr.heap.size, 9, none⟩ = some (.int .i64 us[i].cl) := ((((Below.refl _ w5).alloc (Nat.le_refl _) _).drew).cell (p := ⟨wr.heap.size, 9, none⟩) hz8).trans y9
                        have y10 : w2.cell? ⟨wr.heap.size, 9, none⟩ = some (.int .i64 us[i].cl) := (hb2.cell (p := ⟨wr.heap.size, 9, none⟩) hz8).trans y9
                        have y11 : w3.cell? ⟨wr.heap.size, 9, none⟩ = some (.int .i64 us[i].cl) := (hb3.cell (p := ⟨wr.heap.size, 9, none⟩) hz8).trans y9
                        have hb3 := hid hb3
                        have ho3 := hid ho3
                        clear hb2 hpre hsuf
                        go_region_held3 (fun w' => w'.cell? ⟨wr.heap.size, 9, none⟩ = some (.int .i64 us[i].cl)) (first | exact y9 | exact y12 | exact y10 | exact y11)
                          (first
                            | refine step_append_of rfl (.tmp 137) (.tmp 141) 52 rfl (.slice A2 m c2) (.slice (some ⟨bq, oq + (m + 1) * 4, none⟩) (l.length - (m + 1)) (cv - (m + 1))) rfl rfl _ w3 hr3 ?_
                            | refine step_append_of rfl (.tmp 133) (.tmp 136) 52 rfl (.slice (some ⟨w5.heap.size, 0, none⟩) 0 0) (.slice (some ⟨bq, oq, none⟩) m cv) rfl rfl _ w2 hr2 ?_)
                        all_goals
                          go_wp2_with fail
                          go_meet
                          refine ⟨S, L5, T, l.take m ++ l.drop (m + 1), A3, c3, by rw [hl1.out], R5.step hb3.out, ?_, hK5, hBd5, ka5.below_all hb3.out⟩
                          rw [hl1.out]
                          exact owe_of_two hb3.out ho3.out hl1.out R5.box.lt R5.q.lt.1
                · have hd4 : (us[i].kind == 4) = false := by simpa using hk4
                  clear hk4
                  by_cases hk5 : us[i].kind = 5
                  · have hd5 : (us[i].kind == 5) = true := by simpa using hk5
                    clear hk5
                    as_aux_lemma =>
                      obtain ⟨Av, cv, rfl, hcv, _⟩ := D1.req.form
                      have hll : (((L.length : Nat) : Int) != ((l.length : Nat) : Int)) = false := by rw [hK.len]; simp
                      go_wp2_with fail
                      refine (clear_any R1.q).mono ?_
                      rintro e w7 ⟨rfl, hq7, hu7⟩
                      obtain ⟨L9, hL9⟩ : ∃ L9 : List Pl, L9 = [] := ⟨_, rfl⟩
                      rw [← hL9] at hq7
                      have R7 := R1.turn hq7 (fun k h => .inl h) hu7
                      have D7 : Owe W S (.slice none 0 0) [] w7 := ⟨ReqAt.nil _, by simp [Value.ownBlock]⟩
                      have hK7 : SameKeys [] L9 := by rw [hL9]; rfl
                      have hBd7 : Bnd sh L9 := by rw [hL9]; exact .nil (by have := hBd.1 0; omega)
                      clear hL9
                      have ka7 := ka.upd hu7 fun h => by have := hwrS _ h; omega
                      clear R1 D1 ka hq7 hu7 hK hBd
                      go_wp2_with fail
                      go_meet
                      exact ⟨S, L9, T, [], none, 0, rfl, R7, D7, hK7, hBd7, ka7⟩
                  · have hd5 : (us[i].kind == 5) = false := by simpa using hk5
                    clear hk5
                    by_cases hk7 : us[i].kind = 7
                    · have hd7 : (us[i].kind == 7) = true := by simpa using hk7
                      clear hk7
                      as_aux_lemma =>
                        obtain ⟨Av, cv, rfl, hcv, hcm⟩ := D1.req.form
                        have a8 : w4.cell? ⟨wr.heap.size, 8, none⟩ = some (.int .i64 us[i].i) := ka.cell 8
                        have hl9 : l.length ≤ 1000000000 := by have := hK.len; omega
                        have hlenH := hid hK.len
                        go_wp2_with fail
                        refine (outI us[i].i R1.q).mono ?_
                        rintro e w5 ⟨r5, ok5, rfl, hc5, hown5, hq5, hu5⟩
                        have R5 := R1.turn hq5 (fun k h => .inl h) hu5
                        have D5 := D1.turn (fun k h => .inl h) hu5
                        have ka5 := ka.upd hu5 fun h => by have := hwrS _ h; omega
                        have hBd5 := hBd.out us[i].i
                        have hBA : Below w5.heap.size w5 (w5.alloc (.cells #[.int .i64 r5.p.cl, .int .u64 r5.p.tok, .string r5.p.nm, .slice r5.A1 r5.p.args.length r5.c1, .int .i64 r5.p.how, .slice r5.A2 r5.p.rd.length r5.c2, .slice r5.A3 r5.p.wr.length r5.c3] 40)) := (Below.refl _ _).alloc (Nat.le_refl _) _
                        have R6 := R5.step hBA
                        have D6 := D5.step hBA
                        have ka6 := ka5.below_all hBA
                        have kb6 := Blk.new w5 40 #[.int .i64 r5.p.cl, .int .u64 r5.p.tok, .string r5.p.nm, .slice r5.A1 r5.p.args.length r5.c1, .int .i64 r5.p.how, .slice r5.A2 r5.p.rd.length r5.c2, .slice r5.A3 r5.p.wr.length r5.c3]
                        clear a8 R1 D1 ka hown5 hq5 hu5 R5 D5 ka5 hBA hBd
                        by_cases hin : 0 ≤ us[i].i ∧ us[i].i < (L.length : Int)
                        · rw [if_pos hin] at hc5
                          obtain ⟨rfl, hr5⟩ := hc5
                          obtain ⟨m, hm⟩ : ∃ m : Nat, us[i].i = (m : Int) := ⟨us[i].i.toNat, by omega⟩
                          have hmL : m < L.length := by omega
                          have hml : m < l.length := by rw [hlenH.out]; exact hmL
                          obtain ⟨hk1, hk2, _⟩ := hK.at_ hml hmL
                          have hr5' : r5.p = L[m] := by
                            rw [hm, Int.toNat_natCast, List.getElem?_eq_getElem hmL] at hr5
                            injection hr5
                          rw [← hr5'] at hk1 hk2
                          have hoL : outL L us[i].i = L.take m ++ L.drop (m + 1) := by rw [hm]; unfold outL; rw [if_pos (by omega)]; rfl
                          have hK5 : SameKeys (l.take m ++ l.drop (m + 1)) (outL L us[i].i) := by rw [hoL]; exact hK.out m
                          generalize outL L us[i].i = L5 at *
                          have hm := hid hm
                          have hK5 := hid hK5
                          have hk := hid (And.intro hk1 hk2)
                          clear hr5 hr5' hoL hK hk1 hk2 hin
                          obtain ⟨bq, oq, rfl, _, hbq, f0, f1, _⟩ := req_at D6.req.rd hml
                          have i1m : (m : Int) < (l.length : Int) := by omega
                          have j0 : (0 : Int) ≤ (m : Int) := by omega
                          go_upto_region 35 with fail
                          generalize w5.alloc (.cells #[.int .i64 r5.p.cl, .int .u64 r5.p.tok, .string r5.p.nm, .slice r5.A1 r5.p.args.length r5.c1, .int .i64 r5.p.how, .slice r5.A2 r5.p.rd.length r5.c2, .slice r5.A3 r5.p.wr.length r5.c3] 40) = w7 at *
                          have x0 : w7.cell? ⟨w5.heap.size, 0, none⟩ = some (.int .i64 l[m].p.cl) := by rw [hk.out.1]; exact kb6.cell 0
                          have x1 : w7.cell? ⟨w5.heap.size, 1, none⟩ = some (.int .u64 l[m].p.tok) := by rw [hk.out.2]; exact kb6.cell 1
                          have x8 : w7.cell? ⟨wr.heap.size, 8, none⟩ = some (.int .i64 (m : Int)) := by rw [← hm.out]; exact ka6.cell 8
                          have hz7 := ka6.lt
                          clear kb6 hk
                          go_wp2_with fail
                          go_quiet (fail)
                          have R7 := R6.step (below_drewN (Below.refl _ _) nq)
                          have ka7 : Blk (w7.drewN nq) wr.heap.size _ _ := ka6
                          have D7 := D6.step (below_drewN (Below.refl _ _) nq)
                          have y8 : (w7.drewN nq).cell? ⟨wr.heap.size, 8, none⟩ = some (.int .i64 (m : Int)) := x8
                          have hz8 : wr.heap.size < (w7.drewN nq).heap.size := hz7
                          clear x0 x1 x8 f0 f1 R6 ka6 D6 hz7
                          go_upto_region 40 with fail
                          generalize w7.drewN nq = w8 at *
                          have hpre := D7.req.rd.preq m (by omega)
                          have hsuf := hid D7.req.rd
                          obtain ⟨iq, hiq, hq0, hq1, hq2⟩ := info_parts info_req
                          have hw1 : IntKind.i64.wrap ((m : Int) + 1) = (m : Int) + 1 := IntWalk.i64_in _ (by omega)
                          have i2 : m ≤ cv := by omega
                          have i3 : m + 1 ≤ l.length := by omega
                          have i4 : l.length ≤ cv := hcv
                          have j1 : (0 : Int) ≤ (m : Int) + 1 := by omega
                          have j2 : (m : Int) + 1 ≤ (l.length : Int) := by omega
                          have hl0 : (l.take m ++ l.drop (m + 1)).length = l.length - 1 := by simp; omega
                          have hl1 := hid hl0
                          clear hl0
                          clear D7
                          by_cases hcc : cv = m + 1
                          · obtain rfl := hcc
                            have i5 : l.length ≤ m + 1 := i4
                            have j3 : (m : Int) ≤ (m : Int) + 1 := by omega
                            have j4 : m ≤ m + 1 := by omega
                            obtain ⟨A2, c2, w2, A3, c3, w3, hr2, hb2, hr3, hb3, ho3⟩ := run_two w8 l m 0 (m + 1) 0 (some ⟨bq, oq, none⟩) (some ⟨bq, oq, none⟩) hpre ⟨by rw [List.drop_eq_nil_of_le (by omega)]; rfl, fun h => absurd h (by omega)⟩ hml (by omega) hl9
                            have y12 : (w8.alloc (.cells #[] 35)).drew.cell? ⟨wr.heap.size, 8, none⟩ = some (.int .i64 (m : Int)) := ((((Below.refl _ w8).alloc (Nat.le_refl _) _).drew).cell (p := ⟨wr.heap.size, 8, none⟩) hz8).trans y8
                            have y10 : w2.cell? ⟨wr.heap.size, 8, none⟩ = some (.int .i64 (m : Int)) := (hb2.cell (p := ⟨wr.heap.size, 8, none⟩) hz8).trans y8
                            have y11 : w3.cell? ⟨wr.heap.size, 8, none⟩ = some (.int .i64 (m : Int)) := (hb3.cell (p := ⟨wr.heap.size, 8, none⟩) hz8).trans y8
                            have hb3 := hid hb3
                            have ho3 := hid ho3
                            clear hb2 hpre hsuf
                            go_region_held3 (fun w' => w'.cell? ⟨wr.heap.size, 8, none⟩ = some (.int .i64 (m : Int))) (first | exact y8 | exact y12 | exact y10 | exact y11)
                              (first
                                | refine step_append_of rfl (.tmp 199) (.tmp 204) 52 rfl (.slice A2 m c2) (.slice (some ⟨bq, oq, none⟩) 0 0) rfl rfl _ w3 hr3 ?_
                                | refine step_append_of rfl (.tmp 194) (.tmp 198) 52 rfl (.slice (some ⟨w8.heap.size, 0, none⟩) 0 0) (.slice (some ⟨bq, oq, none⟩) m (m + 1)) rfl rfl _ w2 hr2 ?_)
                            all_goals
                              go_wp2_with fail
                              go_meet
                              refine ⟨S, L5, T, l.take m ++ l.drop (m + 1), A3, c3, by rw [hl1.out], R7.step hb3.out, ?_, hK5, hBd5, ka7.below_all hb3.out⟩
                              rw [hl1.out]
                              exact owe_of_two hb3.out ho3.out hl1.out R7.box.lt R7.q.lt.1
                          · obtain ⟨A2, c2, w2, A3, c3, w3, hr2, hb2, hr3, hb3, ho3⟩ := run_two w8 l m (l.length - (m + 1)) cv (cv - (m + 1)) (some ⟨bq, oq, none⟩) (some ⟨bq, oq + (m + 1) * 4, none⟩) hpre (hsuf.out.sufq (m + 1) hcc i4) hml (by omega) hl9
                            have y12 : (w8.alloc (.cells #[] 35)).drew.cell? ⟨wr.heap.size, 8, none⟩ = some (.int .i64 (m : Int)) := ((((Below.refl _ w8).alloc (Nat.le_refl _) _).drew).cell (p := ⟨wr.heap.size, 8, none⟩) hz8).trans y8
                            have y10 : w2.cell? ⟨wr.heap.size, 8, none⟩ = some (.int .i64 (m : Int)) := (hb2.cell (p := ⟨wr.heap.size, 8, none⟩) hz8).trans y8
                            have y11 : w3.cell? ⟨wr.heap.size, 8, none⟩ = some (.int .i64 (m : Int)) := (hb3.cell (p := ⟨wr.heap.size, 8, none⟩) hz8).trans y8
                            have hb3 := hid hb3
                            have ho3 := hid ho3
                            clear hb2 hpre hsuf
                            go_region_held3 (fun w' => w'.cell? ⟨wr.heap.size, 8, none⟩ = some (.int .i64 (m : Int))) (first | exact y8 | exact y12 | exact y10 | exact y11)
                              (first
                                | refine step_append_of rfl (.tmp 199) (.tmp 204) 52 rfl (.slice A2 m c2) (.slice (some ⟨bq, oq + (m + 1) * 4, none⟩) (l.length - (m + 1)) (cv - (m + 1))) rfl rfl _ w3 hr3 ?_
                                | refine step_append_of rfl (.tmp 194) (.tmp 198) 52 rfl (.slice (some ⟨w8.heap.size, 0, none⟩) 0 0) (.slice (some ⟨bq, oq, none⟩) m cv) rfl rfl _ w2 hr2 ?_)
                            all_goals
                              go_wp2_with fail
                              go_meet
                              refine ⟨S, L5, T, l.take m ++ l.drop (m + 1), A3, c3, by rw [hl1.out], R7.step hb3.out, ?_, hK5, hBd5, ka7.below_all hb3.out⟩
                              rw [hl1.out]
                              exact owe_of_two hb3.out ho3.out hl1.out R7.box.lt R7.q.lt.1
                        · rw [if_neg hin] at hc5
                          obtain ⟨rfl, hr5⟩ := hc5
                          have hoL : outL L us[i].i = L := by unfold outL; rw [if_neg (by omega)]
                          rw [hoL] at R6 hBd5
                          clear hr5 hoL kb6
                          go_upto_region 35 with fail
                          generalize w5.alloc (.cells #[.int .i64 r5.p.cl, .int .u64 r5.p.tok, .string r5.p.nm, .slice r5.A1 r5.p.args.length r5.c1, .int .i64 r5.p.how, .slice r5.A2 r5.p.rd.length r5.c2, .slice r5.A3 r5.p.wr.length r5.c3] 40) = w7 at *
                          have x8 : w7.cell? ⟨wr.heap.size, 8, none⟩ = some (.int .i64 us[i].i) := ka6.cell 8
                          by_cases h0 : 0 ≤ us[i].i
                          · have d0 : decide (us[i].i < ((l.length : Nat) : Int)) = false := decide_eq_false (by rw [hlenH.out]; omega)
                            have d1 : decide (0 ≤ us[i].i) = true := decide_eq_true h0
                            clear hin
                            go_wp2_with fail
                            go_meet
                            exact ⟨S, L, T, l, Av, cv, rfl, R6, D6, hK, hBd5, ka6⟩
                          · have d1 : decide (0 ≤ us[i].i) = false := decide_eq_false h0
                            clear hin
                            go_wp2_with fail
                            go_meet
                            exact ⟨S, L, T, l, Av, cv, rfl, R6, D6, hK, hBd5, ka6⟩
                    · have hd7 : (us[i].kind == 7) = false := by simpa using hk7
                      clear hk7
                      as_aux_lemma =>
                        obtain ⟨Av, cv, rfl, hcv, _⟩ := D1.req.form
                        go_wp2_with fail
                        go_meet
                        exact ⟨S, L, T, l, Av, cv, rfl, R1, D1, hK, hBd, ka⟩
          case rest =>
            as_aux_lemma =>
              obtain ⟨S5, L5, T5, l5, A5, c5, rfl, R5, D5, K5, Bd5, ka5⟩ := hcut
              have hll : (((L5.length : Nat) : Int) != ((l5.length : Nat) : Int)) = false := by rw [K5.len]; simp
              have Rd := R5.step (Below.refl _ _).drew
              have Dd := D5.step (Below.refl _ _).drew
              have hlenq := R5.q.len
              have b0 : wc.cell? ⟨W.heap.size, 0, none⟩ = some (.int .i64 mt) := R5.box.cell 0
              have b1 : wc.cell? ⟨W.heap.size, 1, none⟩ = some (.int .i64 sh) := R5.box.cell 1
              have k1 : wc.cell? ⟨wr.heap.size, 1, none⟩ = some (.int .i64 us[i].r.p.cl) := ka5.cell 1
              have hq1 : decide (mt < ((L5.length : Nat) : Int)) = false := decide_eq_false (by omega)
              have hq2 : decide (sh < ((cnt us[i].r.p.cl L5 : Nat) : Int)) = false := decide_eq_false (by have := Bd5.1 us[i].r.p.cl; omega)
              have hK9 := hid K5
              have hB9 := hid Bd5
              clear K5 Bd5 R5 D5
              go_wp2_with fail
              go_region_held3 (fun w' => w'.cell? ⟨W.heap.size, 0, none⟩ = some (.int .i64 mt) ∧ w'.cell? ⟨W.heap.size, 1, none⟩ = some (.int .i64 sh) ∧ w'.cell? ⟨wr.heap.size, 1, none⟩ = some (.int .i64 us[i].r.p.cl)) (first | exact ⟨b0, b1, k1⟩)
                (first
                  | (go_at_call 13; refine (len_any Rd.q).mono ?_; rintro e w' ⟨rfl, rfl⟩)
                  | (go_at_call 18; refine (of_any us[i].r.p.cl Rd.q).mono ?_; rintro e w' ⟨rfl, rfl⟩))
              go_wp2_with fail
              go_roundw
              case rel => exact ⟨i + 1, S5, L5, T5, l5, by go_num, hlt, Rd, Dd, hK9.out, hB9.out⟩
              case measure => simp [intOf]; omega
        · obtain rfl : i = us.length := by omega
          go_wp2_with (go_at_call 10; refine (live_any _).mono ?_; rintro e w3 ⟨rfl, hb3⟩)
          go_ret
          exact ⟨rfl, R.below.trans (hb3.mono R.below.size)⟩

end Go.Proofs.Ytppcjaljhahdnaa

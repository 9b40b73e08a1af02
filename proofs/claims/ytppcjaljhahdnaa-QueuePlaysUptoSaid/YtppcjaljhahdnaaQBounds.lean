/- QueueBounds: the walk of the law. -/
import Derived.Test.YtppcjaljhahdnaaQActs
namespace Go.Proofs.Ytppcjaljhahdnaa
open Go.RowKit
set_option linter.unusedVariables false
set_option linter.unusedSimpArgs false

/-- of each client no more than a share; the clients are clients -/
def Bnd (sh : Int) (L : List Pl) : Prop := (∀ c, (cnt c L : Int) ≤ sh) ∧ ∀ p ∈ L, 0 ≤ p.cl ∧ p.cl < 64
def sumC (L : List Pl) : Nat → Nat
  | 0 => 0
  | k + 1 => sumC L k + cnt (k : Int) L
theorem cnt_cons (x : Int) (p : Pl) (L : List Pl) : cnt x (p :: L) = cnt x L + if p.cl = x then 1 else 0 := by
  unfold cnt
  by_cases h : p.cl = x <;> simp [h]
theorem sumC_nil (k : Nat) : sumC [] k = 0 := by
  induction k with
  | zero => rfl
  | succ k ih => show sumC [] k + 0 = 0; rw [ih]
theorem sumC_cons (p : Pl) (L : List Pl) (k : Nat) : sumC (p :: L) k = sumC L k + if 0 ≤ p.cl ∧ p.cl < (k : Int) then 1 else 0 := by
  induction k with
  | zero => rw [if_neg (by omega)]; rfl
  | succ k ih =>
    show sumC (p :: L) k + cnt (k : Int) (p :: L) = sumC L k + cnt (k : Int) L + _
    rw [ih, cnt_cons]
    by_cases h1 : p.cl = (k : Int)
    · rw [if_pos h1, if_neg (by omega), if_pos (by omega)]; omega
    · rw [if_neg h1]
      by_cases h2 : 0 ≤ p.cl ∧ p.cl < (k : Int)
      · rw [if_pos h2, if_pos (by omega)]; omega
      · rw [if_neg h2, if_neg (by omega)]; omega
theorem sumC_le (L : List Pl) (k : Nat) : sumC L k ≤ L.length := by
  induction L with
  | nil => rw [sumC_nil]; exact Nat.zero_le _
  | cons p L ih => rw [sumC_cons, List.length_cons]; split <;> omega
theorem sumC_all (L : List Pl) (h : ∀ p ∈ L, 0 ≤ p.cl ∧ p.cl < 64) : sumC L 64 = L.length := by
  induction L with
  | nil => exact sumC_nil _
  | cons p L ih => rw [sumC_cons, List.length_cons, ih fun q hq => h q (List.mem_cons_of_mem _ hq), if_pos (by have := h p List.mem_cons_self; omega)]
theorem cnt_snoc (x : Int) (L : List Pl) (p : Pl) : cnt x (L ++ [p]) = cnt x L + if p.cl = x then 1 else 0 := by
  unfold cnt
  rw [List.filter_append, List.length_append]
  by_cases h : p.cl = x <;> simp [h]
theorem Bnd.nil {sh : Int} (h : 0 ≤ sh) : Bnd sh [] := ⟨fun c => by simpa [cnt] using h, by simp⟩
theorem Bnd.sub {mt sh : Int} {L : List Pl} {T : Int → List Int} {p : Pl} (h : Bnd sh L) : Bnd sh (subL mt sh L T p) := by
  unfold subL
  split
  · rename_i hc
    unfold subCode at hc
    split at hc
    · simp at hc
    · rename_i h1
      have h1 : subBad p.cl = false := by simpa using h1
      have h1 := of_decide_eq_false h1
      split at hc
      · simp at hc
      · split at hc
        · simp at hc
        · split at hc
          · simp at hc
          · rename_i h4
            refine ⟨fun x => ?_, fun q hq => ?_⟩
            · rw [cnt_snoc]
              have := h.1 x
              by_cases hx : p.cl = x
              · subst hx; rw [if_pos rfl]; omega
              · rw [if_neg hx]; omega
            · rcases List.mem_append.1 hq with hq | hq
              · exact h.2 q hq
              · obtain rfl := List.mem_singleton.1 hq; omega
  · exact h
theorem Bnd.out {sh : Int} {L : List Pl} (h : Bnd sh L) (i : Int) : Bnd sh (outL L i) := by
  unfold outL
  split
  · rename_i hi
    refine ⟨fun x => ?_, fun q hq => h.2 q ?_⟩
    · have := cnt_out x L i.toNat (by omega)
      have := h.1 x
      omega
    · rcases List.mem_append.1 hq with hq | hq
      · exact List.mem_of_mem_take hq
      · exact List.mem_of_mem_drop hq
  · exact h
theorem subCode_full {mt sh : Int} {L : List Pl} {T : Int → List Int} {p : Pl} (h : (L.length : Int) = mt) : subCode mt sh L T p ≠ 0 := by
  unfold subCode
  split
  · decide
  · split
    · decide
    · first | decide | (split <;> first | decide | (rename_i h3; exact absurd h h3))
theorem QAt.len {S : Nat → Prop} {w : World} {g : Nat} {mt sh wn : Int} {L : List Pl} {T : Int → List Int} (h : QAt S w g mt sh wn L T) : (L.length : Int) ≤ mt ∧ mt ≤ 1024 := by
  obtain ⟨mo, ms, A, c, rs, of, tk, q, rfl, _⟩ := h
  have h1 := q.len
  have h2 := q.mt1
  rw [show (plans rs).length = rs.length from by simp [plans]]
  omega

/-- a queue beside a law's arguments -/
structure Beside (W : World) (g : Nat) (mt sh wn : Int) (A : Option Addr) (c : Nat) (us : List QA) (S : Nat → Prop) (L : List Pl) (T : Int → List Int) (wr : World) : Prop where
  q : QAt S wr g mt sh wn L T
  new : ∀ k, S k → W.heap.size < k
  box : Blk wr W.heap.size 24 #[.int .i64 mt, .int .i64 sh, .int .i64 wn, .slice A us.length c]
  below : Below W.heap.size W wr
section
variable {W wr w' : World} {g : Nat} {mt sh wn : Int} {A : Option Addr} {c : Nat} {us : List QA} {S S' : Nat → Prop} {L L' : List Pl} {T T' : Int → List Int}
theorem Beside.step (h : Beside W g mt sh wn A c us S L T wr) (hb : Below wr.heap.size wr w') : Beside W g mt sh wn A c us S L T w' :=
  ⟨h.q.below hb, h.new, h.box.below_all hb, h.below.trans (hb.mono h.below.size)⟩
theorem Beside.turn (h : Beside W g mt sh wn A c us S L T wr) (hq : QAt S' w' g mt sh wn L' T') (hS : ∀ k, S' k → S k ∨ wr.heap.size ≤ k) (hu : Upd S wr w') : Beside W g mt sh wn A c us S' L' T' w' := by
  have hz := h.box.lt
  refine ⟨hq, fun k hk => ?_, h.box.upd hu fun hk => ?_, h.below.trans (hu.below h.below.size fun k hk hS => ?_)⟩
  · rcases hS k hk with h1 | h1
    · exact h.new k h1
    · omega
  · have := h.new _ hk; omega
  · have := h.new k hS; omega
end

def BRel (W : World) (g : Nat) (mt sh wn : Int) (A : Option Addr) (c : Nat) (us : List QA) (v : Value) (wr : World) : Prop :=
  ∃ (i : Nat) (S : Nat → Prop) (L : List Pl) (T : Int → List Int), v = .int .i64 i ∧ i ≤ us.length ∧ Beside W g mt sh wn A c us S L T wr ∧ Bnd sh L

set_option maxRecDepth 100000 in
set_option maxHeartbeats 8000000 in
theorem bounds_walk (mt sh wn : Int) (A : Option Addr) (c : Nat) (us : List QA) (W : World) (ha : QActs (fun b => b < W.heap.size) W A us) (hl : us.length ≤ 2000000) (hp : partsQ us ≤ 100000000) (hf : ∀ a ∈ us, a.r.p.fits) :
    Calls Try.prog 3 #[.agg #[.int .i64 mt, .int .i64 sh, .int .i64 wn, .slice A us.length c]] W fun e w' => e = .returned (.bool true) ∧ Below W.heap.size W w' := by
  go_enter Try.func3, Try.ntmps3
  go_wp2_with fail
  have hB0 : Below W.heap.size W (W.alloc (.cells #[.int .i64 mt, .int .i64 sh, .int .i64 wn, .slice A us.length c] 24)) := (Below.refl _ _).alloc (Nat.le_refl _) _
  have kb0 := Blk.new W 24 #[.int .i64 mt, .int .i64 sh, .int .i64 wn, .slice A us.length c]
  generalize W.alloc (.cells #[.int .i64 mt, .int .i64 sh, .int .i64 wn, .slice A us.length c] 24) = W0 at *
  refine (long_any _ A c us mt sh wn W0 (ha.below hB0) (by omega) hp).mono ?_
  rintro e w1 ⟨b, rfl, hb1⟩
  have hB1 := hB0.trans (hb1.mono hB0.size)
  have kb1 := kb0.below_all hb1
  have hz1 := kb1.lt
  have d0 : w1.cell? ⟨W.heap.size, 0, none⟩ = some (.int .i64 mt) := kb1.cell 0
  have d1 : w1.cell? ⟨W.heap.size, 1, none⟩ = some (.int .i64 sh) := kb1.cell 1
  have d2 : w1.cell? ⟨W.heap.size, 2, none⟩ = some (.int .i64 wn) := kb1.cell 2
  clear hb1 hB0 kb0
  cases b with
  | true =>
    go_wp2_with (go_at_call 10; refine (live_any _).mono ?_; rintro e w3 ⟨rfl, hb3⟩)
    go_ret
    exact ⟨rfl, hB1.trans (hb3.mono hB1.size)⟩
  | false =>
    cases hbad : badNew mt sh wn with
    | true =>
      go_wp2_with (first
        | (go_at_call 11; refine (new_bad mt sh wn _ hbad).mono ?_; rintro e w' ⟨rfl, rfl⟩)
        | (go_at_call 12; refine (num_any _ _).mono ?_; rintro e w' ⟨rfl, rfl⟩)
        | (go_at_call 10; refine (live_any _).mono ?_; rintro e w3 ⟨rfl, hb3⟩))
      go_ret
      exact ⟨rfl, hB1.trans (hb3.mono hB1.size)⟩
    | false =>
      have hsh : 0 ≤ sh := by unfold badNew at hbad; have := of_decide_eq_false hbad; omega
      go_wp2_with fail
      refine (new_ok mt sh wn _ hbad).mono ?_
      rintro e w2 ⟨S2, g, ⟨rfl, hS2⟩, h2, hb2⟩
      have R2 : Beside W g mt sh wn A c us S2 [] (fun _ => []) w2 := ⟨h2, fun k hk => by have := hS2 k hk; omega, kb1.below_all hb2, hB1.trans (hb2.mono hB1.size)⟩
      clear h2 hb2 kb1 hB1 d0 d1 d2 hS2
      go_wp2_with (go_at_call 12; refine (num_any _ _).mono ?_; rintro e w' ⟨rfl, rfl⟩)
      go_loopw [5] (fun v wr => BRel W g mt sh wn A c us v wr) (fun v _ => us.length - (intOf v).toNat)
      case atStart => exact ⟨0, S2, [], _, rfl, Nat.zero_le _, R2, .nil hsh⟩
      case round =>
        clear R2
        obtain ⟨i, S, L, T, rfl, hi, R, hBd⟩ := hrel
        have b0 : wr.cell? ⟨W.heap.size, 0, none⟩ = some (.int .i64 mt) := R.box.cell 0
        have b3 : wr.cell? ⟨W.heap.size, 3, none⟩ = some (.slice A us.length c) := R.box.cell 3
        by_cases hlt : i < us.length
        · obtain ⟨b, o, rfl, hbW, hbl, okp, a0, a1, a2, a3, a4, a5, a6, a7, a8, a9, a10⟩ := (ha.below R.below).at_ hlt
          have hrf := hf _ (List.getElem_mem hlt)
          have i1 : (i : Int) < (us.length : Int) := by omega
          by_cases hk1 : us[i].kind = 1
          · rw [hk1] at a0
            clear hk1
            have hX : Below wr.heap.size wr (wr.alloc (.cells #[.int .i64 1, .int .i64 us[i].r.p.cl, .int .u64 us[i].r.p.tok, .string us[i].r.p.nm, .slice us[i].r.A1 us[i].r.p.args.length us[i].r.c1, .int .i64 us[i].r.p.how, .slice us[i].r.A2 us[i].r.p.rd.length us[i].r.c2, .slice us[i].r.A3 us[i].r.p.wr.length us[i].r.c3, .int .i64 us[i].i, .int .i64 us[i].cl, .int .u64 us[i].tok] 42)) := (Below.refl _ _).alloc (Nat.le_refl _) _
            have R1 := R.step hX
            have ka := Blk.new wr 42 #[.int .i64 1, .int .i64 us[i].r.p.cl, .int .u64 us[i].r.p.tok, .string us[i].r.p.nm, .slice us[i].r.A1 us[i].r.p.args.length us[i].r.c1, .int .i64 us[i].r.p.how, .slice us[i].r.A2 us[i].r.p.rd.length us[i].r.c2, .slice us[i].r.A3 us[i].r.p.wr.length us[i].r.c3, .int .i64 us[i].i, .int .i64 us[i].cl, .int .u64 us[i].tok]
            have okp1 := okp.below hX
            clear R hX
            have okd := okp1.drew
            have b05 : (wr.alloc (.cells #[.int .i64 1, .int .i64 us[i].r.p.cl, .int .u64 us[i].r.p.tok, .string us[i].r.p.nm, .slice us[i].r.A1 us[i].r.p.args.length us[i].r.c1, .int .i64 us[i].r.p.how, .slice us[i].r.A2 us[i].r.p.rd.length us[i].r.c2, .slice us[i].r.A3 us[i].r.p.wr.length us[i].r.c3, .int .i64 us[i].i, .int .i64 us[i].cl, .int .u64 us[i].tok] 42)).cell? ⟨W.heap.size, 0, none⟩ = some (.int .i64 mt) := R1.box.cell 0
            by_cases hfull : (L.length : Int) = mt
            · have hfu : ((L.length : Int) == mt) = true := by simpa using hfull
              have hfl := hid hfull
              clear hfull
              go_wp2_with fail
              generalize wr.alloc (.cells #[.int .i64 1, .int .i64 us[i].r.p.cl, .int .u64 us[i].r.p.tok, .string us[i].r.p.nm, .slice us[i].r.A1 us[i].r.p.args.length us[i].r.c1, .int .i64 us[i].r.p.how, .slice us[i].r.A2 us[i].r.p.rd.length us[i].r.c2, .slice us[i].r.A3 us[i].r.p.wr.length us[i].r.c3, .int .i64 us[i].i, .int .i64 us[i].cl, .int .u64 us[i].tok] 42) = w5 at *
              have e1 : w5.cell? ⟨wr.heap.size, 1, none⟩ = some (.int .i64 us[i].r.p.cl) := ka.cell 1
              have e2 : w5.cell? ⟨wr.heap.size, 2, none⟩ = some (.int .u64 us[i].r.p.tok) := ka.cell 2
              have e3 : w5.cell? ⟨wr.heap.size, 3, none⟩ = some (.string us[i].r.p.nm) := ka.cell 3
              have e4 : w5.cell? ⟨wr.heap.size, 4, none⟩ = some (.slice us[i].r.A1 us[i].r.p.args.length us[i].r.c1) := ka.cell 4
              have e5 : w5.cell? ⟨wr.heap.size, 5, none⟩ = some (.int .i64 us[i].r.p.how) := ka.cell 5
              have e6 : w5.cell? ⟨wr.heap.size, 6, none⟩ = some (.slice us[i].r.A2 us[i].r.p.rd.length us[i].r.c2) := ka.cell 6
              have e7 : w5.cell? ⟨wr.heap.size, 7, none⟩ = some (.slice us[i].r.A3 us[i].r.p.wr.length us[i].r.c3) := ka.cell 7
              have Rd := R1.step (Below.refl _ _).drew
              go_region_held3 (fun w' => w'.cell? ⟨W.heap.size, 0, none⟩ = some (.int .i64 mt)) (first | exact b05)
                (first | (go_at_call 13; refine (len_any Rd.q).mono ?_; rintro e w' ⟨rfl, rfl⟩))
              go_wp2_with fail
              refine (eplan_any _ us[i].r w5.drew okd hrf).mono ?_
              rintro e w6 ⟨r6, ⟨hp0, rfl⟩, hown6, hb6⟩
              have hp6 := hid hp0
              have hf6 : r6.p.fits := by rw [hp0]; exact hrf
              clear hp0
              have R6 := Rd.step hb6
              clear e1 e2 e3 e4 e5 e6 e7
              clear R1 Rd hb6
              go_wp2_with fail
              refine (submit_any _ r6 R6.q hown6.ok hf6).mono ?_
              rintro e w7 ⟨S7, rfl, hq7, hS7, hu7⟩
              have R7 := R6.turn hq7 hS7 hu7
              have hBd7 : Bnd sh (subL mt sh L T r6.p) := hBd.sub
              have hcd : (subCode mt sh L T r6.p == 0) = false := by simpa using subCode_full (T := T) (p := r6.p) hfl.out
              generalize subL mt sh L T r6.p = L7 at *
              generalize subT mt sh wn L T r6.p = T7 at *
              generalize subCode mt sh L T r6.p = cd at *
              clear R6 hown6 hq7 hS7 hu7 hBd
              have hlen := R7.q.len
              have hBd1 := hid hBd7.1
              have hBd2 := hid hBd7.2
              have hBd0 := hid hBd7
              clear hBd7
              go_wp2_with (go_at_call 12; refine (num_any _ _).mono ?_; rintro e w' ⟨rfl, rfl⟩)
              go_loopw [9, 10] (fun s v wx => ∃ k : Nat, k ≤ 64 ∧ v = .int .i64 k ∧ s = .int .i64 (sumC L7 k : Nat) ∧ Below w7.heap.size w7 wx) (fun _ v _ => 64 - (intOf v).toNat)
              case atStart => exact ⟨0, by omega, rfl, rfl, Below.refl _ _⟩
              case round =>
                obtain ⟨k, hk, rfl, rfl, hB⟩ := hrel
                have Rx := R7.step hB
                have Rd := Rx.step (Below.refl _ _).drew
                have b0 : wr.cell? ⟨W.heap.size, 0, none⟩ = some (.int .i64 mt) := Rx.box.cell 0
                have b1 : wr.cell? ⟨W.heap.size, 1, none⟩ = some (.int .i64 sh) := Rx.box.cell 1
                have hsl := sumC_le L7 k
                by_cases hlt2 : k < 64
                · have i1 : (k : Int) < 64 := by omega
                  have hcl := cnt_le (k : Int) L7
                  have hc1 : ¬ sh < ((cnt (k : Int) L7 : Nat) : Int) := by have := hBd1.out (k : Int); omega
                  have hc2 : ¬ ((cnt (k : Int) L7 : Nat) : Int) < 0 := by omega
                  have hq1 : decide (sh < ((cnt (k : Int) L7 : Nat) : Int)) = false := decide_eq_false hc1
                  have hq2 : decide (((cnt (k : Int) L7 : Nat) : Int) < 0) = false := decide_eq_false hc2
                  have hc3 : ((cnt (k : Int) L7 : Nat) : Int) ≤ 1024 := by omega
                  have hc4 : ((sumC L7 k : Nat) : Int) ≤ 1024 := by omega
                  have hfin : Hid (((sumC L7 (k + 1) : Nat) : Int) = (sumC L7 k : Int) + (cnt (k : Int) L7 : Int)) := by
                    have : ((sumC L7 (k + 1) : Nat) : Int) = (sumC L7 k : Int) + (cnt (k : Int) L7 : Int) := by show ((sumC L7 k + cnt (k : Int) L7 : Nat) : Int) = _; omega
                    exact hid this
                  go_wp2_with fail
                  go_region_held3 (fun w' => w'.cell? ⟨W.heap.size, 1, none⟩ = some (.int .i64 sh)) (first | exact b1)
                    (first | (go_at_call 18; refine (of_any (k : Int) Rd.q).mono ?_; rintro e w' ⟨rfl, rfl⟩))
                  go_wp2_with (go_at_call 18; refine (of_any (k : Int) Rd.q).mono ?_; rintro e w' ⟨rfl, rfl⟩)
                  go_roundw
                  case rel => exact ⟨k + 1, by omega, by go_num, by rw [hfin.out], hB.drew⟩
                  case measure => simp [intOf]; omega
                · obtain rfl : k = 64 := by omega
                  have hall := sumC_all L7 hBd2.out
                  rw [hall]
                  have hm : ¬ mt < ((L7.length : Nat) : Int) := by omega
                  go_wp2_with (go_at_call 13; refine (len_any Rx.q).mono ?_; rintro e w' ⟨rfl, rfl⟩)
                  go_roundw
                  case rel => exact ⟨i + 1, S7, L7, T7, by go_num, hlt, Rx, hBd0.out⟩
                  case measure => simp [intOf]; omega
            · have hfu : ((L.length : Int) == mt) = false := by simpa using hfull
              clear hfull

              go_wp2_with fail
              generalize wr.alloc (.cells #[.int .i64 1, .int .i64 us[i].r.p.cl, .int .u64 us[i].r.p.tok, .string us[i].r.p.nm, .slice us[i].r.A1 us[i].r.p.args.length us[i].r.c1, .int .i64 us[i].r.p.how, .slice us[i].r.A2 us[i].r.p.rd.length us[i].r.c2, .slice us[i].r.A3 us[i].r.p.wr.length us[i].r.c3, .int .i64 us[i].i, .int .i64 us[i].cl, .int .u64 us[i].tok] 42) = w5 at *
              have e1 : w5.cell? ⟨wr.heap.size, 1, none⟩ = some (.int .i64 us[i].r.p.cl) := ka.cell 1
              have e2 : w5.cell? ⟨wr.heap.size, 2, none⟩ = some (.int .u64 us[i].r.p.tok) := ka.cell 2
              have e3 : w5.cell? ⟨wr.heap.size, 3, none⟩ = some (.string us[i].r.p.nm) := ka.cell 3
              have e4 : w5.cell? ⟨wr.heap.size, 4, none⟩ = some (.slice us[i].r.A1 us[i].r.p.args.length us[i].r.c1) := ka.cell 4
              have e5 : w5.cell? ⟨wr.heap.size, 5, none⟩ = some (.int .i64 us[i].r.p.how) := ka.cell 5
              have e6 : w5.cell? ⟨wr.heap.size, 6, none⟩ = some (.slice us[i].r.A2 us[i].r.p.rd.length us[i].r.c2) := ka.cell 6
              have e7 : w5.cell? ⟨wr.heap.size, 7, none⟩ = some (.slice us[i].r.A3 us[i].r.p.wr.length us[i].r.c3) := ka.cell 7
              have Rd := R1.step (Below.refl _ _).drew
              go_region_held3 (fun w' => w'.cell? ⟨W.heap.size, 0, none⟩ = some (.int .i64 mt)) (first | exact b05)
                (first | (go_at_call 13; refine (len_any Rd.q).mono ?_; rintro e w' ⟨rfl, rfl⟩))
              go_wp2_with fail
              refine (eplan_any _ us[i].r w5.drew okd hrf).mono ?_
              rintro e w6 ⟨r6, ⟨hp0, rfl⟩, hown6, hb6⟩
              have hp6 := hid hp0
              have hf6 : r6.p.fits := by rw [hp0]; exact hrf
              clear hp0
              have R6 := Rd.step hb6
              clear e1 e2 e3 e4 e5 e6 e7
              clear R1 Rd hb6
              go_wp2_with fail
              refine (submit_any _ r6 R6.q hown6.ok hf6).mono ?_
              rintro e w7 ⟨S7, rfl, hq7, hS7, hu7⟩
              have R7 := R6.turn hq7 hS7 hu7
              have hBd7 : Bnd sh (subL mt sh L T r6.p) := hBd.sub

              generalize subL mt sh L T r6.p = L7 at *
              generalize subT mt sh wn L T r6.p = T7 at *
              generalize subCode mt sh L T r6.p = cd at *
              clear R6 hown6 hq7 hS7 hu7 hBd
              have hlen := R7.q.len
              have hBd1 := hid hBd7.1
              have hBd2 := hid hBd7.2
              have hBd0 := hid hBd7
              clear hBd7
              go_wp2_with (go_at_call 12; refine (num_any _ _).mono ?_; rintro e w' ⟨rfl, rfl⟩)
              go_loopw [9, 10] (fun s v wx => ∃ k : Nat, k ≤ 64 ∧ v = .int .i64 k ∧ s = .int .i64 (sumC L7 k : Nat) ∧ Below w7.heap.size w7 wx) (fun _ v _ => 64 - (intOf v).toNat)
              case atStart => exact ⟨0, by omega, rfl, rfl, Below.refl _ _⟩
              case round =>
                obtain ⟨k, hk, rfl, rfl, hB⟩ := hrel
                have Rx := R7.step hB
                have Rd := Rx.step (Below.refl _ _).drew
                have b0 : wr.cell? ⟨W.heap.size, 0, none⟩ = some (.int .i64 mt) := Rx.box.cell 0
                have b1 : wr.cell? ⟨W.heap.size, 1, none⟩ = some (.int .i64 sh) := Rx.box.cell 1
                have hsl := sumC_le L7 k
                by_cases hlt2 : k < 64
                · have i1 : (k : Int) < 64 := by omega
                  have hcl := cnt_le (k : Int) L7
                  have hc1 : ¬ sh < ((cnt (k : Int) L7 : Nat) : Int) := by have := hBd1.out (k : Int); omega
                  have hc2 : ¬ ((cnt (k : Int) L7 : Nat) : Int) < 0 := by omega
                  have hq1 : decide (sh < ((cnt (k : Int) L7 : Nat) : Int)) = false := decide_eq_false hc1
                  have hq2 : decide (((cnt (k : Int) L7 : Nat) : Int) < 0) = false := decide_eq_false hc2
                  have hc3 : ((cnt (k : Int) L7 : Nat) : Int) ≤ 1024 := by omega
                  have hc4 : ((sumC L7 k : Nat) : Int) ≤ 1024 := by omega
                  have hfin : Hid (((sumC L7 (k + 1) : Nat) : Int) = (sumC L7 k : Int) + (cnt (k : Int) L7 : Int)) := by
                    have : ((sumC L7 (k + 1) : Nat) : Int) = (sumC L7 k : Int) + (cnt (k : Int) L7 : Int) := by show ((sumC L7 k + cnt (k : Int) L7 : Nat) : Int) = _; omega
                    exact hid this
                  go_wp2_with fail
                  go_region_held3 (fun w' => w'.cell? ⟨W.heap.size, 1, none⟩ = some (.int .i64 sh)) (first | exact b1)
                    (first | (go_at_call 18; refine (of_any (k : Int) Rd.q).mono ?_; rintro e w' ⟨rfl, rfl⟩))
                  go_wp2_with (go_at_call 18; refine (of_any (k : Int) Rd.q).mono ?_; rintro e w' ⟨rfl, rfl⟩)
                  go_roundw
                  case rel => exact ⟨k + 1, by omega, by go_num, by rw [hfin.out], hB.drew⟩
                  case measure => simp [intOf]; omega
                · obtain rfl : k = 64 := by omega
                  have hall := sumC_all L7 hBd2.out
                  rw [hall]
                  have hm : ¬ mt < ((L7.length : Nat) : Int) := by omega
                  go_wp2_with (go_at_call 13; refine (len_any Rx.q).mono ?_; rintro e w' ⟨rfl, rfl⟩)
                  go_roundw
                  case rel => exact ⟨i + 1, S7, L7, T7, by go_num, hlt, Rx, hBd0.out⟩
                  case measure => simp [intOf]; omega
          · by_cases hk2 : us[i].kind = 2
            · rw [hk2] at a0
              clear hk1 hk2
              have hX : Below wr.heap.size wr (wr.alloc (.cells #[.int .i64 2, .int .i64 us[i].r.p.cl, .int .u64 us[i].r.p.tok, .string us[i].r.p.nm, .slice us[i].r.A1 us[i].r.p.args.length us[i].r.c1, .int .i64 us[i].r.p.how, .slice us[i].r.A2 us[i].r.p.rd.length us[i].r.c2, .slice us[i].r.A3 us[i].r.p.wr.length us[i].r.c3, .int .i64 us[i].i, .int .i64 us[i].cl, .int .u64 us[i].tok] 42)) := (Below.refl _ _).alloc (Nat.le_refl _) _
              have R1 := R.step hX
              have ka := Blk.new wr 42 #[.int .i64 2, .int .i64 us[i].r.p.cl, .int .u64 us[i].r.p.tok, .string us[i].r.p.nm, .slice us[i].r.A1 us[i].r.p.args.length us[i].r.c1, .int .i64 us[i].r.p.how, .slice us[i].r.A2 us[i].r.p.rd.length us[i].r.c2, .slice us[i].r.A3 us[i].r.p.wr.length us[i].r.c3, .int .i64 us[i].i, .int .i64 us[i].cl, .int .u64 us[i].tok]
              have okp1 := okp.below hX
              clear R hX
              go_wp2_with fail
              refine (takeI R1.q).mono ?_
              rintro e w5 ⟨r5, ok5, rfl, _, _, hq5, hu5⟩
              have R5 := R1.turn hq5 (fun k h => .inl h) hu5
              have hBd5 := hBd.out (0)
              generalize outL L (0) = L5 at *
              clear R1 hq5 hu5 hBd
              have hlen := R5.q.len
              have hBd1 := hid hBd5.1
              have hBd2 := hid hBd5.2
              have hBd0 := hid hBd5
              clear hBd5
              go_wp2_with fail
              go_loopw [9, 10] (fun s v wx => ∃ k : Nat, k ≤ 64 ∧ v = .int .i64 k ∧ s = .int .i64 (sumC L5 k : Nat) ∧ Below w5.heap.size w5 wx) (fun _ v _ => 64 - (intOf v).toNat)
              case atStart => exact ⟨0, by omega, rfl, rfl, Below.refl _ _⟩
              case round =>
                obtain ⟨k, hk, rfl, rfl, hB⟩ := hrel
                have Rx := R5.step hB
                have Rd := Rx.step (Below.refl _ _).drew
                have b0 : wr.cell? ⟨W.heap.size, 0, none⟩ = some (.int .i64 mt) := Rx.box.cell 0
                have b1 : wr.cell? ⟨W.heap.size, 1, none⟩ = some (.int .i64 sh) := Rx.box.cell 1
                have hsl := sumC_le L5 k
                by_cases hlt2 : k < 64
                · have i1 : (k : Int) < 64 := by omega
                  have hcl := cnt_le (k : Int) L5
                  have hc1 : ¬ sh < ((cnt (k : Int) L5 : Nat) : Int) := by have := hBd1.out (k : Int); omega
                  have hc2 : ¬ ((cnt (k : Int) L5 : Nat) : Int) < 0 := by omega
                  have hq1 : decide (sh < ((cnt (k : Int) L5 : Nat) : Int)) = false := decide_eq_false hc1
                  have hq2 : decide (((cnt (k : Int) L5 : Nat) : Int) < 0) = false := decide_eq_false hc2
                  have hc3 : ((cnt (k : Int) L5 : Nat) : Int) ≤ 1024 := by omega
                  have hc4 : ((sumC L5 k : Nat) : Int) ≤ 1024 := by omega
                  have hfin : Hid (((sumC L5 (k + 1) : Nat) : Int) = (sumC L5 k : Int) + (cnt (k : Int) L5 : Int)) := by
                    have : ((sumC L5 (k + 1) : Nat) : Int) = (sumC L5 k : Int) + (cnt (k : Int) L5 : Int) := by show ((sumC L5 k + cnt (k : Int) L5 : Nat) : Int) = _; omega
                    exact hid this
                  go_wp2_with fail
                  go_region_held3 (fun w' => w'.cell? ⟨W.heap.size, 1, none⟩ = some (.int .i64 sh)) (first | exact b1)
                    (first | (go_at_call 18; refine (of_any (k : Int) Rd.q).mono ?_; rintro e w' ⟨rfl, rfl⟩))
                  go_wp2_with (go_at_call 18; refine (of_any (k : Int) Rd.q).mono ?_; rintro e w' ⟨rfl, rfl⟩)
                  go_roundw
                  case rel => exact ⟨k + 1, by omega, by go_num, by rw [hfin.out], hB.drew⟩
                  case measure => simp [intOf]; omega
                · obtain rfl : k = 64 := by omega
                  have hall := sumC_all L5 hBd2.out
                  rw [hall]
                  have hm : ¬ mt < ((L5.length : Nat) : Int) := by omega
                  go_wp2_with (go_at_call 13; refine (len_any Rx.q).mono ?_; rintro e w' ⟨rfl, rfl⟩)
                  go_roundw
                  case rel => exact ⟨i + 1, S, L5, T, by go_num, hlt, Rx, hBd0.out⟩
                  case measure => simp [intOf]; omega
            · by_cases hk7 : us[i].kind = 7
              · rw [hk7] at a0
                clear hk1 hk2 hk7
                have hX : Below wr.heap.size wr (wr.alloc (.cells #[.int .i64 7, .int .i64 us[i].r.p.cl, .int .u64 us[i].r.p.tok, .string us[i].r.p.nm, .slice us[i].r.A1 us[i].r.p.args.length us[i].r.c1, .int .i64 us[i].r.p.how, .slice us[i].r.A2 us[i].r.p.rd.length us[i].r.c2, .slice us[i].r.A3 us[i].r.p.wr.length us[i].r.c3, .int .i64 us[i].i, .int .i64 us[i].cl, .int .u64 us[i].tok] 42)) := (Below.refl _ _).alloc (Nat.le_refl _) _
                have R1 := R.step hX
                have ka := Blk.new wr 42 #[.int .i64 7, .int .i64 us[i].r.p.cl, .int .u64 us[i].r.p.tok, .string us[i].r.p.nm, .slice us[i].r.A1 us[i].r.p.args.length us[i].r.c1, .int .i64 us[i].r.p.how, .slice us[i].r.A2 us[i].r.p.rd.length us[i].r.c2, .slice us[i].r.A3 us[i].r.p.wr.length us[i].r.c3, .int .i64 us[i].i, .int .i64 us[i].cl, .int .u64 us[i].tok]
                have okp1 := okp.below hX
                clear R hX
                have a8 : (wr.alloc (.cells #[.int .i64 7, .int .i64 us[i].r.p.cl, .int .u64 us[i].r.p.tok, .string us[i].r.p.nm, .slice us[i].r.A1 us[i].r.p.args.length us[i].r.c1, .int .i64 us[i].r.p.how, .slice us[i].r.A2 us[i].r.p.rd.length us[i].r.c2, .slice us[i].r.A3 us[i].r.p.wr.length us[i].r.c3, .int .i64 us[i].i, .int .i64 us[i].cl, .int .u64 us[i].tok] 42)).cell? ⟨wr.heap.size, 8, none⟩ = some (.int .i64 us[i].i) := ka.cell 8
                go_wp2_with fail
                refine (outI us[i].i R1.q).mono ?_
                rintro e w5 ⟨r5, ok5, rfl, _, _, hq5, hu5⟩
                have R5 := R1.turn hq5 (fun k h => .inl h) hu5
                have hBd5 := hBd.out (us[i].i)
                generalize outL L (us[i].i) = L5 at *
                clear R1 hq5 hu5 hBd
                have hlen := R5.q.len
                have hBd1 := hid hBd5.1
                have hBd2 := hid hBd5.2
                have hBd0 := hid hBd5
                clear hBd5
                go_wp2_with fail
                go_loopw [9, 10] (fun s v wx => ∃ k : Nat, k ≤ 64 ∧ v = .int .i64 k ∧ s = .int .i64 (sumC L5 k : Nat) ∧ Below w5.heap.size w5 wx) (fun _ v _ => 64 - (intOf v).toNat)
                case atStart => exact ⟨0, by omega, rfl, rfl, Below.refl _ _⟩
                case round =>
                  obtain ⟨k, hk, rfl, rfl, hB⟩ := hrel
                  have Rx := R5.step hB
                  have Rd := Rx.step (Below.refl _ _).drew
                  have b0 : wr.cell? ⟨W.heap.size, 0, none⟩ = some (.int .i64 mt) := Rx.box.cell 0
                  have b1 : wr.cell? ⟨W.heap.size, 1, none⟩ = some (.int .i64 sh) := Rx.box.cell 1
                  have hsl := sumC_le L5 k
                  by_cases hlt2 : k < 64
                  · have i1 : (k : Int) < 64 := by omega
                    have hcl := cnt_le (k : Int) L5
                    have hc1 : ¬ sh < ((cnt (k : Int) L5 : Nat) : Int) := by have := hBd1.out (k : Int); omega
                    have hc2 : ¬ ((cnt (k : Int) L5 : Nat) : Int) < 0 := by omega
                    have hq1 : decide (sh < ((cnt (k : Int) L5 : Nat) : Int)) = false := decide_eq_false hc1
                    have hq2 : decide (((cnt (k : Int) L5 : Nat) : Int) < 0) = false := decide_eq_false hc2
                    have hc3 : ((cnt (k : Int) L5 : Nat) : Int) ≤ 1024 := by omega
                    have hc4 : ((sumC L5 k : Nat) : Int) ≤ 1024 := by omega
                    have hfin : Hid (((sumC L5 (k + 1) : Nat) : Int) = (sumC L5 k : Int) + (cnt (k : Int) L5 : Int)) := by
                      have : ((sumC L5 (k + 1) : Nat) : Int) = (sumC L5 k : Int) + (cnt (k : Int) L5 : Int) := by show ((sumC L5 k + cnt (k : Int) L5 : Nat) : Int) = _; omega
                      exact hid this
                    go_wp2_with fail
                    go_region_held3 (fun w' => w'.cell? ⟨W.heap.size, 1, none⟩ = some (.int .i64 sh)) (first | exact b1)
                      (first | (go_at_call 18; refine (of_any (k : Int) Rd.q).mono ?_; rintro e w' ⟨rfl, rfl⟩))
                    go_wp2_with (go_at_call 18; refine (of_any (k : Int) Rd.q).mono ?_; rintro e w' ⟨rfl, rfl⟩)
                    go_roundw
                    case rel => exact ⟨k + 1, by omega, by go_num, by rw [hfin.out], hB.drew⟩
                    case measure => simp [intOf]; omega
                  · obtain rfl : k = 64 := by omega
                    have hall := sumC_all L5 hBd2.out
                    rw [hall]
                    have hm : ¬ mt < ((L5.length : Nat) : Int) := by omega
                    go_wp2_with (go_at_call 13; refine (len_any Rx.q).mono ?_; rintro e w' ⟨rfl, rfl⟩)
                    go_roundw
                    case rel => exact ⟨i + 1, S, L5, T, by go_num, hlt, Rx, hBd0.out⟩
                    case measure => simp [intOf]; omega
              · have hd1 : (us[i].kind == 1) = false := by simpa using hk1
                have hd2 : (us[i].kind == 2) = false := by simpa using hk2
                have hd7 : (us[i].kind == 7) = false := by simpa using hk7
                clear hk1 hk2 hk7
                have hX : Below wr.heap.size wr (wr.alloc (.cells #[.int .i64 us[i].kind, .int .i64 us[i].r.p.cl, .int .u64 us[i].r.p.tok, .string us[i].r.p.nm, .slice us[i].r.A1 us[i].r.p.args.length us[i].r.c1, .int .i64 us[i].r.p.how, .slice us[i].r.A2 us[i].r.p.rd.length us[i].r.c2, .slice us[i].r.A3 us[i].r.p.wr.length us[i].r.c3, .int .i64 us[i].i, .int .i64 us[i].cl, .int .u64 us[i].tok] 42)) := (Below.refl _ _).alloc (Nat.le_refl _) _
                have R1 := R.step hX
                have ka := Blk.new wr 42 #[.int .i64 us[i].kind, .int .i64 us[i].r.p.cl, .int .u64 us[i].r.p.tok, .string us[i].r.p.nm, .slice us[i].r.A1 us[i].r.p.args.length us[i].r.c1, .int .i64 us[i].r.p.how, .slice us[i].r.A2 us[i].r.p.rd.length us[i].r.c2, .slice us[i].r.A3 us[i].r.p.wr.length us[i].r.c3, .int .i64 us[i].i, .int .i64 us[i].cl, .int .u64 us[i].tok]
                have okp1 := okp.below hX
                clear R hX
                have hlen := R1.q.len
                have hBd1 := hid hBd.1
                have hBd2 := hid hBd.2
                have hBd0 := hid hBd
                clear hBd
                go_wp2_with fail
                generalize wr.alloc (.cells #[.int .i64 us[i].kind, .int .i64 us[i].r.p.cl, .int .u64 us[i].r.p.tok, .string us[i].r.p.nm, .slice us[i].r.A1 us[i].r.p.args.length us[i].r.c1, .int .i64 us[i].r.p.how, .slice us[i].r.A2 us[i].r.p.rd.length us[i].r.c2, .slice us[i].r.A3 us[i].r.p.wr.length us[i].r.c3, .int .i64 us[i].i, .int .i64 us[i].cl, .int .u64 us[i].tok] 42) = w5 at *
                go_loopw [9, 10] (fun s v wx => ∃ k : Nat, k ≤ 64 ∧ v = .int .i64 k ∧ s = .int .i64 (sumC L k : Nat) ∧ Below w5.heap.size w5 wx) (fun _ v _ => 64 - (intOf v).toNat)
                case atStart => exact ⟨0, by omega, rfl, rfl, Below.refl _ _⟩
                case round =>
                  obtain ⟨k, hk, rfl, rfl, hB⟩ := hrel
                  have Rx := R1.step hB
                  have Rd := Rx.step (Below.refl _ _).drew
                  have b0 : wr.cell? ⟨W.heap.size, 0, none⟩ = some (.int .i64 mt) := Rx.box.cell 0
                  have b1 : wr.cell? ⟨W.heap.size, 1, none⟩ = some (.int .i64 sh) := Rx.box.cell 1
                  have hsl := sumC_le L k
                  by_cases hlt2 : k < 64
                  · have i1 : (k : Int) < 64 := by omega
                    have hcl := cnt_le (k : Int) L
                    have hc1 : ¬ sh < ((cnt (k : Int) L : Nat) : Int) := by have := hBd1.out (k : Int); omega
                    have hc2 : ¬ ((cnt (k : Int) L : Nat) : Int) < 0 := by omega
                    have hq1 : decide (sh < ((cnt (k : Int) L : Nat) : Int)) = false := decide_eq_false hc1
                    have hq2 : decide (((cnt (k : Int) L : Nat) : Int) < 0) = false := decide_eq_false hc2
                    have hc3 : ((cnt (k : Int) L : Nat) : Int) ≤ 1024 := by omega
                    have hc4 : ((sumC L k : Nat) : Int) ≤ 1024 := by omega
                    have hfin : Hid (((sumC L (k + 1) : Nat) : Int) = (sumC L k : Int) + (cnt (k : Int) L : Int)) := by
                      have : ((sumC L (k + 1) : Nat) : Int) = (sumC L k : Int) + (cnt (k : Int) L : Int) := by show ((sumC L k + cnt (k : Int) L : Nat) : Int) = _; omega
                      exact hid this
                    go_wp2_with fail
                    go_region_held3 (fun w' => w'.cell? ⟨W.heap.size, 1, none⟩ = some (.int .i64 sh)) (first | exact b1)
                      (first | (go_at_call 18; refine (of_any (k : Int) Rd.q).mono ?_; rintro e w' ⟨rfl, rfl⟩))
                    go_wp2_with (go_at_call 18; refine (of_any (k : Int) Rd.q).mono ?_; rintro e w' ⟨rfl, rfl⟩)
                    go_roundw
                    case rel => exact ⟨k + 1, by omega, by go_num, by rw [hfin.out], hB.drew⟩
                    case measure => simp [intOf]; omega
                  · obtain rfl : k = 64 := by omega
                    have hall := sumC_all L hBd2.out
                    rw [hall]
                    have hm : ¬ mt < ((L.length : Nat) : Int) := by omega
                    go_wp2_with (go_at_call 13; refine (len_any Rx.q).mono ?_; rintro e w' ⟨rfl, rfl⟩)
                    go_roundw
                    case rel => exact ⟨i + 1, S, L, T, by go_num, hlt, Rx, hBd0.out⟩
                    case measure => simp [intOf]; omega
        · obtain rfl : i = us.length := by omega
          go_wp2_with (go_at_call 10; refine (live_any _).mono ?_; rintro e w3 ⟨rfl, hb3⟩)
          go_ret
          exact ⟨rfl, R.below.trans (hb3.mono R.below.size)⟩

end Go.Proofs.Ytppcjaljhahdnaa

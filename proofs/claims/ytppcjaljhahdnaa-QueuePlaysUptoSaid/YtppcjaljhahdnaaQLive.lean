/- queue: Submit's answer in one; the law's plan and live. -/
import Derived.Test.YtppcjaljhahdnaaQSubOk
namespace Go.Proofs.Ytppcjaljhahdnaa
open Go.RowKit
set_option linter.unusedVariables false
set_option linter.unusedSimpArgs false

def subL (mt sh : Int) (L : List Pl) (T : Int → List Int) (p : Pl) : List Pl := if subCode mt sh L T p = 0 then L ++ [p] else L
def subT (mt sh wn : Int) (L : List Pl) (T : Int → List Int) (p : Pl) : Int → List Int := if subCode mt sh L T p = 0 then subTok wn T p else T
/-- Submit has answered -/
def SubPost (S : Nat → Prop) (w : World) (g : Nat) (mt sh wn : Int) (L : List Pl) (T : Int → List Int) (p : Pl) (e : Ending) (w' : World) : Prop :=
  ∃ S', e = .returned (.int .i64 (subCode mt sh L T p)) ∧ QAt S' w' g mt sh wn (subL mt sh L T p) (subT mt sh wn L T p) ∧ (∀ k, S' k → S k ∨ w.heap.size ≤ k) ∧ Upd S w w'
section
variable {S : Nat → Prop} {w : World} {g : Nat} {mt sh wn : Int} {L : List Pl} {T : Int → List Int}
theorem submit_any (S0 : Nat → Prop) (r : RP) (h : QAt S w g mt sh wn L T) (hrp : r.ok S0 w) (hfit : r.p.fits) : Calls Try.prog 14 #[.pointer (some ⟨g, 0, none⟩), .agg #[.int .i64 r.p.cl, .int .u64 r.p.tok, .string r.p.nm, .slice r.A1 r.p.args.length r.c1, .int .i64 r.p.how, .slice r.A2 r.p.rd.length r.c2, .slice r.A3 r.p.wr.length r.c3]] w (SubPost S w g mt sh wn L T r.p) := by
  have keep : ∀ v : Int, v ≠ 0 → subCode mt sh L T r.p = v → ∀ e w', (e = .returned (.int .i64 v) ∧ Below w.heap.size w w') → SubPost S w g mt sh wn L T r.p e w' := by
    rintro v hv hc e w' ⟨rfl, hb⟩
    refine ⟨S, by rw [hc], ?_, fun k hk => .inl hk, .of_below' hb _⟩
    unfold subL subT
    rw [hc, if_neg hv, if_neg hv]
    exact h.below hb
  cases h1 : subBad r.p.cl with
  | true => exact (submit_bad r h h1).mono (keep 2 (by decide) (by unfold subCode; rw [h1]; rfl))
  | false =>
    by_cases h2 : r.p.tok ∈ T r.p.cl
    · exact (submit_seen r h h1 h2).mono (keep 100 (by decide) (by unfold subCode; rw [h1, if_pos h2]; rfl))
    by_cases h3 : (L.length : Int) = mt
    · exact (submit_full r h h1 h2 h3).mono (keep 5 (by decide) (by unfold subCode; rw [h1, if_neg h2, if_pos h3]; rfl))
    by_cases h4 : (cnt r.p.cl L : Int) = sh
    · exact (submit_share r h h1 h2 h3 h4).mono (keep 101 (by decide) (by unfold subCode; rw [h1, if_neg h2, if_neg h3, if_pos h4]; rfl))
    have hc : subCode mt sh L T r.p = 0 := by unfold subCode; rw [h1, if_neg h2, if_neg h3, if_neg h4]; rfl
    refine (submit_ok S0 r h hrp hfit h1 h2 h3 h4).mono ?_
    rintro e w' ⟨S', rfl, h5, h6, h7⟩
    refine ⟨S', by rw [hc], ?_, h6, h7⟩
    unfold subL subT
    rw [hc, if_pos rfl, if_pos rfl]
    exact h5
end

theorem plan_any (c t : Int) (w : World) : Calls Try.prog 28 #[.int .i64 c, .int .u64 t] w fun e w' => e = .returned (.agg #[.int .i64 c, .int .u64 t, .string ⟨#[112]⟩, .slice none 0 0, .int .i64 0, .slice none 0 0, .slice none 0 0]) ∧ Below w.heap.size w w' := by
  go_enter Try.func28, Try.ntmps28
  go_wp2_with fail
  refine bodyPost_ret (v := .agg #[.int .i64 c, .int .u64 t, .string ⟨#[112]⟩, .slice none 0 0, .int .i64 0, .slice none 0 0, .slice none 0 0]) (by simp [results, Try.results28, go_sem]) rfl ⟨rfl, ?_⟩
  exact (Below.refl _ _).alloc (Nat.le_refl _) _
/-- live's plans -/
def lp (t : Int) : RP := ⟨⟨0, t, ⟨#[112]⟩, [], 0, [], []⟩, none, 0, none, 0, none, 0⟩
theorem lp_ok (t : Int) (w : World) : (lp t).ok Nil w := ⟨Rd.nil_, Rd.nil_, Rd.nil_⟩
theorem lp_fits (t : Int) : (lp t).p.fits := ⟨by simp [lp], by simp [lp], by simp [lp]⟩
theorem live_tok (t : Int) : subTok 1 (fun _ => []) (lp t).p 0 = [t] := by simp [subTok, lp]

set_option maxRecDepth 100000 in
set_option maxHeartbeats 4000000 in
theorem live_any (w : World) : Calls Try.prog 10 #[] w fun e w' => e = .returned (.bool true) ∧ Below w.heap.size w w' := by
  go_enter Try.func10, Try.ntmps10
  go_wp2_with fail
  refine (new_ok 2 1 1 w (by decide)).mono ?_
  rintro e w1 ⟨S1, g, ⟨rfl, hS1⟩, h1, hb1⟩
  go_wp2_with (go_at_call 12; refine (num_any _ _).mono ?_; rintro e w' ⟨rfl, rfl⟩)
  refine (plan_any 0 5 _).mono ?_
  rintro e w2 ⟨rfl, hb2⟩
  go_wp2_with fail
  refine (submit_ok Nil (lp 5) (h1.below hb2) (lp_ok 5 _) (lp_fits 5) (by decide) (by simp) (by decide) (by decide)).mono ?_
  rintro e w3 ⟨S3, rfl, h3, hS3, hu3⟩
  go_wp2_with fail
  refine (plan_any 0 5 _).mono ?_
  rintro e w4 ⟨rfl, hb4⟩
  go_wp2_with fail
  refine (submit_seen (lp 5) (h3.below hb4) (by decide) (by show (5 : Int) ∈ subTok 1 (fun _ => []) (lp 5).p 0; rw [live_tok]; simp)).mono ?_
  rintro e w5 ⟨rfl, hb5⟩
  go_wp2_with fail
  refine (plan_any 0 6 _).mono ?_
  rintro e w6 ⟨rfl, hb6⟩
  have h6 := ((h3.below hb4).below hb5).below hb6
  go_wp2_with fail
  refine (submit_share (lp 6) h6 (by decide) (by show ¬ (6 : Int) ∈ subTok 1 (fun _ => []) (lp 5).p 0; rw [live_tok]; simp) (by decide) (by decide)).mono ?_
  rintro e w7 ⟨rfl, hb7⟩
  have h7 := h6.below hb7
  go_wp2_with fail
  refine (take_yes h7 (by decide)).mono ?_
  rintro e w8 ⟨r8, ⟨hp8, rfl⟩, hown8, h8, hu8⟩
  have hp8' : r8.p = (lp 5).p := hp8
  clear hp8
  have e1 : r8.p.tok = 5 := by rw [hp8']; rfl
  clear hp8'
  have hBW : Hid (Below w.heap.size w w8) := by
    have a1 := hb1.trans (hb2.mono hb1.size)
    have hz1 := hb1.size
    have hz2 := hb2.size
    have u3 : Below w.heap.size w w3 := a1.trans (hu3.below a1.size fun k hk h => by have := hS1 k h; omega)
    have a4 := u3.trans (hb4.mono u3.size)
    have a5 := a4.trans (hb5.mono a4.size)
    have a6 := a5.trans (hb6.mono a5.size)
    have a7 := a6.trans (hb7.mono a6.size)
    refine hid (a7.trans (hu8.below a7.size fun k hk h => ?_))
    rcases hS3 k h with h | h
    · have := hS1 k h; omega
    · omega
  have h9 : QAt S3 (w8.alloc (.cells #[.int .i64 r8.p.cl, .int .u64 5, .string r8.p.nm, .slice r8.A1 r8.p.args.length r8.c1, .int .i64 r8.p.how, .slice r8.A2 r8.p.rd.length r8.c2, .slice r8.A3 r8.p.wr.length r8.c3] 40)) g 2 1 1 [] (subTok 1 (fun _ => []) (lp 5).p) := h8.below ((Below.refl _ _).alloc (Nat.le_refl _) _)
  have kb := Blk.new w8 40 #[.int .i64 r8.p.cl, .int .u64 5, .string r8.p.nm, .slice r8.A1 r8.p.args.length r8.c1, .int .i64 r8.p.how, .slice r8.A2 r8.p.rd.length r8.c2, .slice r8.A3 r8.p.wr.length r8.c3]
  have hB9 : Hid (Below w.heap.size w (w8.alloc (.cells #[.int .i64 r8.p.cl, .int .u64 5, .string r8.p.nm, .slice r8.A1 r8.p.args.length r8.c1, .int .i64 r8.p.how, .slice r8.A2 r8.p.rd.length r8.c2, .slice r8.A3 r8.p.wr.length r8.c3] 40))) := hid (hBW.out.alloc hBW.out.size _)
  clear h1 h3 h6 h7 h8 hb1 hb2 hb4 hb5 hb6 hb7 hu3 hu8 hown8
  go_wp2_with (first
    | (go_at_call 12; refine (num_any _ _).mono ?_; rintro e w' ⟨rfl, rfl⟩)
    | (go_at_call 13; refine (len_any h9).mono ?_; rintro e w' ⟨rfl, rfl⟩)
    | (go_at_call 30; refine (seen_any 0 h9).mono ?_; rw [live_tok]; rintro e w10 ⟨A9, c9, rfl, _, hb10⟩))
  go_ret
  exact ⟨rfl, hB9.out.trans (hb10.mono hB9.out.size)⟩

end Go.Proofs.Ytppcjaljhahdnaa

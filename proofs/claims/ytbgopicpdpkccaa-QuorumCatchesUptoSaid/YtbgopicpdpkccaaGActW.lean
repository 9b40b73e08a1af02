/- quorum: an act, walked. -/
import Derived.Test.YtbgopicpdpkccaaGCatch
import Derived.Test.YtbgopicpdpkccaaGCrash
namespace Go.Proofs.Ytbgopicpdpkccaa
open Go.RowKit
set_option linter.unusedVariables false
set_option linter.unusedSimpArgs false

section
variable {S : Nat → Prop} {w : World} {g : Nat} {G : Gr} {N : Nat} {K : Int}
theorem deliver_any (k : Int) (h : GAt S w g G) (hf : Fit N K G) (hN : N ≤ 9) : Calls Try.prog 19 #[.pointer (some ⟨g, 0, none⟩), .int .i64 k] w fun e w' => e = .returned (.bool (decide (0 ≤ k ∧ k < G.mail.length))) ∧ ∃ G', G.DeliverR k G' ∧ GGo S w g G' w' := by
  have hl := hf.len
  by_cases hk : 0 ≤ k ∧ k < G.mail.length
  · obtain ⟨j, rfl⟩ := Int.eq_ofNat_of_zero_le hk.1
    have hj : j < G.mail.length := by omega
    have hm := hf.mail G.mail[j] (List.getElem_mem hj)
    rw [decide_eq_true hk]
    refine (deliver_yes j G.mail[j] h hj rfl hm.kind (by have := hm.dst; omega) (by have := hm.slot; omega) (by omega) (by have := hf.room; omega)).mono fun e w' ⟨he, G', h1, h2⟩ => ?_
    exact ⟨he, G', .inr ⟨G.mail[j], hk.1, by rw [Int.toNat_natCast]; exact List.getElem?_eq_getElem hj, by rw [Int.toNat_natCast]; exact h1⟩, h2⟩
  · rw [decide_eq_false hk]
    exact (deliver_no k h (by omega)).mono fun e w' ⟨he, hw⟩ => ⟨he, G, .inl ⟨hk, rfl⟩, by subst hw; exact GGo.stay h⟩
theorem crash_any (n : Int) (h : GAt S w g G) : Calls Try.prog 32 #[.pointer (some ⟨g, 0, none⟩), .int .i64 n] w fun e w' => (∃ b, e = .returned (.bool b)) ∧ GGo S w g (G.crash n) w' := by
  unfold Gr.crash
  by_cases h1 : 0 ≤ n ∧ n < G.nds.length
  · obtain ⟨i, rfl⟩ := Int.eq_ofNat_of_zero_le h1.1
    have hi : i < G.nds.length := by omega
    rw [Int.toNat_natCast]
    cases hu : (G.nd i).up with
    | true =>
      rw [if_pos ⟨h1.1, h1.2, rfl⟩]
      exact (crash_yes i h hi hu).mono fun e w' ⟨he, hb⟩ => ⟨⟨_, he⟩, hb⟩
    | false =>
      rw [if_neg (fun hc => by have := hc.2.2; cases this)]
      exact (crash_down i h hi hu).mono fun e w' ⟨he, hb⟩ => ⟨⟨_, he⟩, by subst hb; exact GGo.stay h⟩
  · rw [if_neg (fun hc => h1 ⟨hc.1, hc.2.1⟩)]
    exact (crash_far n h (by omega)).mono fun e w' ⟨he, hb⟩ => ⟨⟨_, he⟩, by subst hb; exact GGo.stay h⟩
set_option maxRecDepth 100000 in
set_option maxHeartbeats 4000000 in
theorem act_any (a : GA) (h : GAt S w g G) (hf : Fit N K G) (hN : N ≤ 9) (hK : K ≤ 100000) : Calls Try.prog 14 #[.pointer (some ⟨g, 0, none⟩), .agg #[.int .i64 a.kind, .int .i64 a.n, .int .i64 a.slot, .string a.text]] w fun e w' => e = .returned (.bool (G.said a)) ∧ ∃ G', G.Act a G' ∧ GGo S w g G' w' := by
  have hB0 : Below w.heap.size w (w.alloc (.cells #[.int .i64 a.kind, .int .i64 a.n, .int .i64 a.slot, .string a.text] 32)) := (Below.refl _ _).alloc (Nat.le_refl _) _
  have kb0 := Blk.new w 32 #[.int .i64 a.kind, .int .i64 a.n, .int .i64 a.slot, .string a.text]
  have h0 := h.below hB0
  have hr : -9223372036854775808 ≤ (G.at_ a.n.toNat a.slot).rd + 1 ∧ (G.at_ a.n.toNat a.slot).rd + 1 < 9223372036854775808 := by
    by_cases hi : a.n.toNat < N
    · have := (hf.node a.n.toNat hi a.slot).rd; omega
    · have : G.at_ a.n.toNat a.slot = sl0 := by
        unfold Gr.at_ Gr.nd
        have hl := hf.len
        rw [List.getD_eq_getElem?_getD, List.getElem?_eq_none (by omega)]
        rfl
      rw [this]; decide
  have hm1 : G.mail.length ≤ 1000000 ∧ G.nds.length ≤ 1000 := by have := hf.room; have := hf.len; omega
  have hm2 : G.mail.length ≤ 100000 := by have := hf.room; omega
  have fin : ∀ (G' : Gr) w', G.Act a G' → GGo S (w.alloc (.cells #[.int .i64 a.kind, .int .i64 a.n, .int .i64 a.slot, .string a.text] 32)) g G' w' → ∃ G', G.Act a G' ∧ GGo S w g G' w' := fun G' w' ha hg => ⟨G', ha, GGo.then ⟨S, fun _ h => .inl h, .of_below' hB0 _, hg⟩⟩
  obtain ⟨kd, n, s, t⟩ := a
  simp only at *
  have hpro := hid (propose_any n s t h0 hm1 hr)
  have hdel := hid (deliver_any n h0 hf hN)
  have hdro := hid (drop_any n h0 hm2)
  have hdou := hid (double_any n h0 hm2)
  have hcra := hid (crash_any n h0)
  have hres := hid (restart_any n h0)
  have hcat := hid (catch_any n h0 hm1)
  have hH := hid h0
  have Fin := hid fin
  have v0 := kb0.cell 0
  have v1 := kb0.cell 1
  have v2 := kb0.cell 2
  have v3 := kb0.cell 3
  simp only [List.getElem?_toArray, List.getElem?_cons_zero, List.getElem?_cons_succ] at v0 v1 v2 v3
  clear h h0 hr hm1 hm2 fin hf kb0 hB0
  by_cases hk1 : kd = 1
  · subst hk1
    have hsaid : Hid (G.said ⟨1, n, s, t⟩ = decide (G.code n s t = 0)) := hid (by unfold Gr.said; simp)
    go_enter Try.func14, Try.ntmps14
    go_wp2_with fail
    refine hpro.out.mono ?_
    rintro e w2 ⟨rfl, hg⟩
    have hg := hid hg
    go_wp2_with (go_at_call 10; refine (num_any _ _).mono ?_; rintro e w' ⟨rfl, rfl⟩)
    go_ret
    exact ⟨by rw [hsaid.out]; rfl, Fin.out _ _ (by unfold Gr.Act; simp) hg.out⟩
  by_cases hk2 : kd = 2
  · subst hk2
    have hsaid : Hid (G.said ⟨2, n, s, t⟩ = false) := hid (by unfold Gr.said; simp)
    go_enter Try.func14, Try.ntmps14
    go_wp2_with fail
    refine hdel.out.mono ?_
    rintro e w2 ⟨rfl, G2, h1, hg⟩
    have hg := hid hg
    have h1 := hid h1
    go_wp2_with fail
    go_ret
    exact ⟨by rw [hsaid.out]; rfl, Fin.out _ _ (by unfold Gr.Act; simp; exact h1.out) hg.out⟩
  by_cases hk3 : kd = 3
  · subst hk3
    have hsaid : Hid (G.said ⟨3, n, s, t⟩ = false) := hid (by unfold Gr.said; simp)
    go_enter Try.func14, Try.ntmps14
    go_wp2_with fail
    refine hdro.out.mono ?_
    rintro e w2 ⟨⟨b, rfl⟩, hg⟩
    have hg := hid hg
    go_wp2_with fail
    go_ret
    exact ⟨by rw [hsaid.out]; rfl, Fin.out _ _ (by unfold Gr.Act; simp) hg.out⟩
  by_cases hk4 : kd = 4
  · subst hk4
    have hsaid : Hid (G.said ⟨4, n, s, t⟩ = false) := hid (by unfold Gr.said; simp)
    go_enter Try.func14, Try.ntmps14
    go_wp2_with fail
    refine hdou.out.mono ?_
    rintro e w2 ⟨⟨b, rfl⟩, hg⟩
    have hg := hid hg
    go_wp2_with fail
    go_ret
    exact ⟨by rw [hsaid.out]; rfl, Fin.out _ _ (by unfold Gr.Act; simp) hg.out⟩
  by_cases hk5 : kd = 5
  · subst hk5
    have hsaid : Hid (G.said ⟨5, n, s, t⟩ = false) := hid (by unfold Gr.said; simp)
    go_enter Try.func14, Try.ntmps14
    go_wp2_with fail
    refine hcra.out.mono ?_
    rintro e w2 ⟨⟨b, rfl⟩, hg⟩
    have hg := hid hg
    go_wp2_with fail
    go_ret
    exact ⟨by rw [hsaid.out]; rfl, Fin.out _ _ (by unfold Gr.Act; simp) hg.out⟩
  by_cases hk6 : kd = 6
  · subst hk6
    have hsaid : Hid (G.said ⟨6, n, s, t⟩ = false) := hid (by unfold Gr.said; simp)
    go_enter Try.func14, Try.ntmps14
    go_wp2_with fail
    refine hres.out.mono ?_
    rintro e w2 ⟨⟨b, rfl⟩, hg⟩
    have hg := hid hg
    go_wp2_with fail
    go_ret
    exact ⟨by rw [hsaid.out]; rfl, Fin.out _ _ (by unfold Gr.Act; simp) hg.out⟩
  by_cases hk7 : kd = 7
  · subst hk7
    have hsaid : Hid (G.said ⟨7, n, s, t⟩ = false) := hid (by unfold Gr.said; simp)
    go_enter Try.func14, Try.ntmps14
    go_wp2_with fail
    refine hcat.out.mono ?_
    rintro e w2 ⟨rfl, hg⟩
    have hg := hid hg
    go_wp2_with fail
    go_ret
    exact ⟨by rw [hsaid.out]; rfl, Fin.out _ _ (by unfold Gr.Act; simp) hg.out⟩
  have hsaid : Hid (G.said ⟨kd, n, s, t⟩ = false) := hid (by unfold Gr.said; exact decide_eq_false fun h => hk1 h.1)
  have hact : Hid (G.Act ⟨kd, n, s, t⟩ G) := hid (by unfold Gr.Act; simp [hk1, hk2, hk3, hk4, hk5, hk6, hk7])
  go_enter Try.func14, Try.ntmps14
  go_wp2_with fail
  go_ret
  exact ⟨by rw [hsaid.out]; rfl, Fin.out _ _ hact.out (GGo.stay hH.out)⟩
end

end Go.Proofs.Ytbgopicpdpkccaa

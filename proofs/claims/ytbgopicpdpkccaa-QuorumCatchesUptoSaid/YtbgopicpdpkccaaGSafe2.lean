/- quorum: every act keeps what is safe. -/
import Derived.Test.YtbgopicpdpkccaaGSafe
namespace Go.Proofs.Ytbgopicpdpkccaa
open Go.RowKit
set_option linter.unusedVariables false
set_option linter.unusedSimpArgs false

theorem maxI_le (a b : Int) : a ≤ maxI a b := by unfold maxI; split <;> omega
section
variable {s : Int} {pr K : ByteArray → Prop} {G G' : Gr} {g : Gho} {i : Nat} {m : Ml} {x' : Sl} {new : Ml → Prop}
theorem HRel.slot {x : Sl} (h : HRel G i x m x' new) {m' : Ml} (hn : new m') : m'.slot = m.slot ∨ m'.kind = 5 ∧ ∃ t, (G.st m.dst t).is = true ∧ m'.slot = t ∧ m'.text = (G.st m.dst t).text := by
  cases h with
  | stay => exact hn.elim
  | late _ => exact hn.elim
  | prep _ _ => rcases hn with hn | rfl; exact hn.elim; exact .inl rfl
  | acc _ _ => rcases hn with hn | rfl; exact hn.elim; exact .inl rfl
  | ans1 _ _ _ _ => exact hn.elim
  | won _ _ _ _ _ _ => obtain ⟨j, _, rfl⟩ := hn; exact .inl rfl
  | ans2 _ _ _ _ => exact hn.elim
  | done _ _ _ _ => obtain ⟨j, _, rfl⟩ := hn; exact .inl rfl
  | learn _ _ => exact hn.elim
  | told => obtain ⟨t, _, h2, rfl⟩ := hn; exact .inr ⟨rfl, t, h2, rfl, rfl⟩
/-- at another slot -/
theorem Safe.other (h : Safe s pr G g K) (hr : HRel G i (G.at_ i m.slot) m x' new) (he : Eff i m.slot x' new G G') (hne : m.slot ≠ s) : Safe s pr G' g K := by
  have hat : ∀ n, G'.at_ n s = G.at_ n s := fun n => by rw [he.at_, if_neg fun e => hne e.2.symm]
  refine h.calm (fun _ => id) he.len (fun n => by rw [hat]; exact Int.le_refl _) (fun n => by rw [hat]; exact Bal.refl _) (fun _ n _ => .inl (hat n)) fun hg m' hm hs => ?_
  rcases he.mail m' hm with hm | hn
  · exact .inl hm
  · refine .inr ?_
    rcases hr.slot hn with e | ⟨hk, t, h1, h2, h3⟩
    · exact absurd (e.symm.trans hs) hne
    · refine ⟨fun e => by omega, fun e => by omega, fun e => by omega, fun _ => ?_⟩
      rw [h3]
      have e : t = s := h2.symm.trans hs
      subst e
      unfold Gr.st at h1 ⊢
      split at h1
      · rename_i hd
        rw [if_pos hd]
        exact ((h.node m.dst.toNat (by omega)).lrnd h1).grow hg
      · exact absurd h1 (by decide)
theorem Safe.handle (h : Safe s pr G g K) (hm : m ∈ G.mail) (hd : 0 ≤ m.dst ∧ m.dst < G.nds.length) (hi : m.dst.toNat = i) (hr : HRel G i (G.at_ i m.slot) m x' new) (he : Eff i m.slot x' new G G') : ∃ g', Safe s pr G' g' K := by
  by_cases hs : m.slot = s
  case neg => exact ⟨g, h.other hr he hs⟩
  subst hs
  have hin : i < G.nds.length := by omega
  have hdi : m.dst = (i : Int) := by omega
  have hat : ∀ n, n ≠ i → G'.at_ n m.slot = G.at_ n m.slot := fun n hn => by rw [he.at_, if_neg fun e => hn e.1]
  have hati : G'.at_ i m.slot = x' := by rw [he.at_, if_pos ⟨rfl, rfl⟩]
  have hx := h.node i hin
  have hmo := h.msg m hm rfl
  generalize hX : G.at_ i m.slot = x at *
  -- no new word, no new vote
  have calm : x.rd ≤ x'.rd → Bal.le x.prom x'.prom → (Grow m.slot G g G' g → x' = x ∨ NodeOk m.slot pr G' g i x') → (Grow m.slot G g G' g → ∀ m', new m' → m'.slot = m.slot → MsgOk m.slot G' g m') → ∃ g', Safe m.slot pr G' g' K := by
    intro h1 h2 h3 h4
    refine ⟨g, h.calm (fun _ => id) he.len (fun n => ?_) (fun n => ?_) (fun hg n hn => ?_) fun hg m' hm' hs' => ?_⟩
    · by_cases e : n = i
      · rw [e, hati, hX]; exact h1
      · rw [hat n e]; exact Int.le_refl _
    · by_cases e : n = i
      · rw [e, hati, hX]; exact h2
      · rw [hat n e]; exact Bal.refl _
    · by_cases e : n = i
      · rw [e, hati, hX]; exact h3 hg
      · exact .inl (hat n e)
    · exact (he.mail m' hm').imp id fun hn => h4 hg m' hn hs'
  cases hr with
  | stay => exact calm (Int.le_refl _) (Bal.refl _) (fun _ => .inl rfl) fun _ _ hn => hn.elim
  | late _ =>
    refine calm (maxI_le _ _) (Bal.refl _) (fun hg => .inr ?_) fun _ _ hn => hn.elim
    have hk := hx.grow hg (fun _ => id) (fun _ => id) fun _ _ _ _ => id
    exact ⟨Int.le_trans hk.rd0 (maxI_le _ _), hk.acc, hk.accp, hk.vote, fun d hd => (hx.bid d hd).grow hg (fun _ => id) (maxI_le _ _) fun _ _ => id, hk.lrnd⟩
  | prep hk1 hc =>
    have hle := cmp_le hc
    refine calm (maxI_le _ _) hle (fun hg => .inr ?_) fun hg m' hn _ => ?_
    · have hk := hx.grow hg (fun _ => id) (fun _ => id) fun _ _ _ _ => id
      exact ⟨Int.le_trans hk.rd0 (maxI_le _ _), hk.acc, Bal.trans hk.accp hle, hk.vote, fun d hd => (hx.bid d hd).grow hg (fun _ => id) (maxI_le _ _) fun _ _ => id, hk.lrnd⟩
    · rcases hn with hn | rfl
      · exact hn.elim
      refine ⟨fun _ => ?_, fun e => by simp at e, fun e => by simp at e, fun e => by simp at e⟩
      refine ⟨hd.1, by rw [he.len]; exact hd.2, ?_, ?_, fun c hA hlt => ?_⟩
      · simp only
        rw [hi, hati]
        exact Bal.refl _
      · simp only
        rw [hi]
        exact hx.acc
      · simp only at hA ⊢
        rw [hi] at hA
        exact hx.vote c hA
  | acc hk3 hc =>
    have hle := cmp_le hc
    have hP := hmo.acpt hk3
    have hg : Grow m.slot G g G' ⟨g.P, fun n b => g.A n b ∨ n = i ∧ b = m.bal⟩ := by
      refine ⟨he.len, fun n => ?_, fun n => ?_, fun _ _ => id, fun _ _ => .inl, fun n b hb => ?_⟩
      · by_cases e : n = i
        · rw [e, hati, hX]; exact maxI_le _ _
        · rw [hat n e]; exact Int.le_refl _
      · by_cases e : n = i
        · rw [e, hati, hX]; exact hle
        · rw [hat n e]; exact Bal.refl _
      · rcases hb with hb | ⟨rfl, rfl⟩
        · exact .inl hb
        · exact .inr (by rw [hX]; exact hle)
    refine ⟨_, h.next hg (fun _ => id) (fun b t hb => .inl hb) (fun b t t' h1 h2 => (h.ps b t h1).fun_ t' h2) (fun n b hb => hb.imp id fun e => ⟨m.text, by rw [e.2]; exact hP⟩) (fun n hn => ?_) fun m' hm' hs' => ?_⟩
    · by_cases e : n = i
      · subst e
        rw [hati]
        refine ⟨Int.le_trans hx.rd0 (maxI_le _ _), .inr ⟨.inr ⟨rfl, rfl⟩, hP⟩, Bal.refl _, fun b hb => ?_, fun d hd => (hx.bid d hd).grow hg (fun _ => id) (maxI_le _ _) fun _ _ => id, fun hl => (hx.lrnd hl).grow hg⟩
        rcases hb with hb | ⟨_, rfl⟩
        · exact Bal.trans (hx.vote b hb) (Bal.trans hx.accp hle)
        · exact Bal.refl _
      · rw [hat n e]
        exact (h.node n hn).grow hg (fun _ => id) (fun b hb => hb.elim id fun e' => absurd e'.1 e) fun _ _ _ _ => id
    · refine (he.mail m' hm').imp id fun hn => ?_
      rcases hn with hn | rfl
      · exact hn.elim
      refine ⟨fun e => by simp at e, fun e => by simp at e, fun e => ?_, fun e => by simp at e⟩
      exact ⟨hd.1, by rw [he.len]; exact hd.2, .inr ⟨hi, rfl⟩⟩
  | ans1 d2 hk2 hc hl =>
    refine calm (Int.le_refl _) (Bal.refl _) (fun hg => .inr ?_) fun _ _ hn => hn.elim
    have hk := hx.grow hg (fun _ => id) (fun _ => id) fun _ _ _ _ => id
    refine ⟨hk.rd0, hk.acc, hk.accp, hk.vote, fun d hd' => ?_, hk.lrnd⟩
    simp only [Option.some.injEq] at hd'
    subst hd'
    obtain ⟨d, h1, h2, h3, h4, rfl⟩ := Sl.cnts_some hc
    obtain ⟨b1, b2, b3, b4, b5, b6⟩ := hk.bid d h1
    refine ⟨b1, b2, b3, b4.set, fun ha => ⟨(b5 ha).1, (b5 ha).2.1, fun p hp => ?_⟩, fun ha => by simp only at ha; rw [h3] at ha; cases ha⟩
    rcases setA_mem hp with rfl | hp
    · simp only
      rw [h2]
      exact (hmo.prom hk2).grow hg
    · exact (b5 ha).2.2 p hp
  | won d2 best hk2 hc hl hb =>
    obtain ⟨d, h1, h2, h3, h4, he2⟩ := Sl.cnts_some hc
    have hbo : BidOk m.slot pr G g i x d2 := by
      obtain ⟨b1, b2, b3, b4, b5, b6⟩ := hx.bid d h1
      subst he2
      refine ⟨b1, b2, b3, b4.set, fun ha => ⟨(b5 ha).1, (b5 ha).2.1, fun p hp => ?_⟩, fun ha => by simp only at ha; rw [h3] at ha; cases ha⟩
      rcases setA_mem hp with rfl | hp
      · simp only
        rw [h2]
        exact hmo.prom hk2
      · exact (b5 ha).2.2 p hp
    have ha2 : d2.acc = false := by subst he2; exact h3
    have hnew := won_safe h hbo hin (by rw [hX]) ha2 hl hb
    have hnoP := (hbo.2.2.2.2.1 ha2).2.1
    have hg : Grow m.slot G g G' ⟨fun b t => g.P b t ∨ b = d2.bal ∧ t = best.text, g.A⟩ := by
      refine ⟨he.len, fun n => ?_, fun n => ?_, fun _ _ => .inl, fun _ _ => id, fun n b hb => .inl hb⟩
      · by_cases e : n = i
        · rw [e, hati, hX]; exact Int.le_refl _
        · rw [hat n e]; exact Int.le_refl _
      · by_cases e : n = i
        · rw [e, hati, hX]; exact Bal.refl _
        · rw [hat n e]; exact Bal.refl _
    refine ⟨_, h.next hg (fun _ => id) (fun b t hb => ?_) (fun b t t' h1 h2 => ?_) (fun n b hb => .inl hb) (fun n hn => ?_) fun m' hm' hs' => ?_⟩
    · rcases hb with hb | ⟨rfl, rfl⟩
      · exact .inl hb
      · refine .inr (hnew.grow hg (fun _ => id) fun t' ht' => ?_)
        rcases ht' with ht' | ⟨_, rfl⟩
        · exact absurd ht' (hnoP t')
        · rfl
    · rcases h2 with h2 | ⟨rfl, rfl⟩
      · exact (h.ps b t h1).fun_ t' h2
      · exact absurd h1 (hnoP t)
    · by_cases e : n = i
      · subst e
        rw [hati]
        refine ⟨hx.rd0, hx.acc.imp id fun ha => ⟨ha.1, .inl ha.2⟩, hx.accp, hx.vote, fun d' hd' => ?_, fun hl => (hx.lrnd hl).grow hg⟩
        simp only [Option.some.injEq] at hd'
        subst hd'
        refine ⟨hbo.1, hbo.2.1, hbo.2.2.1, List.nodup_nil, fun ha => (by cases ha), fun _ => ⟨.inr ⟨rfl, rfl⟩, fun p hp => by cases hp⟩⟩
      · rw [hat n e]
        refine (h.node n hn).grow hg (fun _ => id) (fun _ => id) fun d' hd' ha t ht => ?_
        rcases ht with ht | ⟨hb', _⟩
        · exact ht
        · have e1 := ((h.node n hn).bid d' hd').1
          have e2 := hbo.1
          rw [hb', e2] at e1
          exact absurd (by omega) e
    · refine (he.mail m' hm').imp id fun hn => ?_
      obtain ⟨j, _, rfl⟩ := hn
      exact ⟨fun e => by simp at e, fun _ => .inr ⟨rfl, rfl⟩, fun e => by simp at e, fun e => by simp at e⟩
  | ans2 d2 hk4 hc hl =>
    refine calm (Int.le_refl _) (Bal.refl _) (fun hg => .inr ?_) fun _ _ hn => hn.elim
    have hk := hx.grow hg (fun _ => id) (fun _ => id) fun _ _ _ _ => id
    refine ⟨hk.rd0, hk.acc, hk.accp, hk.vote, fun d hd' => ?_, hk.lrnd⟩
    simp only [Option.some.injEq] at hd'
    subst hd'
    obtain ⟨d, h1, h2, h3, h4, rfl⟩ := Sl.cnts_some hc
    obtain ⟨b1, b2, b3, b4, b5, b6⟩ := hk.bid d h1
    refine ⟨b1, b2, b3, b4.set, fun ha => (by simp only at ha; rw [h3] at ha; cases ha), fun ha => ⟨(b6 ha).1, fun p hp => ?_⟩⟩
    rcases setA_mem hp with rfl | hp
    · obtain ⟨a1, a2, a3⟩ := hmo.acpd hk4
      exact ⟨a1, by rw [he.len]; exact a2, by simp only; rw [h2]; exact a3⟩
    · exact (b6 ha).2 p hp
  | done d2 hk4 hc hl =>
    obtain ⟨d, h1, h2, h3, h4, he2⟩ := Sl.cnts_some hc
    have hb := hx.bid d h1
    have hch : Chos G g d2.text := by
      obtain ⟨b1, b2, b3, b4, b5, b6⟩ := hb
      obtain ⟨c1, c2⟩ := b6 h3
      have hall : ∀ p ∈ d2.ans, 0 ≤ p.1 ∧ p.1 < G.nds.length ∧ g.A p.1.toNat d.bal := fun p hp => by
        subst he2
        rcases setA_mem hp with rfl | hp
        · obtain ⟨a1, a2, a3⟩ := hmo.acpd hk4
          exact ⟨a1, a2, by simp only; rw [h2]; exact a3⟩
        · exact c2 p hp
      have hon : Once d2.ans := by subst he2; exact b4.set
      refine ⟨d.bal, d2.ans.map fun p => p.1.toNat, by subst he2; exact c1, ⟨?_, fun f hf => ?_, by simpa using hl⟩, fun f hf => ?_⟩
      · unfold Once List.Nodup at hon
        unfold List.Nodup
        rw [List.pairwise_map] at hon ⊢
        refine hon.imp_of_mem fun {p q} hp hq hne he => hne ?_
        have hp := (hall p hp).1
        have hq := (hall q hq).1
        omega
      · obtain ⟨p, hp, rfl⟩ := List.mem_map.1 hf
        have := hall p hp
        omega
      · obtain ⟨p, hp, rfl⟩ := List.mem_map.1 hf
        exact (hall p hp).2.2
    refine calm (Int.le_refl _) (Bal.refl _) (fun hg => .inr ?_) fun hg m' hn _ => ?_
    · have hk := hx.grow hg (fun _ => id) (fun _ => id) fun _ _ _ _ => id
      exact ⟨hk.rd0, hk.acc, hk.accp, hk.vote, fun d hd' => (by cases hd'), hk.lrnd⟩
    · obtain ⟨j, _, rfl⟩ := hn
      exact ⟨fun e => by simp at e, fun e => by simp at e, fun e => by simp at e, fun _ => hch.grow hg⟩
  | learn hk5 his =>
    refine calm (Int.le_refl _) (Bal.refl _) (fun hg => .inr ?_) fun _ _ hn => hn.elim
    have hk := hx.grow hg (fun _ => id) (fun _ => id) fun _ _ _ _ => id
    exact ⟨hk.rd0, hk.acc, hk.accp, hk.vote, fun d hd' => (hx.bid d hd').grow hg (fun _ => id) (Int.le_refl _) fun _ _ => id, fun _ => (hmo.lern hk5).grow hg⟩
  | told =>
    refine calm (Int.le_refl _) (Bal.refl _) (fun _ => .inl rfl) fun hg m' hn hs' => ?_
    obtain ⟨t, _, h2, rfl⟩ := hn
    simp only at hs'
    subst hs'
    refine ⟨fun e => by simp at e, fun e => by simp at e, fun e => by simp at e, fun _ => ?_⟩
    have hst : G.st m.dst m.slot = x' := by
      unfold Gr.st
      rw [if_pos hd, hi, hX]
    simp only
    rw [hst] at h2 ⊢
    exact (hx.lrnd h2).grow hg
end

end Go.Proofs.Ytbgopicpdpkccaa

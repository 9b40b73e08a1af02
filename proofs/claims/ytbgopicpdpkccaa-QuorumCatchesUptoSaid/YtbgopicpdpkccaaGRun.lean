/- quorum: what a message does, and just what is sent: the plain law. -/
import Derived.Test.YtbgopicpdpkccaaGAct
namespace Go.Proofs.Ytbgopicpdpkccaa
open Go.RowKit
set_option linter.unusedVariables false
set_option linter.unusedSimpArgs false

structure EffX (i : Nat) (s : Int) (x' : Sl) (L : List Ml) (G G' : Gr) : Prop where
  at_ : ∀ j t, G'.at_ j t = if j = i ∧ t = s then x' else G.at_ j t
  len : G'.nds.length = G.nds.length
  up : ∀ j, (G'.nd j).up = (G.nd j).up
  mail : G.mail.length + L.length ≤ 4096 → G'.mail = G.mail ++ L
theorem send_mail {G : Gr} {m : Ml} (h : G.mail.length < 4096) : (G.send m).mail = G.mail ++ [m] := by
  unfold Gr.send; rw [if_pos h]; rfl
theorem sendTo_mail {G : Gr} {m : Ml} (k : Nat) (h : G.mail.length + k ≤ 4096) : (G.sendTo m k).mail = G.mail ++ (List.range k).map fun (j : Nat) => { m with dst := (j : Int) } := by
  induction k with
  | zero => simp [Gr.sendTo]
  | succ k ih =>
    rw [Gr.sendTo_succ, send_mail (by rw [ih (by omega)]; simp; omega), ih (by omega), List.range_succ, List.map_append, List.append_assoc]
    rfl
section
variable {G G' G'' : Gr} {i : Nat} {s : Int} {x : Sl} {L : List Ml} {m : Ml}
theorem EffX.refl (i : Nat) (s : Int) (G : Gr) : EffX i s (G.at_ i s) [] G G := by
  have h := Eff.refl i s G
  exact ⟨h.at_, rfl, fun _ => rfl, fun _ => by simp⟩
theorem EffX.set (h : EffX i s x L G G') (hi : i < G.nds.length) (y : Sl) : EffX i s y L G (G'.setSl i s y) := by
  have hi' : i < G'.nds.length := by rw [h.len]; exact hi
  refine ⟨fun j t => ?_, ?_, fun j => (Gr.up_setSl _ _ _ _ _ hi').trans (h.up j), fun hr => h.mail hr⟩
  · rw [Gr.at_setSl _ _ _ _ _ _ hi', h.at_]
    by_cases e : j = i ∧ t = s
    · rw [if_pos e, if_pos e]
    · rw [if_neg e, if_neg e, if_neg e]
  · unfold Gr.setSl; rw [Gr.len_set, h.len]
theorem EffX.send (h : EffX i s x L G G') (m0 : Ml) : EffX i s x (L ++ [m0]) G (G'.send m0) := by
  refine ⟨fun j t => (Gr.at_nds (Gr.send_nds _ _) j t).trans (h.at_ j t), by rw [Gr.send_nds, h.len], fun j => by rw [Gr.up_nds (Gr.send_nds _ _)]; exact h.up j, fun hr => ?_⟩
  rw [List.length_append, List.length_singleton] at hr
  rw [send_mail (by rw [h.mail (by omega), List.length_append]; omega), h.mail (by omega), List.append_assoc]
theorem EffX.sendAll (h : EffX i s x [] G G') (m0 : Ml) : EffX i s x ((List.range G.nds.length).map fun (j : Nat) => { m0 with dst := (j : Int) }) G (G'.sendAll m0) := by
  have hnd : (G'.sendAll m0).nds = G'.nds := Gr.sendTo_nds _ _ _
  refine ⟨fun j t => (Gr.at_nds hnd j t).trans (h.at_ j t), by rw [hnd, h.len], fun j => by rw [Gr.up_nds hnd]; exact h.up j, fun hr => ?_⟩
  rw [List.length_map, List.length_range] at hr
  have hm : G'.mail = G.mail := by have := h.mail (by simp; omega); simpa using this
  unfold Gr.sendAll
  rw [sendTo_mail _ (by rw [hm, h.len]; exact hr), hm, h.len]
theorem EffX.after (h1 : EffX i s (G.at_ i s) [] G G') (h2 : EffX i s x L G' G'') : EffX i s x L G G'' := by
  have hat : ∀ j t, G'.at_ j t = G.at_ j t := fun j t => by
    rw [h1.at_]
    by_cases e : j = i ∧ t = s
    · rw [if_pos e, e.1, e.2]
    · rw [if_neg e]
  refine ⟨fun j t => by rw [h2.at_, hat], by rw [h2.len, h1.len], fun j => by rw [h2.up, h1.up], fun hr => ?_⟩
  have hm : G'.mail = G.mail := by have := h1.mail (by simp; omega); simpa using this
  rw [h2.mail (by rw [hm]; exact hr), hm]
theorem EffX.touch (h : i < G.nds.length) : EffX i s (G.at_ i s) [] G (G.touch i s) := by
  have he := Eff.touch (s := s) h
  exact ⟨he.at_, he.len, he.up, fun _ => by rw [Gr.mail_touch]; simp⟩
end
/-- just what a message does; an ask's answers are told by Gr.told -/
def Gr.told (G : Gr) (m : Ml) : List Ml := ((List.range 8).takeWhile fun (j : Nat) => (G.st m.dst (m.slot + (j : Int))).is).map fun (j : Nat) => ⟨5, m.dst, m.fr, m.slot + (j : Int), bal0, bal0, (G.st m.dst (m.slot + (j : Int))).text⟩
inductive HX (G : Gr) (x : Sl) (m : Ml) : Sl → List Ml → Prop
  | late : m.kind = 1 ∨ m.kind = 3 → ¬ 0 ≤ cmpB m.bal x.prom → HX G x m { x with rd := maxI x.rd m.bal.rd } []
  | prep : m.kind = 1 → 0 ≤ cmpB m.bal x.prom → HX G x m { x with rd := maxI x.rd m.bal.rd, prom := m.bal } [⟨2, m.dst, m.bal.nd, m.slot, m.bal, x.accd.bal, x.accd.text⟩]
  | acc : m.kind = 3 → 0 ≤ cmpB m.bal x.prom → HX G x m { x with rd := maxI x.rd m.bal.rd, prom := m.bal, accd := ⟨m.bal, m.text⟩ } [⟨4, m.dst, m.bal.nd, m.slot, m.bal, bal0, ⟨#[]⟩⟩]
  | no2 : m.kind = 2 → x.cnts m false = none → HX G x m x []
  | ans1 (d2 : Bd) : m.kind = 2 → x.cnts m false = some d2 → d2.ans.length ≠ G.nds.length / 2 + 1 → HX G x m { x with bid := some d2 } []
  | won (d2 : Bd) (best : Vt) : m.kind = 2 → x.cnts m false = some d2 → d2.ans.length = G.nds.length / 2 + 1 → IsBest d2.ans d2.text best → HX G x m { x with bid := some ⟨d2.bal, best.text, true, []⟩ } ((List.range G.nds.length).map fun (j : Nat) => ⟨3, m.dst, (j : Int), m.slot, d2.bal, bal0, best.text⟩)
  | no4 : m.kind = 4 → x.cnts m true = none → HX G x m x []
  | ans2 (d2 : Bd) : m.kind = 4 → x.cnts m true = some d2 → d2.ans.length ≠ G.nds.length / 2 + 1 → HX G x m { x with bid := some d2 } []
  | done (d2 : Bd) : m.kind = 4 → x.cnts m true = some d2 → d2.ans.length = G.nds.length / 2 + 1 → HX G x m { x with bid := none } ((List.range G.nds.length).map fun (j : Nat) => ⟨5, m.dst, (j : Int), m.slot, m.bal, bal0, d2.text⟩)
  | known : m.kind = 5 → x.is = true → HX G x m x []
  | learn : m.kind = 5 → x.is = false → HX G x m { x with is := true, text := m.text } []
  | told : ¬ (1 ≤ m.kind ∧ m.kind ≤ 5) → HX G x m x (G.told m)
theorem takeWhile_shift {p : Nat → Bool} (f : Nat) : (List.range (f + 1)).takeWhile p = if p 0 then 0 :: (((List.range f).takeWhile fun j => p (j + 1)).map (· + 1)) else [] := by
  rw [List.range_succ_eq_map, List.takeWhile_cons]
  split
  · rw [List.takeWhile_map]; rfl
  · rfl
theorem tellX (G0 : Gr) (m : Ml) {i : Nat} {s : Int} {x : Sl} : ∀ (f : Nat) (t : Int) (L : List Ml) (G G' : Gr), EffX i s x L G G' → EffX i s x (L ++ (((List.range f).takeWhile fun (j : Nat) => (G0.st m.dst (t + (j : Int))).is).map fun (j : Nat) => (⟨5, m.dst, m.fr, t + (j : Int), bal0, bal0, (G0.st m.dst (t + (j : Int))).text⟩ : Ml))) G (G0.tell m f t G') := by
  intro f
  induction f with
  | zero => intro t L G G' h; simpa [Gr.tell] using h
  | succ f ih =>
    intro t L G G' h
    unfold Gr.tell
    rw [takeWhile_shift]
    simp only [Int.natCast_zero, Int.add_zero]
    split
    · rename_i his
      have h2 := ih (t + 1) _ _ _ (h.send ⟨5, m.dst, m.fr, t, bal0, bal0, (G0.st m.dst t).text⟩)
      have e : ∀ j : Nat, t + 1 + (j : Int) = t + ((j + 1 : Nat) : Int) := fun j => by omega
      simp only [e] at h2
      rw [List.append_assoc] at h2
      simpa [List.map_map, Function.comp_def] using h2
    · simpa using h
theorem HandleX {G G' : Gr} {i : Nat} {m : Ml} (hi : i < G.nds.length) (h : G.Handle i m.slot (G.at_ i m.slot) m G') : ∃ x' L, HX G (G.at_ i m.slot) m x' L ∧ EffX i m.slot x' L G G' := by
  have hr := EffX.refl i m.slot G
  unfold Gr.Handle at h
  by_cases h1 : m.kind = 1
  · rw [if_pos h1] at h
    subst h
    unfold Gr.prepare
    by_cases hc : 0 ≤ cmpB m.bal (G.at_ i m.slot).prom
    · rw [if_pos hc]
      exact ⟨_, _, .prep h1 hc, (hr.set hi _).send _⟩
    · rw [if_neg hc]
      exact ⟨_, _, .late (.inl h1) hc, hr.set hi _⟩
  rw [if_neg h1] at h
  by_cases h2 : m.kind = 2
  · rw [if_pos h2] at h
    unfold Gr.Promise at h
    cases hc : (G.at_ i m.slot).cnts m false with
    | none =>
      rw [hc] at h
      subst h
      exact ⟨_, _, .no2 h2 hc, hr⟩
    | some d2 =>
      rw [hc] at h
      simp only at h
      by_cases hl : d2.ans.length = G.nds.length / 2 + 1
      · rw [if_pos hl] at h
        obtain ⟨best, hb, rfl⟩ := h
        exact ⟨_, _, .won d2 best h2 hc hl hb, (hr.set hi { G.at_ i m.slot with bid := some ⟨d2.bal, best.text, true, []⟩ }).sendAll ⟨3, m.dst, 0, m.slot, d2.bal, bal0, best.text⟩⟩
      · rw [if_neg hl] at h
        subst h
        exact ⟨_, _, .ans1 d2 h2 hc hl, hr.set hi _⟩
  rw [if_neg h2] at h
  by_cases h3 : m.kind = 3
  · rw [if_pos h3] at h
    subst h
    unfold Gr.accept
    by_cases hc : 0 ≤ cmpB m.bal (G.at_ i m.slot).prom
    · rw [if_pos hc]
      exact ⟨_, _, .acc h3 hc, (hr.set hi _).send _⟩
    · rw [if_neg hc]
      exact ⟨_, _, .late (.inr h3) hc, hr.set hi _⟩
  rw [if_neg h3] at h
  by_cases h4 : m.kind = 4
  · rw [if_pos h4] at h
    subst h
    unfold Gr.acceptedOf
    cases hc : (G.at_ i m.slot).cnts m true with
    | none => exact ⟨_, _, .no4 h4 hc, hr⟩
    | some d2 =>
      simp only
      by_cases hl : d2.ans.length = G.nds.length / 2 + 1
      · rw [if_pos hl]
        exact ⟨_, _, .done d2 h4 hc hl, (hr.set hi { G.at_ i m.slot with bid := none }).sendAll ⟨5, m.dst, 0, m.slot, m.bal, bal0, d2.text⟩⟩
      · rw [if_neg hl]
        exact ⟨_, _, .ans2 d2 h4 hc hl, hr.set hi _⟩
  rw [if_neg h4] at h
  by_cases h5 : m.kind = 5
  · rw [if_pos h5] at h
    subst h
    unfold Gr.learn
    cases hc : (G.at_ i m.slot).is with
    | true => exact ⟨_, _, .known h5 hc, by rw [if_pos rfl]; exact hr⟩
    | false => exact ⟨_, _, .learn h5 hc, by rw [if_neg (by simp)]; exact hr.set hi _⟩
  rw [if_neg h5] at h
  subst h
  refine ⟨_, _, .told (by omega), ?_⟩
  unfold Gr.ask
  have := tellX G m 8 m.slot [] G G ⟨hr.at_, hr.len, hr.up, hr.mail⟩
  simpa [Gr.told] using this
theorem HX.of_eq {G G' : Gr} {x x' : Sl} {m : Ml} {L : List Ml} (hl : G'.nds.length = G.nds.length) (hs : ∀ t, G'.st m.dst t = G.st m.dst t) (h : HX G' x m x' L) : HX G x m x' L := by
  cases h with
  | late h1 h2 => exact .late h1 h2
  | prep h1 h2 => exact .prep h1 h2
  | acc h1 h2 => exact .acc h1 h2
  | no2 h1 h2 => exact .no2 h1 h2
  | ans1 d2 h1 h2 h3 => exact .ans1 d2 h1 h2 (hl ▸ h3)
  | won d2 best h1 h2 h3 h4 => rw [hl]; exact .won d2 best h1 h2 (hl ▸ h3) h4
  | no4 h1 h2 => exact .no4 h1 h2
  | ans2 d2 h1 h2 h3 => exact .ans2 d2 h1 h2 (hl ▸ h3)
  | done d2 h1 h2 h3 => rw [hl]; exact .done d2 h1 h2 (hl ▸ h3)
  | known h1 h2 => exact .known h1 h2
  | learn h1 h2 => exact .learn h1 h2
  | told h1 =>
    have e : G'.told m = G.told m := by unfold Gr.told; simp only [hs]
    rw [e]
    exact .told h1
/-- the first message is delivered -/
structure FirstX (G : Gr) (m : Ml) (rest : List Ml) (x' : Sl) (L : List Ml) (G' : Gr) : Prop where
  at_ : ∀ j t, G'.at_ j t = if j = m.dst.toNat ∧ t = m.slot then x' else G.at_ j t
  len : G'.nds.length = G.nds.length
  up : ∀ j, (G'.nd j).up = (G.nd j).up
  mail : rest.length + L.length ≤ 4096 → G'.mail = rest ++ L
  what : ((G.nd m.dst.toNat).up = true ∧ HX G (G.at_ m.dst.toNat m.slot) m x' L) ∨ ((G.nd m.dst.toNat).up = false ∧ x' = G.at_ m.dst.toNat m.slot ∧ L = [])
theorem deliver_first_x {G G' : Gr} {m : Ml} {rest : List Ml} (hm : G.mail = m :: rest) (hd : 0 ≤ m.dst ∧ m.dst < G.nds.length) (h : G.DeliverR 0 G') : ∃ x' L, FirstX G m rest x' L G' := by
  rcases h with ⟨h0, _⟩ | ⟨m2, _, h2, h3⟩
  · exact absurd ⟨Int.le_refl _, by rw [hm]; simp⟩ h0
  · rw [hm] at h2
    simp only [Int.toNat_zero, List.getElem?_cons_zero, Option.some.injEq] at h2
    subst h2
    have hi : m.dst.toNat < G.nds.length := by omega
    have hg : (G.gone 0).mail = rest := by
      show G.mail.take 0 ++ G.mail.drop 1 = rest
      rw [hm]; rfl
    simp only [Int.toNat_zero] at h3
    unfold Gr.Deliver at h3
    cases hu : (G.nd m.dst.toNat).up with
    | true =>
      rw [if_pos hu] at h3
      have ht : EffX m.dst.toNat m.slot ((G.gone 0).at_ m.dst.toNat m.slot) [] (G.gone 0) ((G.gone 0).touch m.dst.toNat m.slot) := EffX.touch hi
      have hlen : ((G.gone 0).touch m.dst.toNat m.slot).nds.length = G.nds.length := Gr.touch_len _ _ _
      have hat : ∀ j t, ((G.gone 0).touch m.dst.toNat m.slot).at_ j t = G.at_ j t := fun j t => Gr.at_touch (G.gone 0) _ j _ t hi
      have h' : ((G.gone 0).touch m.dst.toNat m.slot).Handle m.dst.toNat m.slot (((G.gone 0).touch m.dst.toNat m.slot).at_ m.dst.toNat m.slot) m G' := by
        rw [Gr.at_touch (G.gone 0) _ _ _ _ hi]; exact h3
      obtain ⟨x', L, hr, he⟩ := HandleX (by rw [hlen]; exact hi) h'
      rw [hat] at hr
      have hr' := hr.of_eq hlen fun t => by unfold Gr.st; rw [hlen, hat]
      have he' := ht.after he
      exact ⟨x', L, he'.at_, he'.len, he'.up, fun hr => by have := he'.mail (by rw [hg]; exact hr); rwa [hg] at this, .inl ⟨hu, hr'⟩⟩
    | false =>
      rw [if_neg (by rw [hu]; decide)] at h3
      subst h3
      refine ⟨G.at_ m.dst.toNat m.slot, [], fun j t => ?_, rfl, fun _ => rfl, fun _ => by rw [hg]; simp, .inr ⟨hu, rfl, rfl⟩⟩
      by_cases e : j = m.dst.toNat ∧ t = m.slot
      · rw [if_pos e, e.1, e.2]; rfl
      · rw [if_neg e]; rfl

end Go.Proofs.Ytbgopicpdpkccaa

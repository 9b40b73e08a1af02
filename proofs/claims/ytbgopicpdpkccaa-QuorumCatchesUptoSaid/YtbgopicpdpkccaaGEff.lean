/- quorum: what an act does to one slot of one node and to the mail: the plain law. -/
import Derived.Test.YtbgopicpdpkccaaGLive
namespace Go.Proofs.Ytbgopicpdpkccaa
open Go.RowKit
set_option linter.unusedVariables false
set_option linter.unusedSimpArgs false

structure Eff (i : Nat) (s : Int) (x' : Sl) (new : Ml → Prop) (G G' : Gr) : Prop where
  at_ : ∀ j t, G'.at_ j t = if j = i ∧ t = s then x' else G.at_ j t
  len : G'.nds.length = G.nds.length
  up : ∀ j, (G'.nd j).up = (G.nd j).up
  mail : ∀ m ∈ G'.mail, m ∈ G.mail ∨ new m
  room : G.mail.length ≤ 4096 → G'.mail.length ≤ 4096
def no1 : Ml → Prop := fun _ => False
section
variable {G G' G'' : Gr} {i : Nat} {s : Int} {x x' : Sl} {new : Ml → Prop}
theorem Eff.refl (i : Nat) (s : Int) (G : Gr) : Eff i s (G.at_ i s) no1 G G := by
  refine ⟨fun j t => ?_, rfl, fun _ => rfl, fun m h => .inl h, fun h => h⟩
  by_cases e : j = i ∧ t = s
  · rw [if_pos e, e.1, e.2]
  · rw [if_neg e]
theorem Gr.nd_setSl (G : Gr) (i j : Nat) (s : Int) (x : Sl) (h : i < G.nds.length) : (G.setSl i s x).nd j = if j = i then ⟨(G.nd i).up, setA s x (G.nd i).sl⟩ else G.nd j := by
  unfold Gr.setSl
  rw [Gr.nd_set _ _ _ _ h]
theorem Gr.at_setSl (G : Gr) (i j : Nat) (s t : Int) (x : Sl) (h : i < G.nds.length) : (G.setSl i s x).at_ j t = if j = i ∧ t = s then x else G.at_ j t := by
  unfold Gr.at_
  rw [Gr.nd_setSl _ _ _ _ _ h]
  by_cases e : j = i
  · subst e
    rw [if_pos rfl]
    show (getA t (setA s x (G.nd j).sl)).getD sl0 = _
    rw [getA_set]
    by_cases e2 : t = s
    · rw [if_pos e2, if_pos ⟨rfl, e2⟩]; rfl
    · rw [if_neg e2, if_neg (fun h => e2 h.2)]
  · rw [if_neg e, if_neg (fun h => e h.1)]
theorem Gr.up_setSl (G : Gr) (i j : Nat) (s : Int) (x : Sl) (h : i < G.nds.length) : ((G.setSl i s x).nd j).up = (G.nd j).up := by
  rw [Gr.nd_setSl _ _ _ _ _ h]
  by_cases e : j = i
  · rw [if_pos e, e]
  · rw [if_neg e]
theorem Gr.at_touch (G : Gr) (i j : Nat) (s t : Int) (h : i < G.nds.length) : (G.touch i s).at_ j t = G.at_ j t := by
  unfold Gr.touch
  cases hg : getA s (G.nd i).sl with
  | some y => rfl
  | none =>
    show (G.setSl i s sl0).at_ j t = _
    rw [Gr.at_setSl _ _ _ _ _ _ h]
    by_cases e : j = i ∧ t = s
    · rw [if_pos e, e.1, e.2]; unfold Gr.at_; rw [hg]; rfl
    · rw [if_neg e]
theorem Gr.up_touch (G : Gr) (i j : Nat) (s : Int) (h : i < G.nds.length) : ((G.touch i s).nd j).up = (G.nd j).up := by
  unfold Gr.touch
  split
  · rfl
  · exact Gr.up_setSl _ _ _ _ _ h
theorem Gr.mail_touch (G : Gr) (i : Nat) (s : Int) : (G.touch i s).mail = G.mail := by
  unfold Gr.touch
  split <;> rfl
theorem Eff.touch (h : i < G.nds.length) : Eff i s (G.at_ i s) no1 G (G.touch i s) := by
  refine ⟨fun j t => ?_, Gr.touch_len _ _ _, fun j => Gr.up_touch _ _ _ _ h, fun m hm => .inl (by rwa [Gr.mail_touch] at hm), fun hl => by rwa [Gr.mail_touch]⟩
  rw [Gr.at_touch _ _ _ _ _ h]
  by_cases e : j = i ∧ t = s
  · rw [if_pos e, e.1, e.2]
  · rw [if_neg e]
theorem Gr.at_nds {G G' : Gr} (h : G'.nds = G.nds) (j : Nat) (t : Int) : G'.at_ j t = G.at_ j t := by unfold Gr.at_ Gr.nd; rw [h]
theorem Gr.up_nds {G G' : Gr} (h : G'.nds = G.nds) (j : Nat) : G'.nd j = G.nd j := by unfold Gr.nd; rw [h]
theorem Gr.mem_send {m m0 : Ml} (h : m ∈ (G.send m0).mail) : m ∈ G.mail ∨ m = m0 := by
  unfold Gr.send at h
  split at h
  · rcases List.mem_append.1 h with h | h
    · exact .inl h
    · exact .inr (by simpa using h)
  · exact .inl h
theorem Gr.room_send {m0 : Ml} (h : G.mail.length ≤ 4096) : (G.send m0).mail.length ≤ 4096 := by
  unfold Gr.send
  split
  · show (G.mail ++ [m0]).length ≤ 4096
    simp; omega
  · exact h
theorem Gr.mem_sendTo {m0 : Ml} (k : Nat) : ∀ {m}, m ∈ (G.sendTo m0 k).mail → m ∈ G.mail ∨ ∃ j : Nat, j < k ∧ m = { m0 with dst := (j : Int) } := by
  induction k with
  | zero => intro m h; exact .inl h
  | succ k ih =>
    intro m h
    rw [Gr.sendTo_succ] at h
    rcases Gr.mem_send h with h | h
    · rcases ih h with h | ⟨j, h1, h2⟩
      · exact .inl h
      · exact .inr ⟨j, by omega, h2⟩
    · exact .inr ⟨k, by omega, h⟩
theorem Gr.room_sendTo {m0 : Ml} (k : Nat) (h : G.mail.length ≤ 4096) : (G.sendTo m0 k).mail.length ≤ 4096 := by
  induction k with
  | zero => exact h
  | succ k ih => rw [Gr.sendTo_succ]; exact Gr.room_send ih
/-- what comes after, in the same place -/
theorem Eff.set (h : Eff i s x new G G') (hi : i < G.nds.length) (y : Sl) : Eff i s y new G (G'.setSl i s y) := by
  have hi' : i < G'.nds.length := by rw [h.len]; exact hi
  refine ⟨fun j t => ?_, ?_, fun j => (Gr.up_setSl _ _ _ _ _ hi').trans (h.up j), fun m hm => h.mail m hm, h.room⟩
  · rw [Gr.at_setSl _ _ _ _ _ _ hi', h.at_]
    by_cases e : j = i ∧ t = s
    · rw [if_pos e, if_pos e]
    · rw [if_neg e, if_neg e, if_neg e]
  · unfold Gr.setSl; rw [Gr.len_set, h.len]
theorem Eff.send (h : Eff i s x new G G') (m0 : Ml) {new' : Ml → Prop} (hn : ∀ m, new m ∨ m = m0 → new' m) : Eff i s x new' G (G'.send m0) := by
  refine ⟨fun j t => (Gr.at_nds (Gr.send_nds _ _) j t).trans (h.at_ j t), by rw [Gr.send_nds, h.len], fun j => by rw [Gr.up_nds (Gr.send_nds _ _)]; exact h.up j, fun m hm => ?_, fun hl => Gr.room_send (h.room hl)⟩
  rcases Gr.mem_send hm with hm | hm
  · exact (h.mail m hm).imp id fun h => hn m (.inl h)
  · exact .inr (hn m (.inr hm))
theorem Eff.sendAll (h : Eff i s x no1 G G') (m0 : Ml) : Eff i s x (fun m => ∃ j : Nat, j < G.nds.length ∧ m = { m0 with dst := (j : Int) }) G (G'.sendAll m0) := by
  have hnd : (G'.sendAll m0).nds = G'.nds := Gr.sendTo_nds _ _ _
  refine ⟨fun j t => (Gr.at_nds hnd j t).trans (h.at_ j t), by rw [hnd, h.len], fun j => by rw [Gr.up_nds hnd]; exact h.up j, fun m hm => ?_, fun hl => Gr.room_sendTo _ (h.room hl)⟩
  rcases Gr.mem_sendTo _ hm with hm | ⟨j, h1, h2⟩
  · exact (h.mail m hm).imp id fun h => h.elim
  · exact .inr ⟨j, by rw [← h.len]; exact h1, h2⟩
/-- from a group with less mail -/
theorem Eff.of_less {G0 : Gr} (h : Eff i s x new G G') (hn : G.nds = G0.nds) (hm : ∀ m ∈ G.mail, m ∈ G0.mail) (hl : G.mail.length ≤ G0.mail.length) : Eff i s x new G0 G' :=
  ⟨fun j t => by rw [h.at_, Gr.at_nds hn], by rw [h.len, hn], fun j => by rw [h.up, Gr.up_nds hn], fun m h' => (h.mail m h').imp (hm m) id, fun h' => h.room (by omega)⟩
theorem Eff.after (h1 : Eff i s (G.at_ i s) no1 G G') (h2 : Eff i s x new G' G'') : Eff i s x new G G'' := by
  have hat : ∀ j t, G'.at_ j t = G.at_ j t := fun j t => by
    rw [h1.at_]
    by_cases e : j = i ∧ t = s
    · rw [if_pos e, e.1, e.2]
    · rw [if_neg e]
  exact ⟨fun j t => by rw [h2.at_, hat], by rw [h2.len, h1.len], fun j => by rw [h2.up, h1.up], fun m hm => by
    rcases h2.mail m hm with h | h
    · exact .inl ((h1.mail m h).elim id fun h => h.elim)
    · exact .inr h, fun h => h2.room (h1.room h)⟩
end
/-- what a message does -/
inductive HRel (G : Gr) (i : Nat) (x : Sl) (m : Ml) : Sl → (Ml → Prop) → Prop
  | stay : HRel G i x m x no1
  | late : m.kind = 1 ∨ m.kind = 3 → HRel G i x m { x with rd := maxI x.rd m.bal.rd } no1
  | prep : m.kind = 1 → 0 ≤ cmpB m.bal x.prom → HRel G i x m { x with rd := maxI x.rd m.bal.rd, prom := m.bal } (fun m' => no1 m' ∨ m' = ⟨2, m.dst, m.bal.nd, m.slot, m.bal, x.accd.bal, x.accd.text⟩)
  | acc : m.kind = 3 → 0 ≤ cmpB m.bal x.prom → HRel G i x m { x with rd := maxI x.rd m.bal.rd, prom := m.bal, accd := ⟨m.bal, m.text⟩ } (fun m' => no1 m' ∨ m' = ⟨4, m.dst, m.bal.nd, m.slot, m.bal, bal0, ⟨#[]⟩⟩)
  | ans1 (d2 : Bd) : m.kind = 2 → x.cnts m false = some d2 → d2.ans.length ≠ G.nds.length / 2 + 1 → HRel G i x m { x with bid := some d2 } no1
  | won (d2 : Bd) (best : Vt) : m.kind = 2 → x.cnts m false = some d2 → d2.ans.length = G.nds.length / 2 + 1 → IsBest d2.ans d2.text best → HRel G i x m { x with bid := some ⟨d2.bal, best.text, true, []⟩ } (fun m' => ∃ j : Nat, j < G.nds.length ∧ m' = ⟨3, m.dst, (j : Int), m.slot, d2.bal, bal0, best.text⟩)
  | ans2 (d2 : Bd) : m.kind = 4 → x.cnts m true = some d2 → d2.ans.length ≠ G.nds.length / 2 + 1 → HRel G i x m { x with bid := some d2 } no1
  | done (d2 : Bd) : m.kind = 4 → x.cnts m true = some d2 → d2.ans.length = G.nds.length / 2 + 1 → HRel G i x m { x with bid := none } (fun m' => ∃ j : Nat, j < G.nds.length ∧ m' = ⟨5, m.dst, (j : Int), m.slot, m.bal, bal0, d2.text⟩)
  | learn : m.kind = 5 → x.is = false → HRel G i x m { x with is := true, text := m.text } no1
  | told : HRel G i x m x (fun m' => ∃ t : Int, m.slot ≤ t ∧ (G.st m.dst t).is = true ∧ m' = ⟨5, m.dst, m.fr, t, bal0, bal0, (G.st m.dst t).text⟩)
theorem Gr.tell_eff (G0 : Gr) (m : Ml) {i : Nat} {s : Int} {x : Sl} {new : Ml → Prop} : ∀ (f : Nat) (t : Int) (G G' : Gr), m.slot ≤ t → Eff i s x new G G' → (∀ m', (∃ u : Int, m.slot ≤ u ∧ (G0.st m.dst u).is = true ∧ m' = ⟨5, m.dst, m.fr, u, bal0, bal0, (G0.st m.dst u).text⟩) → new m') → Eff i s x new G (G0.tell m f t G') := by
  intro f
  induction f with
  | zero => intro t G G' _ h _; exact h
  | succ f ih =>
    intro t G G' ht h hn
    unfold Gr.tell
    split
    · rename_i his
      refine ih _ _ _ (by omega) (h.send _ fun m' hm => ?_) hn
      rcases hm with hm | rfl
      · exact hm
      · exact hn _ ⟨t, ht, his, rfl⟩
    · exact h
theorem Handle_eff {G G' : Gr} {i : Nat} {m : Ml} (hi : i < G.nds.length) (h : G.Handle i m.slot (G.at_ i m.slot) m G') : ∃ x' new, HRel G i (G.at_ i m.slot) m x' new ∧ Eff i m.slot x' new G G' := by
  have hr := Eff.refl i m.slot G
  unfold Gr.Handle at h
  by_cases h1 : m.kind = 1
  · rw [if_pos h1] at h
    subst h
    unfold Gr.prepare
    by_cases hc : 0 ≤ cmpB m.bal (G.at_ i m.slot).prom
    · rw [if_pos hc]
      exact ⟨_, _, .prep h1 hc, (hr.set hi _).send _ fun _ => id⟩
    · rw [if_neg hc]
      exact ⟨_, _, .late (.inl h1), hr.set hi _⟩
  rw [if_neg h1] at h
  by_cases h2 : m.kind = 2
  · rw [if_pos h2] at h
    unfold Gr.Promise at h
    cases hc : (G.at_ i m.slot).cnts m false with
    | none =>
      rw [hc] at h
      subst h
      exact ⟨_, _, .stay, hr⟩
    | some d2 =>
      rw [hc] at h
      simp only at h
      by_cases hl : d2.ans.length = G.nds.length / 2 + 1
      · rw [if_pos hl] at h
        obtain ⟨best, hb, rfl⟩ := h
        exact ⟨_, _, .won d2 best h2 hc hl hb, (hr.set hi { G.at_ i m.slot with bid := some ⟨d2.bal, best.text, true, []⟩ }).sendAll ⟨3, m.dst, 0, m.slot, d2.bal, bal0, best.text⟩⟩
      · rw [if_neg hl] at h
        subst h
        exact ⟨_, _, .ans1 d2 h2 hc hl, hr.set hi _⟩
  rw [if_neg h2] at h
  by_cases h3 : m.kind = 3
  · rw [if_pos h3] at h
    subst h
    unfold Gr.accept
    by_cases hc : 0 ≤ cmpB m.bal (G.at_ i m.slot).prom
    · rw [if_pos hc]
      exact ⟨_, _, .acc h3 hc, (hr.set hi _).send _ fun _ => id⟩
    · rw [if_neg hc]
      exact ⟨_, _, .late (.inr h3), hr.set hi _⟩
  rw [if_neg h3] at h
  by_cases h4 : m.kind = 4
  · rw [if_pos h4] at h
    subst h
    unfold Gr.acceptedOf
    cases hc : (G.at_ i m.slot).cnts m true with
    | none => exact ⟨_, _, .stay, hr⟩
    | some d2 =>
      simp only
      by_cases hl : d2.ans.length = G.nds.length / 2 + 1
      · rw [if_pos hl]
        exact ⟨_, _, .done d2 h4 hc hl, (hr.set hi { G.at_ i m.slot with bid := none }).sendAll ⟨5, m.dst, 0, m.slot, m.bal, bal0, d2.text⟩⟩
      · rw [if_neg hl]
        exact ⟨_, _, .ans2 d2 h4 hc hl, hr.set hi _⟩
  rw [if_neg h4] at h
  by_cases h5 : m.kind = 5
  · rw [if_pos h5] at h
    subst h
    unfold Gr.learn
    cases hc : (G.at_ i m.slot).is with
    | true => exact ⟨_, _, .stay, by rw [if_pos rfl]; exact hr⟩
    | false => exact ⟨_, _, .learn h5 hc, by rw [if_neg (by simp)]; exact hr.set hi _⟩
  rw [if_neg h5] at h
  subst h
  refine ⟨_, _, .told, ?_⟩
  unfold Gr.ask
  exact Gr.tell_eff G m 8 m.slot G G (Int.le_refl _) ⟨hr.at_, hr.len, hr.up, fun m h => .inl h, hr.room⟩ fun _ h => h
theorem HRel.of_eq {G G' : Gr} {i : Nat} {x : Sl} {m : Ml} {x' : Sl} {new : Ml → Prop} (hl : G'.nds.length = G.nds.length) (hs : ∀ t, G'.st m.dst t = G.st m.dst t) (h : HRel G' i x m x' new) : HRel G i x m x' new := by
  cases h with
  | stay => exact .stay
  | late h => exact .late h
  | prep h1 h2 => exact .prep h1 h2
  | acc h1 h2 => exact .acc h1 h2
  | ans1 d2 h1 h2 h3 => exact .ans1 d2 h1 h2 (hl ▸ h3)
  | won d2 best h1 h2 h3 h4 => rw [hl]; exact .won d2 best h1 h2 (hl ▸ h3) h4
  | ans2 d2 h1 h2 h3 => exact .ans2 d2 h1 h2 (hl ▸ h3)
  | done d2 h1 h2 h3 => rw [hl]; exact .done d2 h1 h2 (hl ▸ h3)
  | learn h1 h2 => exact .learn h1 h2
  | told =>
    have : (fun m' => ∃ t : Int, m.slot ≤ t ∧ (G'.st m.dst t).is = true ∧ m' = (⟨5, m.dst, m.fr, t, bal0, bal0, (G'.st m.dst t).text⟩ : Ml)) = (fun m' => ∃ t : Int, m.slot ≤ t ∧ (G.st m.dst t).is = true ∧ m' = ⟨5, m.dst, m.fr, t, bal0, bal0, (G.st m.dst t).text⟩) := by
      funext m'
      simp only [hs]
    rw [this]
    exact .told
theorem Gr.gone_mem {G : Gr} {k : Nat} {m : Ml} (h : m ∈ (G.gone k).mail) : m ∈ G.mail := by
  rcases List.mem_append.1 h with h | h
  · exact List.mem_of_mem_take h
  · exact List.mem_of_mem_drop h
theorem Gr.gone_len (G : Gr) (k : Nat) : (G.gone k).mail.length ≤ G.mail.length := by
  show (G.mail.take k ++ G.mail.drop (k + 1)).length ≤ _
  simp; omega
theorem Deliver_eff {G G' : Gr} {k : Nat} {m : Ml} (hd : 0 ≤ m.dst ∧ m.dst < G.nds.length) (h : G.Deliver k m G') : ∃ x' new, HRel G m.dst.toNat (G.at_ m.dst.toNat m.slot) m x' new ∧ Eff m.dst.toNat m.slot x' new G G' := by
  have hi : m.dst.toNat < G.nds.length := by omega
  have hg : Eff m.dst.toNat m.slot (G.at_ m.dst.toNat m.slot) no1 G (G.gone k) := (Eff.refl m.dst.toNat m.slot (G.gone k)).of_less rfl (fun m h => Gr.gone_mem h) (Gr.gone_len _ _)
  unfold Gr.Deliver at h
  by_cases hu : (G.nd m.dst.toNat).up = true
  · rw [if_pos hu] at h
    have ht : Eff m.dst.toNat m.slot ((G.gone k).at_ m.dst.toNat m.slot) no1 (G.gone k) ((G.gone k).touch m.dst.toNat m.slot) := Eff.touch hi
    have hlen : ((G.gone k).touch m.dst.toNat m.slot).nds.length = G.nds.length := Gr.touch_len _ _ _
    have hat : ∀ j t, ((G.gone k).touch m.dst.toNat m.slot).at_ j t = G.at_ j t := fun j t => Gr.at_touch (G.gone k) _ j _ t hi
    have h' : ((G.gone k).touch m.dst.toNat m.slot).Handle m.dst.toNat m.slot (((G.gone k).touch m.dst.toNat m.slot).at_ m.dst.toNat m.slot) m G' := by
      rw [Gr.at_touch (G.gone k) _ _ _ _ hi]; exact h
    obtain ⟨x', new, hr, he⟩ := Handle_eff (by rw [hlen]; exact hi) h'
    rw [hat] at hr
    refine ⟨x', new, hr.of_eq hlen fun t => ?_, hg.after (ht.after he)⟩
    unfold Gr.st
    rw [hlen, hat]
  · rw [if_neg hu] at h
    subst h
    exact ⟨_, _, .stay, hg⟩

end Go.Proofs.Ytbgopicpdpkccaa

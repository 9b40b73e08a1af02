/- Texts of the proof, joined: GEff, GSafe, GSafe2, GFit. -/
import Derived.Test.YtbgopicpdpkccaaJ08
import Derived.Test.YtbgopicpdpkccaaJ07
namespace Go.Proofs.Ytbgopicpdpkccaa
open Go.RowKit
set_option linter.unusedVariables false
set_option linter.unusedSimpArgs false

structure Eff (i : Nat) (s : Int) (x' : Sl) (new : Ml → Prop) (G G' : Gr) : Prop where
  at_ : ∀ j t, G'.at_ j t = if j = i ∧ t = s then x' else G.at_ j t
  len : G'.nds.length = G.nds.length
  up : ∀ j, (G'.nd j).up = (G.nd j).up
  mail : ∀ m ∈ G'.mail, m ∈ G.mail ∨ new m
  room : G.mail.length ≤ 4096 → G'.mail.length ≤ 4096
def no1 : Ml → Prop := fun _ => False
section
variable {G G' G'' : Gr} {i : Nat} {s : Int} {x x' : Sl} {new : Ml → Prop}
theorem Eff.refl (i : Nat) (s : Int) (G : Gr) : Eff i s (G.at_ i s) no1 G G := by
  refine ⟨fun j t => ?_, rfl, fun _ => rfl, fun m h => .inl h, fun h => h⟩
  by_cases e : j = i ∧ t = s
  · rw [if_pos e, e.1, e.2]
  · rw [if_neg e]
theorem Gr.nd_setSl (G : Gr) (i j : Nat) (s : Int) (x : Sl) (h : i < G.nds.length) : (G.setSl i s x).nd j = if j = i then ⟨(G.nd i).up, setA s x (G.nd i).sl⟩ else G.nd j := by
  unfold Gr.setSl
  rw [Gr.nd_set _ _ _ _ h]
theorem Gr.at_setSl (G : Gr) (i j : Nat) (s t : Int) (x : Sl) (h : i < G.nds.length) : (G.setSl i s x).at_ j t = if j = i ∧ t = s then x else G.at_ j t := by
  unfold Gr.at_
  rw [Gr.nd_setSl _ _ _ _ _ h]
  by_cases e : j = i
  · subst e
    rw [if_pos rfl]
    show (getA t (setA s x (G.nd j).sl)).getD sl0 = _
    rw [getA_set]
    by_cases e2 : t = s
    · rw [if_pos e2, if_pos ⟨rfl, e2⟩]; rfl
    · rw [if_neg e2, if_neg (fun h => e2 h.2)]
  · rw [if_neg e, if_neg (fun h => e h.1)]
theorem Gr.up_setSl (G : Gr) (i j : Nat) (s : Int) (x : Sl) (h : i < G.nds.length) : ((G.setSl i s x).nd j).up = (G.nd j).up := by
  rw [Gr.nd_setSl _ _ _ _ _ h]
  by_cases e : j = i
  · rw [if_pos e, e]
  · rw [if_neg e]
theorem Gr.at_touch (G : Gr) (i j : Nat) (s t : Int) (h : i < G.nds.length) : (G.touch i s).at_ j t = G.at_ j t := by
  unfold Gr.touch
  cases hg : getA s (G.nd i).sl with
  | some y => rfl
  | none =>
    show (G.setSl i s sl0).at_ j t = _
    rw [Gr.at_setSl _ _ _ _ _ _ h]
    by_cases e : j = i ∧ t = s
    · rw [if_pos e, e.1, e.2]; unfold Gr.at_; rw [hg]; rfl
    · rw [if_neg e]
theorem Gr.up_touch (G : Gr) (i j : Nat) (s : Int) (h : i < G.nds.length) : ((G.touch i s).nd j).up = (G.nd j).up := by
  unfold Gr.touch
  split
  · rfl
  · exact Gr.up_setSl _ _ _ _ _ h
theorem Gr.mail_touch (G : Gr) (i : Nat) (s : Int) : (G.touch i s).mail = G.mail := by
  unfold Gr.touch
  split <;> rfl
theorem Eff.touch (h : i < G.nds.length) : Eff i s (G.at_ i s) no1 G (G.touch i s) := by
  refine ⟨fun j t => ?_, Gr.touch_len _ _ _, fun j => Gr.up_touch _ _ _ _ h, fun m hm => .inl (by rwa [Gr.mail_touch] at hm), fun hl => by rwa [Gr.mail_touch]⟩
  rw [Gr.at_touch _ _ _ _ _ h]
  by_cases e : j = i ∧ t = s
  · rw [if_pos e, e.1, e.2]
  · rw [if_neg e]
theorem Gr.at_nds {G G' : Gr} (h : G'.nds = G.nds) (j : Nat) (t : Int) : G'.at_ j t = G.at_ j t := by unfold Gr.at_ Gr.nd; rw [h]
theorem Gr.up_nds {G G' : Gr} (h : G'.nds = G.nds) (j : Nat) : G'.nd j = G.nd j := by unfold Gr.nd; rw [h]
theorem Gr.mem_send {m m0 : Ml} (h : m ∈ (G.send m0).mail) : m ∈ G.mail ∨ m = m0 := by
  unfold Gr.send at h
  split at h
  · rcases List.mem_append.1 h with h | h
    · exact .inl h
    · exact .inr (by simpa using h)
  · exact .inl h
theorem Gr.room_send {m0 : Ml} (h : G.mail.length ≤ 4096) : (G.send m0).mail.length ≤ 4096 := by
  unfold Gr.send
  split
  · show (G.mail ++ [m0]).length ≤ 4096
    simp; omega
  · exact h
theorem Gr.mem_sendTo {m0 : Ml} (k : Nat) : ∀ {m}, m ∈ (G.sendTo m0 k).mail → m ∈ G.mail ∨ ∃ j : Nat, j < k ∧ m = { m0 with dst := (j : Int) } := by
  induction k with
  | zero => intro m h; exact .inl h
  | succ k ih =>
    intro m h
    rw [Gr.sendTo_succ] at h
    rcases Gr.mem_send h with h | h
    · rcases ih h with h | ⟨j, h1, h2⟩
      · exact .inl h
      · exact .inr ⟨j, by omega, h2⟩
    · exact .inr ⟨k, by omega, h⟩
theorem Gr.room_sendTo {m0 : Ml} (k : Nat) (h : G.mail.length ≤ 4096) : (G.sendTo m0 k).mail.length ≤ 4096 := by
  induction k with
  | zero => exact h
  | succ k ih => rw [Gr.sendTo_succ]; exact Gr.room_send ih
/-- what comes after, in the same place -/
theorem Eff.set (h : Eff i s x new G G') (hi : i < G.nds.length) (y : Sl) : Eff i s y new G (G'.setSl i s y) := by
  have hi' : i < G'.nds.length := by rw [h.len]; exact hi
  refine ⟨fun j t => ?_, ?_, fun j => (Gr.up_setSl _ _ _ _ _ hi').trans (h.up j), fun m hm => h.mail m hm, h.room⟩
  · rw [Gr.at_setSl _ _ _ _ _ _ hi', h.at_]
    by_cases e : j = i ∧ t = s
    · rw [if_pos e, if_pos e]
    · rw [if_neg e, if_neg e, if_neg e]
  · unfold Gr.setSl; rw [Gr.len_set, h.len]
theorem Eff.send (h : Eff i s x new G G') (m0 : Ml) {new' : Ml → Prop} (hn : ∀ m, new m ∨ m = m0 → new' m) : Eff i s x new' G (G'.send m0) := by
  refine ⟨fun j t => (Gr.at_nds (Gr.send_nds _ _) j t).trans (h.at_ j t), by rw [Gr.send_nds, h.len], fun j => by rw [Gr.up_nds (Gr.send_nds _ _)]; exact h.up j, fun m hm => ?_, fun hl => Gr.room_send (h.room hl)⟩
  rcases Gr.mem_send hm with hm | hm
  · exact (h.mail m hm).imp id fun h => hn m (.inl h)
  · exact .inr (hn m (.inr hm))
theorem Eff.sendAll (h : Eff i s x no1 G G') (m0 : Ml) : Eff i s x (fun m => ∃ j : Nat, j < G.nds.length ∧ m = { m0 with dst := (j : Int) }) G (G'.sendAll m0) := by
  have hnd : (G'.sendAll m0).nds = G'.nds := Gr.sendTo_nds _ _ _
  refine ⟨fun j t => (Gr.at_nds hnd j t).trans (h.at_ j t), by rw [hnd, h.len], fun j => by rw [Gr.up_nds hnd]; exact h.up j, fun m hm => ?_, fun hl => Gr.room_sendTo _ (h.room hl)⟩
  rcases Gr.mem_sendTo _ hm with hm | ⟨j, h1, h2⟩
  · exact (h.mail m hm).imp id fun h => h.elim
  · exact .inr ⟨j, by rw [← h.len]; exact h1, h2⟩
/-- from a group with less mail -/
theorem Eff.of_less {G0 : Gr} (h : Eff i s x new G G') (hn : G.nds = G0.nds) (hm : ∀ m ∈ G.mail, m ∈ G0.mail) (hl : G.mail.length ≤ G0.mail.length) : Eff i s x new G0 G' :=
  ⟨fun j t => by rw [h.at_, Gr.at_nds hn], by rw [h.len, hn], fun j => by rw [h.up, Gr.up_nds hn], fun m h' => (h.mail m h').imp (hm m) id, fun h' => h.room (by omega)⟩
theorem Eff.after (h1 : Eff i s (G.at_ i s) no1 G G') (h2 : Eff i s x new G' G'') : Eff i s x new G G'' := by
  have hat : ∀ j t, G'.at_ j t = G.at_ j t := fun j t => by
    rw [h1.at_]
    by_cases e : j = i ∧ t = s
    · rw [if_pos e, e.1, e.2]
    · rw [if_neg e]
  exact ⟨fun j t => by rw [h2.at_, hat], by rw [h2.len, h1.len], fun j => by rw [h2.up, h1.up], fun m hm => by
    rcases h2.mail m hm with h | h
    · exact .inl ((h1.mail m h).elim id fun h => h.elim)
    · exact .inr h, fun h => h2.room (h1.room h)⟩
end
/-- what a message does -/
inductive HRel (G : Gr) (i : Nat) (x : Sl) (m : Ml) : Sl → (Ml → Prop) → Prop
  | stay : HRel G i x m x no1
  | late : m.kind = 1 ∨ m.kind = 3 → HRel G i x m { x with rd := maxI x.rd m.bal.rd } no1
  | prep : m.kind = 1 → 0 ≤ cmpB m.bal x.prom → HRel G i x m { x with rd := maxI x.rd m.bal.rd, prom := m.bal } (fun m' => no1 m' ∨ m' = ⟨2, m.dst, m.bal.nd, m.slot, m.bal, x.accd.bal, x.accd.text⟩)
  | acc : m.kind = 3 → 0 ≤ cmpB m.bal x.prom → HRel G i x m { x with rd := maxI x.rd m.bal.rd, prom := m.bal, accd := ⟨m.bal, m.text⟩ } (fun m' => no1 m' ∨ m' = ⟨4, m.dst, m.bal.nd, m.slot, m.bal, bal0, ⟨#[]⟩⟩)
  | ans1 (d2 : Bd) : m.kind = 2 → x.cnts m false = some d2 → d2.ans.length ≠ G.nds.length / 2 + 1 → HRel G i x m { x with bid := some d2 } no1
  | won (d2 : Bd) (best : Vt) : m.kind = 2 → x.cnts m false = some d2 → d2.ans.length = G.nds.length / 2 + 1 → IsBest d2.ans d2.text best → HRel G i x m { x with bid := some ⟨d2.bal, best.text, true, []⟩ } (fun m' => ∃ j : Nat, j < G.nds.length ∧ m' = ⟨3, m.dst, (j : Int), m.slot, d2.bal, bal0, best.text⟩)
  | ans2 (d2 : Bd) : m.kind = 4 → x.cnts m true = some d2 → d2.ans.length ≠ G.nds.length / 2 + 1 → HRel G i x m { x with bid := some d2 } no1
  | done (d2 : Bd) : m.kind = 4 → x.cnts m true = some d2 → d2.ans.length = G.nds.length / 2 + 1 → HRel G i x m { x with bid := none } (fun m' => ∃ j : Nat, j < G.nds.length ∧ m' = ⟨5, m.dst, (j : Int), m.slot, m.bal, bal0, d2.text⟩)
  | learn : m.kind = 5 → x.is = false → HRel G i x m { x with is := true, text := m.text } no1
  | told : HRel G i x m x (fun m' => ∃ t : Int, m.slot ≤ t ∧ (G.st m.dst t).is = true ∧ m' = ⟨5, m.dst, m.fr, t, bal0, bal0, (G.st m.dst t).text⟩)
theorem Gr.tell_eff (G0 : Gr) (m : Ml) {i : Nat} {s : Int} {x : Sl} {new : Ml → Prop} : ∀ (f : Nat) (t : Int) (G G' : Gr), m.slot ≤ t → Eff i s x new G G' → (∀ m', (∃ u : Int, m.slot ≤ u ∧ (G0.st m.dst u).is = true ∧ m' = ⟨5, m.dst, m.fr, u, bal0, bal0, (G0.st m.dst u).text⟩) → new m') → Eff i s x new G (G0.tell m f t G') := by
  intro f
  induction f with
  | zero => intro t G G' _ h _; exact h
  | succ f ih =>
    intro t G G' ht h hn
    unfold Gr.tell
    split
    · rename_i his
      refine ih _ _ _ (by omega) (h.send _ fun m' hm => ?_) hn
      rcases hm with hm | rfl
      · exact hm
      · exact hn _ ⟨t, ht, his, rfl⟩
    · exact h
theorem Handle_eff {G G' : Gr} {i : Nat} {m : Ml} (hi : i < G.nds.length) (h : G.Handle i m.slot (G.at_ i m.slot) m G') : ∃ x' new, HRel G i (G.at_ i m.slot) m x' new ∧ Eff i m.slot x' new G G' := by
  have hr := Eff.refl i m.slot G
  unfold Gr.Handle at h
  by_cases h1 : m.kind = 1
  · rw [if_pos h1] at h
    subst h
    unfold Gr.prepare
    by_cases hc : 0 ≤ cmpB m.bal (G.at_ i m.slot).prom
    · rw [if_pos hc]
      exact ⟨_, _, .prep h1 hc, (hr.set hi _).send _ fun _ => id⟩
    · rw [if_neg hc]
      exact ⟨_, _, .late (.inl h1), hr.set hi _⟩
  rw [if_neg h1] at h
  by_cases h2 : m.kind = 2
  · rw [if_pos h2] at h
    unfold Gr.Promise at h
    cases hc : (G.at_ i m.slot).cnts m false with
    | none =>
      rw [hc] at h
      subst h
      exact ⟨_, _, .stay, hr⟩
    | some d2 =>
      rw [hc] at h
      simp only at h
      by_cases hl : d2.ans.length = G.nds.length / 2 + 1
      · rw [if_pos hl] at h
        obtain ⟨best, hb, rfl⟩ := h
        exact ⟨_, _, .won d2 best h2 hc hl hb, (hr.set hi { G.at_ i m.slot with bid := some ⟨d2.bal, best.text, true, []⟩ }).sendAll ⟨3, m.dst, 0, m.slot, d2.bal, bal0, best.text⟩⟩
      · rw [if_neg hl] at h
        subst h
        exact ⟨_, _, .ans1 d2 h2 hc hl, hr.set hi _⟩
  rw [if_neg h2] at h
  by_cases h3 : m.kind = 3
  · rw [if_pos h3] at h
    subst h
    unfold Gr.accept
    by_cases hc : 0 ≤ cmpB m.bal (G.at_ i m.slot).prom
    · rw [if_pos hc]
      exact ⟨_, _, .acc h3 hc, (hr.set hi _).send _ fun _ => id⟩
    · rw [if_neg hc]
      exact ⟨_, _, .late (.inr h3), hr.set hi _⟩
  rw [if_neg h3] at h
  by_cases h4 : m.kind = 4
  · rw [if_pos h4] at h
    subst h
    unfold Gr.acceptedOf
    cases hc : (G.at_ i m.slot).cnts m true with
    | none => exact ⟨_, _, .stay, hr⟩
    | some d2 =>
      simp only
      by_cases hl : d2.ans.length = G.nds.length / 2 + 1
      · rw [if_pos hl]
        exact ⟨_, _, .done d2 h4 hc hl, (hr.set hi { G.at_ i m.slot with bid := none }).sendAll ⟨5, m.dst, 0, m.slot, m.bal, bal0, d2.text⟩⟩
      · rw [if_neg hl]
        exact ⟨_, _, .ans2 d2 h4 hc hl, hr.set hi _⟩
  rw [if_neg h4] at h
  by_cases h5 : m.kind = 5
  · rw [if_pos h5] at h
    subst h
    unfold Gr.learn
    cases hc : (G.at_ i m.slot).is with
    | true => exact ⟨_, _, .stay, by rw [if_pos rfl]; exact hr⟩
    | false => exact ⟨_, _, .learn h5 hc, by rw [if_neg (by simp)]; exact hr.set hi _⟩
  rw [if_neg h5] at h
  subst h
  refine ⟨_, _, .told, ?_⟩
  unfold Gr.ask
  exact Gr.tell_eff G m 8 m.slot G G (Int.le_refl _) ⟨hr.at_, hr.len, hr.up, fun m h => .inl h, hr.room⟩ fun _ h => h
theorem HRel.of_eq {G G' : Gr} {i : Nat} {x : Sl} {m : Ml} {x' : Sl} {new : Ml → Prop} (hl : G'.nds.length = G.nds.length) (hs : ∀ t, G'.st m.dst t = G.st m.dst t) (h : HRel G' i x m x' new) : HRel G i x m x' new := by
  cases h with
  | stay => exact .stay
  | late h => exact .late h
  | prep h1 h2 => exact .prep h1 h2
  | acc h1 h2 => exact .acc h1 h2
  | ans1 d2 h1 h2 h3 => exact .ans1 d2 h1 h2 (hl ▸ h3)
  | won d2 best h1 h2 h3 h4 => rw [hl]; exact .won d2 best h1 h2 (hl ▸ h3) h4
  | ans2 d2 h1 h2 h3 => exact .ans2 d2 h1 h2 (hl ▸ h3)
  | done d2 h1 h2 h3 => rw [hl]; exact .done d2 h1 h2 (hl ▸ h3)
  | learn h1 h2 => exact .learn h1 h2
  | told =>
    have : (fun m' => ∃ t : Int, m.slot ≤ t ∧ (G'.st m.dst t).is = true ∧ m' = (⟨5, m.dst, m.fr, t, bal0, bal0, (G'.st m.dst t).text⟩ : Ml)) = (fun m' => ∃ t : Int, m.slot ≤ t ∧ (G.st m.dst t).is = true ∧ m' = ⟨5, m.dst, m.fr, t, bal0, bal0, (G.st m.dst t).text⟩) := by
      funext m'
      simp only [hs]
    rw [this]
    exact .told
theorem Gr.gone_mem {G : Gr} {k : Nat} {m : Ml} (h : m ∈ (G.gone k).mail) : m ∈ G.mail := by
  rcases List.mem_append.1 h with h | h
  · exact List.mem_of_mem_take h
  · exact List.mem_of_mem_drop h
theorem Gr.gone_len (G : Gr) (k : Nat) : (G.gone k).mail.length ≤ G.mail.length := by
  show (G.mail.take k ++ G.mail.drop (k + 1)).length ≤ _
  simp; omega
theorem Deliver_eff {G G' : Gr} {k : Nat} {m : Ml} (hd : 0 ≤ m.dst ∧ m.dst < G.nds.length) (h : G.Deliver k m G') : ∃ x' new, HRel G m.dst.toNat (G.at_ m.dst.toNat m.slot) m x' new ∧ Eff m.dst.toNat m.slot x' new G G' := by
  have hi : m.dst.toNat < G.nds.length := by omega
  have hg : Eff m.dst.toNat m.slot (G.at_ m.dst.toNat m.slot) no1 G (G.gone k) := (Eff.refl m.dst.toNat m.slot (G.gone k)).of_less rfl (fun m h => Gr.gone_mem h) (Gr.gone_len _ _)
  unfold Gr.Deliver at h
  by_cases hu : (G.nd m.dst.toNat).up = true
  · rw [if_pos hu] at h
    have ht : Eff m.dst.toNat m.slot ((G.gone k).at_ m.dst.toNat m.slot) no1 (G.gone k) ((G.gone k).touch m.dst.toNat m.slot) := Eff.touch hi
    have hlen : ((G.gone k).touch m.dst.toNat m.slot).nds.length = G.nds.length := Gr.touch_len _ _ _
    have hat : ∀ j t, ((G.gone k).touch m.dst.toNat m.slot).at_ j t = G.at_ j t := fun j t => Gr.at_touch (G.gone k) _ j _ t hi
    have h' : ((G.gone k).touch m.dst.toNat m.slot).Handle m.dst.toNat m.slot (((G.gone k).touch m.dst.toNat m.slot).at_ m.dst.toNat m.slot) m G' := by
      rw [Gr.at_touch (G.gone k) _ _ _ _ hi]; exact h
    obtain ⟨x', new, hr, he⟩ := Handle_eff (by rw [hlen]; exact hi) h'
    rw [hat] at hr
    refine ⟨x', new, hr.of_eq hlen fun t => ?_, hg.after (ht.after he)⟩
    unfold Gr.st
    rw [hlen, hat]
  · rw [if_neg hu] at h
    subst h
    exact ⟨_, _, .stay, hg⟩

end Go.Proofs.Ytbgopicpdpkccaa

namespace Go.Proofs.Ytbgopicpdpkccaa
open Go.RowKit
set_option linter.unusedVariables false
set_option linter.unusedSimpArgs false

def Bal.lt (a b : Bal) : Prop := a.rd < b.rd ∨ a.rd = b.rd ∧ a.nd < b.nd
def Bal.le (a b : Bal) : Prop := a.rd < b.rd ∨ a.rd = b.rd ∧ a.nd ≤ b.nd
theorem Bal.eq_of {a b : Bal} (h1 : a.rd = b.rd) (h2 : a.nd = b.nd) : a = b := by cases a; cases b; simp_all
theorem Bal.refl (a : Bal) : Bal.le a a := .inr ⟨rfl, Int.le_refl _⟩
theorem Bal.trans {a b c : Bal} (h1 : Bal.le a b) (h2 : Bal.le b c) : Bal.le a c := by unfold Bal.le at *; omega
theorem Bal.lt_le {a b c : Bal} (h1 : Bal.lt a b) (h2 : Bal.le b c) : Bal.lt a c := by unfold Bal.le Bal.lt at *; omega
theorem Bal.le_lt {a b c : Bal} (h1 : Bal.le a b) (h2 : Bal.lt b c) : Bal.lt a c := by unfold Bal.le Bal.lt at *; omega
theorem Bal.not_lt {a b : Bal} (h1 : Bal.le a b) (h2 : Bal.lt b a) : False := by unfold Bal.le Bal.lt at *; omega
theorem Bal.tri (a b : Bal) : Bal.lt a b ∨ a = b ∨ Bal.lt b a := by
  by_cases h1 : a.rd < b.rd
  · exact .inl (.inl h1)
  by_cases h2 : b.rd < a.rd
  · exact .inr (.inr (.inl h2))
  have e : a.rd = b.rd := by omega
  by_cases h3 : a.nd < b.nd
  · exact .inl (.inr ⟨e, h3⟩)
  by_cases h4 : b.nd < a.nd
  · exact .inr (.inr (.inr ⟨e.symm, h4⟩))
  exact .inr (.inl (Bal.eq_of e (by omega)))
theorem Bal.le_of_not {a b : Bal} (h : ¬ Bal.lt b a) : Bal.le a b := by unfold Bal.le Bal.lt at *; omega
theorem cmp_le {a b : Bal} (h : 0 ≤ cmpB a b) : Bal.le b a := by
  by_cases hc : cmpB a b ≤ 0
  · have e : cmpB a b = 0 := by omega
    have := cmpB_le.1 hc
    unfold cmpB orI at e
    unfold Bal.le
    rcases c3_cases a.rd b.rd with ⟨h1, h2⟩ | ⟨h1, h2⟩ | ⟨h1, h2⟩
    · rw [h2] at e; simp at e
    · exact .inl h1
    · rw [h2] at e; simp at e
      rcases c3_cases a.nd b.nd with ⟨h3, h4⟩ | ⟨h3, h4⟩ | ⟨h3, h4⟩
      · rw [h4] at e; simp at e
      · exact .inr ⟨h1.symm, by omega⟩
      · exact .inr ⟨h1.symm, by omega⟩
  · rw [cmpB_le] at hc
    unfold Bal.le
    omega
/-- what was asked to be accepted, who accepted what -/
structure Gho where
  P : Bal → ByteArray → Prop
  A : Nat → Bal → Prop
def IsQ (N : Nat) (l : List Nat) : Prop := l.Nodup ∧ (∀ f ∈ l, f < N) ∧ l.length = N / 2 + 1
theorem nodup_le {N : Nat} {l : List Nat} (h1 : l.Nodup) (h2 : ∀ f ∈ l, f < N) : l.length ≤ N := by
  induction N generalizing l with
  | zero =>
    cases l with
    | nil => simp
    | cons a l => exact absurd (h2 a List.mem_cons_self) (by omega)
  | succ N ih =>
    have h3 := ih (l := l.erase N) (h1.erase N) fun f hf => by
      have := h1.mem_erase_iff.1 hf
      have := h2 f this.2
      omega
    have := List.length_erase (a := N) (l := l)
    split at this <;> omega
theorem quorum_meet {N : Nat} {l l' : List Nat} (h : IsQ N l) (h' : IsQ N l') : ∃ f, f ∈ l ∧ f ∈ l' := by
  by_cases hd : ∃ f, f ∈ l ∧ f ∈ l'
  · exact hd
  · have hn : (l ++ l').Nodup := List.nodup_append.2 ⟨h.1, h'.1, fun a ha b hb e => hd ⟨a, ha, e ▸ hb⟩⟩
    have := nodup_le hn (N := N) fun f hf => (List.mem_append.1 hf).elim (h.2.1 f) (h'.2.1 f)
    rw [List.length_append, h.2.2, h'.2.2] at this
    omega
section
variable (s : Int) (pr : ByteArray → Prop) (G : Gr) (g : Gho)
def Dead (c : Bal) : Prop := ∃ l, IsQ G.nds.length l ∧ ∀ f ∈ l, ¬ g.A f c ∧ Bal.lt c (G.at_ f s).prom
def Chos (t : ByteArray) : Prop := ∃ b l, g.P b t ∧ IsQ G.nds.length l ∧ ∀ f ∈ l, g.A f b
def Own (b : Bal) : Prop := 0 ≤ b.nd ∧ b.nd < G.nds.length ∧ 1 ≤ b.rd ∧ b.rd ≤ (G.at_ b.nd.toNat s).rd
def Prm (b : Bal) (f : Int) (v : Vt) : Prop := 0 ≤ f ∧ f < G.nds.length ∧ Bal.le b (G.at_ f.toNat s).prom ∧ (v = vt0 ∨ g.A f.toNat v.bal ∧ g.P v.bal v.text) ∧ ∀ c, g.A f.toNat c → Bal.lt c b → Bal.le c v.bal
/-- what holds of a bid -/
def BidOk (n : Nat) (x : Sl) (d : Bd) : Prop := d.bal.nd = n ∧ 1 ≤ d.bal.rd ∧ d.bal.rd ≤ x.rd ∧ Once d.ans ∧ (d.acc = false → pr d.text ∧ (∀ t, ¬ g.P d.bal t) ∧ ∀ p ∈ d.ans, Prm s G g d.bal p.1 p.2) ∧ (d.acc = true → g.P d.bal d.text ∧ ∀ p ∈ d.ans, 0 ≤ p.1 ∧ p.1 < G.nds.length ∧ g.A p.1.toNat d.bal)
structure NodeOk (n : Nat) (x : Sl) : Prop where
  rd0 : 0 ≤ x.rd
  acc : x.accd = vt0 ∨ g.A n x.accd.bal ∧ g.P x.accd.bal x.accd.text
  accp : Bal.le x.accd.bal x.prom
  vote : ∀ b, g.A n b → Bal.le b x.accd.bal
  bid : ∀ d, x.bid = some d → BidOk s pr G g n x d
  lrnd : x.is = true → Chos G g x.text
structure MsgOk (m : Ml) : Prop where
  prom : m.kind = 2 → Prm s G g m.bal m.fr ⟨m.had, m.text⟩
  acpt : m.kind = 3 → g.P m.bal m.text
  acpd : m.kind = 4 → 0 ≤ m.fr ∧ m.fr < G.nds.length ∧ g.A m.fr.toNat m.bal
  lern : m.kind = 5 → Chos G g m.text
structure NewP (b : Bal) (t : ByteArray) : Prop where
  own : Own s G b
  pr_ : pr t
  fun_ : ∀ t', g.P b t' → t' = t
  safe : ∀ c, Bal.lt c b → Dead s G g c ∨ g.P c t
structure Safe (K : ByteArray → Prop) : Prop where
  ps : ∀ b t, g.P b t → NewP s pr G g b t
  aP : ∀ n b, g.A n b → ∃ t, g.P b t
  node : ∀ n, n < G.nds.length → NodeOk s pr G g n (G.at_ n s)
  msg : ∀ m ∈ G.mail, m.slot = s → MsgOk s G g m
  know : ∀ t, K t → Chos G g t
end
structure Grow (s : Int) (G : Gr) (g : Gho) (G' : Gr) (g' : Gho) : Prop where
  len : G'.nds.length = G.nds.length
  rd : ∀ n, (G.at_ n s).rd ≤ (G'.at_ n s).rd
  prom : ∀ n, Bal.le (G.at_ n s).prom (G'.at_ n s).prom
  P : ∀ b t, g.P b t → g'.P b t
  A : ∀ n b, g.A n b → g'.A n b
  new : ∀ n b, g'.A n b → g.A n b ∨ Bal.le (G.at_ n s).prom b
section
variable {s : Int} {pr K : ByteArray → Prop} {G G' : Gr} {g g' : Gho}
theorem Dead.grow (h : Grow s G g G' g') {c : Bal} (hd : Dead s G g c) : Dead s G' g' c := by
  obtain ⟨l, hl, hf⟩ := hd
  refine ⟨l, by rw [h.len]; exact hl, fun f hm => ?_⟩
  obtain ⟨h1, h2⟩ := hf f hm
  exact ⟨fun ha => (h.new f c ha).elim h1 fun hle => Bal.not_lt hle h2, Bal.lt_le h2 (h.prom f)⟩
theorem Chos.grow (h : Grow s G g G' g') {t : ByteArray} (hd : Chos G g t) : Chos G' g' t := by
  obtain ⟨b, l, h1, h2, h3⟩ := hd
  exact ⟨b, l, h.P _ _ h1, by rw [h.len]; exact h2, fun f hf => h.A _ _ (h3 f hf)⟩
theorem Own.grow (h : Grow s G g G' g') {b : Bal} (hd : Own s G b) : Own s G' b := ⟨hd.1, by rw [h.len]; exact hd.2.1, hd.2.2.1, Int.le_trans hd.2.2.2 (h.rd _)⟩
theorem Prm.grow (h : Grow s G g G' g') {b : Bal} {f : Int} {v : Vt} (hd : Prm s G g b f v) : Prm s G' g' b f v := by
  obtain ⟨h1, h2, h3, h4, h5⟩ := hd
  refine ⟨h1, by rw [h.len]; exact h2, Bal.trans h3 (h.prom _), h4.imp id fun h4 => ⟨h.A _ _ h4.1, h.P _ _ h4.2⟩, fun c hc hlt => ?_⟩
  rcases h.new _ _ hc with ha | ha
  · exact h5 c ha hlt
  · exact (Bal.not_lt (Bal.trans h3 ha) hlt).elim
theorem BidOk.grow (h : Grow s G g G' g') {pr' : ByteArray → Prop} (hpr : ∀ t, pr t → pr' t) {n : Nat} {x x' : Sl} {d : Bd} (hd : BidOk s pr G g n x d) (hr : x.rd ≤ x'.rd) (hp : d.acc = false → ∀ t, g'.P d.bal t → g.P d.bal t) : BidOk s pr' G' g' n x' d := by
  obtain ⟨h1, h2, h3, h4, h5, h6⟩ := hd
  refine ⟨h1, h2, Int.le_trans h3 hr, h4, fun ha => ?_, fun ha => ?_⟩
  · obtain ⟨a1, a2, a3⟩ := h5 ha
    exact ⟨hpr _ a1, fun t ht => a2 t (hp ha t ht), fun p hp => (a3 p hp).grow h⟩
  · obtain ⟨a1, a2⟩ := h6 ha
    exact ⟨h.P _ _ a1, fun p hp => ⟨(a2 p hp).1, by rw [h.len]; exact (a2 p hp).2.1, h.A _ _ (a2 p hp).2.2⟩⟩
theorem NodeOk.grow (h : Grow s G g G' g') {pr' : ByteArray → Prop} (hpr : ∀ t, pr t → pr' t) {n : Nat} {x : Sl} (hd : NodeOk s pr G g n x) (ha : ∀ b, g'.A n b → g.A n b) (hp : ∀ d, x.bid = some d → d.acc = false → ∀ t, g'.P d.bal t → g.P d.bal t) : NodeOk s pr' G' g' n x :=
  ⟨hd.rd0, hd.acc.imp id fun h4 => ⟨h.A _ _ h4.1, h.P _ _ h4.2⟩, hd.accp, fun b hb => hd.vote b (ha b hb), fun d hx => (hd.bid d hx).grow h hpr (Int.le_refl _) (hp d hx), fun hi => (hd.lrnd hi).grow h⟩
theorem MsgOk.grow (h : Grow s G g G' g') {m : Ml} (hd : MsgOk s G g m) : MsgOk s G' g' m :=
  ⟨fun e => (hd.prom e).grow h, fun e => h.P _ _ (hd.acpt e), fun e => ⟨(hd.acpd e).1, by rw [h.len]; exact (hd.acpd e).2.1, h.A _ _ (hd.acpd e).2.2⟩, fun e => (hd.lern e).grow h⟩
theorem NewP.grow (h : Grow s G g G' g') {pr' : ByteArray → Prop} (hpr : ∀ t, pr t → pr' t) {b : Bal} {t : ByteArray} (hd : NewP s pr G g b t) (hf : ∀ t', g'.P b t' → t' = t) : NewP s pr' G' g' b t :=
  ⟨hd.own.grow h, hpr _ hd.pr_, hf, fun c hc => (hd.safe c hc).imp (Dead.grow h) (h.P _ _)⟩
/-- the frame: what changed, in one place -/
theorem Safe.next (h : Safe s pr G g K) (hg : Grow s G g G' g') {pr' : ByteArray → Prop} (hpr : ∀ t, pr t → pr' t)
    (hP : ∀ b t, g'.P b t → g.P b t ∨ NewP s pr' G' g' b t) (hPf : ∀ b t t', g.P b t → g'.P b t' → t' = t) (hA : ∀ n b, g'.A n b → g.A n b ∨ ∃ t, g'.P b t)
    (hn : ∀ n, n < G.nds.length → NodeOk s pr' G' g' n (G'.at_ n s)) (hm : ∀ m ∈ G'.mail, m.slot = s → m ∈ G.mail ∨ MsgOk s G' g' m) : Safe s pr' G' g' K :=
  ⟨fun b t hb => (hP b t hb).elim (fun hb => (h.ps b t hb).grow hg hpr fun t' ht' => hPf b t t' hb ht') id,
   fun n b hb => (hA n b hb).elim (fun hb => (h.aP n b hb).imp fun t => hg.P b t) id,
   fun n hl => hn n (by rw [← hg.len]; exact hl),
   fun m hm' hs => (hm m hm' hs).elim (fun hx => (h.msg m hx hs).grow hg) id,
   fun t ht => (h.know t ht).grow hg⟩
/-- nothing said or voted anew -/
theorem Safe.calm (h : Safe s pr G g K) {pr' : ByteArray → Prop} (hpr : ∀ t, pr t → pr' t) (hl : G'.nds.length = G.nds.length)
    (hr : ∀ n, (G.at_ n s).rd ≤ (G'.at_ n s).rd) (hp : ∀ n, Bal.le (G.at_ n s).prom (G'.at_ n s).prom)
    (hn : Grow s G g G' g → ∀ n, n < G.nds.length → G'.at_ n s = G.at_ n s ∨ NodeOk s pr' G' g n (G'.at_ n s)) (hm : Grow s G g G' g → ∀ m ∈ G'.mail, m.slot = s → m ∈ G.mail ∨ MsgOk s G' g m) : Safe s pr' G' g K := by
  have hg : Grow s G g G' g := ⟨hl, hr, hp, fun _ _ => id, fun _ _ => id, fun _ _ => .inl⟩
  refine h.next hg hpr (fun _ _ => .inl) (fun b t t' h1 h2 => (h.ps b t h1).fun_ t' h2) (fun _ _ => .inl) (fun n hn' => ?_) (hm hg)
  rcases hn hg n hn' with e | e
  · rw [e]; exact (h.node n hn').grow hg hpr (fun _ => id) fun _ _ _ _ => id
  · exact e
/-- agreement -/
theorem Safe.one_lt (h : Safe s pr G g K) {b b' : Bal} {t t' : ByteArray} {l : List Nat} (h1 : g.P b t) (hq : IsQ G.nds.length l) (hl : ∀ f ∈ l, g.A f b) (h2 : g.P b' t') (hlt : Bal.lt b b') : t = t' := by
  rcases (h.ps b' t' h2).safe b hlt with ⟨l', hq', hd⟩ | hp
  · obtain ⟨f, hf, hf'⟩ := quorum_meet hq hq'
    exact absurd (hl f hf) (hd f hf').1
  · exact (h.ps b t' hp).fun_ t h1
theorem Safe.one (h : Safe s pr G g K) {t t' : ByteArray} (h1 : Chos G g t) (h2 : Chos G g t') : t = t' := by
  obtain ⟨b, l, h1, hq, hl⟩ := h1
  obtain ⟨b', l', h2, hq', hl'⟩ := h2
  rcases Bal.tri b b' with hlt | rfl | hlt
  · exact h.one_lt h1 hq hl h2 hlt
  · exact (h.ps b t' h2).fun_ t h1
  · exact (h.one_lt h2 hq' hl' h1 hlt).symm
theorem Safe.pr_of (h : Safe s pr G g K) {t : ByteArray} (h1 : Chos G g t) : pr t := by
  obtain ⟨b, l, h1, _⟩ := h1
  exact (h.ps b t h1).pr_
theorem Safe.more (h : Safe s pr G g K) {t : ByteArray} (h1 : Chos G g t) : Safe s pr G g (fun t' => K t' ∨ t' = t) :=
  { h with know := fun t' ht => ht.elim (h.know t') (fun e => e ▸ h1) }
/-- the text that a majority's answers leave is safe -/
theorem won_safe (h : Safe s pr G g K) {n : Nat} {x : Sl} {d : Bd} {best : Vt} (hb : BidOk s pr G g n x d) (hn : n < G.nds.length) (hr : x.rd = (G.at_ n s).rd) (ha : d.acc = false) (hl : d.ans.length = G.nds.length / 2 + 1) (hbest : IsBest d.ans d.text best) : NewP s pr G g d.bal best.text := by
  obtain ⟨h1, h2, h3, h4, h5, _⟩ := hb
  obtain ⟨a1, a2, a3⟩ := h5 ha
  have hq : IsQ G.nds.length (d.ans.map fun p => p.1.toNat) := by
    refine ⟨?_, fun f hf => ?_, by simpa using hl⟩
    · unfold Once List.Nodup at h4
      unfold List.Nodup
      rw [List.pairwise_map] at h4 ⊢
      refine h4.imp_of_mem fun {p q} hp hq hne he => hne ?_
      have hp := (a3 p hp).1
      have hq := (a3 q hq).1
      omega
    · obtain ⟨p, hp, rfl⟩ := List.mem_map.1 hf
      have := a3 p hp
      have h1 := this.1
      have h2 := this.2.1
      omega
  have hown : Own s G d.bal := ⟨by omega, by omega, h2, by rw [h1, Int.toNat_natCast, ← hr]; exact h3⟩
  have hrd : ∀ n c, g.A n c → 1 ≤ c.rd := fun n c hc => by
    obtain ⟨t, ht⟩ := h.aP n c hc
    exact (h.ps c t ht).own.2.2.1
  have hdead : ∀ c, Bal.lt c d.bal → (∀ f : Nat, 1 ≤ c.rd → Bal.le c best.bal → False) → Dead s G g c := fun c hc hno => by
    refine ⟨_, hq, fun f hf => ?_⟩
    obtain ⟨p, hp, rfl⟩ := List.mem_map.1 hf
    obtain ⟨p1, p2, p3, p4, p5⟩ := a3 p hp
    refine ⟨fun hA => ?_, Bal.lt_le hc p3⟩
    have hc1 := hrd _ _ hA
    have hle := p5 c hA hc
    have hpos : 0 < p.2.bal.rd := by unfold Bal.le at hle; omega
    have hb := cmpB_le.1 (hbest.2 p hp hpos)
    exact hno 0 hc1 (Bal.trans hle hb)
  rcases hbest.1 with rfl | ⟨p, hp, rfl, hpos⟩
  · exact ⟨hown, a1, fun t' ht' => absurd ht' (a2 t'), fun c hc => .inl (hdead c hc fun f h1 h2 => by
      unfold Bal.le bal0 at h2
      simp only at h2
      omega)⟩
  · obtain ⟨p1, p2, p3, p4, p5⟩ := a3 p hp
    have hP : g.A p.1.toNat p.2.bal ∧ g.P p.2.bal p.2.text := by
      rcases p4 with h0 | h0
      · rw [h0] at hpos; exact absurd hpos (by decide)
      · exact h0
    refine ⟨hown, (h.ps _ _ hP.2).pr_, fun t' ht' => absurd ht' (a2 t'), fun c hc => ?_⟩
    rcases Bal.tri c p.2.bal with hlt | rfl | hlt
    · exact (h.ps _ _ hP.2).safe c hlt
    · exact .inr hP.2
    · exact .inl (hdead c hc fun f h1 h2 => Bal.not_lt h2 hlt)
end

end Go.Proofs.Ytbgopicpdpkccaa

namespace Go.Proofs.Ytbgopicpdpkccaa
open Go.RowKit
set_option linter.unusedVariables false
set_option linter.unusedSimpArgs false

theorem maxI_le (a b : Int) : a ≤ maxI a b := by unfold maxI; split <;> omega
section
variable {s : Int} {pr K : ByteArray → Prop} {G G' : Gr} {g : Gho} {i : Nat} {m : Ml} {x' : Sl} {new : Ml → Prop}
theorem HRel.slot {x : Sl} (h : HRel G i x m x' new) {m' : Ml} (hn : new m') : m'.slot = m.slot ∨ m'.kind = 5 ∧ ∃ t, (G.st m.dst t).is = true ∧ m'.slot = t ∧ m'.text = (G.st m.dst t).text := by
  cases h with
  | stay => exact hn.elim
  | late _ => exact hn.elim
  | prep _ _ => rcases hn with hn | rfl; exact hn.elim; exact .inl rfl
  | acc _ _ => rcases hn with hn | rfl; exact hn.elim; exact .inl rfl
  | ans1 _ _ _ _ => exact hn.elim
  | won _ _ _ _ _ _ => obtain ⟨j, _, rfl⟩ := hn; exact .inl rfl
  | ans2 _ _ _ _ => exact hn.elim
  | done _ _ _ _ => obtain ⟨j, _, rfl⟩ := hn; exact .inl rfl
  | learn _ _ => exact hn.elim
  | told => obtain ⟨t, _, h2, rfl⟩ := hn; exact .inr ⟨rfl, t, h2, rfl, rfl⟩
/-- at another slot -/
theorem Safe.other (h : Safe s pr G g K) (hr : HRel G i (G.at_ i m.slot) m x' new) (he : Eff i m.slot x' new G G') (hne : m.slot ≠ s) : Safe s pr G' g K := by
  have hat : ∀ n, G'.at_ n s = G.at_ n s := fun n => by rw [he.at_, if_neg fun e => hne e.2.symm]
  refine h.calm (fun _ => id) he.len (fun n => by rw [hat]; exact Int.le_refl _) (fun n => by rw [hat]; exact Bal.refl _) (fun _ n _ => .inl (hat n)) fun hg m' hm hs => ?_
  rcases he.mail m' hm with hm | hn
  · exact .inl hm
  · refine .inr ?_
    rcases hr.slot hn with e | ⟨hk, t, h1, h2, h3⟩
    · exact absurd (e.symm.trans hs) hne
    · refine ⟨fun e => by omega, fun e => by omega, fun e => by omega, fun _ => ?_⟩
      rw [h3]
      have e : t = s := h2.symm.trans hs
      subst e
      unfold Gr.st at h1 ⊢
      split at h1
      · rename_i hd
        rw [if_pos hd]
        exact ((h.node m.dst.toNat (by omega)).lrnd h1).grow hg
      · exact absurd h1 (by decide)
theorem Safe.handle (h : Safe s pr G g K) (hm : m ∈ G.mail) (hd : 0 ≤ m.dst ∧ m.dst < G.nds.length) (hi : m.dst.toNat = i) (hr : HRel G i (G.at_ i m.slot) m x' new) (he : Eff i m.slot x' new G G') : ∃ g', Safe s pr G' g' K := by
  by_cases hs : m.slot = s
  case neg => exact ⟨g, h.other hr he hs⟩
  subst hs
  have hin : i < G.nds.length := by omega
  have hdi : m.dst = (i : Int) := by omega
  have hat : ∀ n, n ≠ i → G'.at_ n m.slot = G.at_ n m.slot := fun n hn => by rw [he.at_, if_neg fun e => hn e.1]
  have hati : G'.at_ i m.slot = x' := by rw [he.at_, if_pos ⟨rfl, rfl⟩]
  have hx := h.node i hin
  have hmo := h.msg m hm rfl
  generalize hX : G.at_ i m.slot = x at *
  -- no new word, no new vote
  have calm : x.rd ≤ x'.rd → Bal.le x.prom x'.prom → (Grow m.slot G g G' g → x' = x ∨ NodeOk m.slot pr G' g i x') → (Grow m.slot G g G' g → ∀ m', new m' → m'.slot = m.slot → MsgOk m.slot G' g m') → ∃ g', Safe m.slot pr G' g' K := by
    intro h1 h2 h3 h4
    refine ⟨g, h.calm (fun _ => id) he.len (fun n => ?_) (fun n => ?_) (fun hg n hn => ?_) fun hg m' hm' hs' => ?_⟩
    · by_cases e : n = i
      · rw [e, hati, hX]; exact h1
      · rw [hat n e]; exact Int.le_refl _
    · by_cases e : n = i
      · rw [e, hati, hX]; exact h2
      · rw [hat n e]; exact Bal.refl _
    · by_cases e : n = i
      · rw [e, hati, hX]; exact h3 hg
      · exact .inl (hat n e)
    · exact (he.mail m' hm').imp id fun hn => h4 hg m' hn hs'
  cases hr with
  | stay => exact calm (Int.le_refl _) (Bal.refl _) (fun _ => .inl rfl) fun _ _ hn => hn.elim
  | late _ =>
    refine calm (maxI_le _ _) (Bal.refl _) (fun hg => .inr ?_) fun _ _ hn => hn.elim
    have hk := hx.grow hg (fun _ => id) (fun _ => id) fun _ _ _ _ => id
    exact ⟨Int.le_trans hk.rd0 (maxI_le _ _), hk.acc, hk.accp, hk.vote, fun d hd => (hx.bid d hd).grow hg (fun _ => id) (maxI_le _ _) fun _ _ => id, hk.lrnd⟩
  | prep hk1 hc =>
    have hle := cmp_le hc
    refine calm (maxI_le _ _) hle (fun hg => .inr ?_) fun hg m' hn _ => ?_
    · have hk := hx.grow hg (fun _ => id) (fun _ => id) fun _ _ _ _ => id
      exact ⟨Int.le_trans hk.rd0 (maxI_le _ _), hk.acc, Bal.trans hk.accp hle, hk.vote, fun d hd => (hx.bid d hd).grow hg (fun _ => id) (maxI_le _ _) fun _ _ => id, hk.lrnd⟩
    · rcases hn with hn | rfl
      · exact hn.elim
      refine ⟨fun _ => ?_, fun e => by simp at e, fun e => by simp at e, fun e => by simp at e⟩
      refine ⟨hd.1, by rw [he.len]; exact hd.2, ?_, ?_, fun c hA hlt => ?_⟩
      · simp only
        rw [hi, hati]
        exact Bal.refl _
      · simp only
        rw [hi]
        exact hx.acc
      · simp only at hA ⊢
        rw [hi] at hA
        exact hx.vote c hA
  | acc hk3 hc =>
    have hle := cmp_le hc
    have hP := hmo.acpt hk3
    have hg : Grow m.slot G g G' ⟨g.P, fun n b => g.A n b ∨ n = i ∧ b = m.bal⟩ := by
      refine ⟨he.len, fun n => ?_, fun n => ?_, fun _ _ => id, fun _ _ => .inl, fun n b hb => ?_⟩
      · by_cases e : n = i
        · rw [e, hati, hX]; exact maxI_le _ _
        · rw [hat n e]; exact Int.le_refl _
      · by_cases e : n = i
        · rw [e, hati, hX]; exact hle
        · rw [hat n e]; exact Bal.refl _
      · rcases hb with hb | ⟨rfl, rfl⟩
        · exact .inl hb
        · exact .inr (by rw [hX]; exact hle)
    refine ⟨_, h.next hg (fun _ => id) (fun b t hb => .inl hb) (fun b t t' h1 h2 => (h.ps b t h1).fun_ t' h2) (fun n b hb => hb.imp id fun e => ⟨m.text, by rw [e.2]; exact hP⟩) (fun n hn => ?_) fun m' hm' hs' => ?_⟩
    · by_cases e : n = i
      · subst e
        rw [hati]
        refine ⟨Int.le_trans hx.rd0 (maxI_le _ _), .inr ⟨.inr ⟨rfl, rfl⟩, hP⟩, Bal.refl _, fun b hb => ?_, fun d hd => (hx.bid d hd).grow hg (fun _ => id) (maxI_le _ _) fun _ _ => id, fun hl => (hx.lrnd hl).grow hg⟩
        rcases hb with hb | ⟨_, rfl⟩
        · exact Bal.trans (hx.vote b hb) (Bal.trans hx.accp hle)
        · exact Bal.refl _
      · rw [hat n e]
        exact (h.node n hn).grow hg (fun _ => id) (fun b hb => hb.elim id fun e' => absurd e'.1 e) fun _ _ _ _ => id
    · refine (he.mail m' hm').imp id fun hn => ?_
      rcases hn with hn | rfl
      · exact hn.elim
      refine ⟨fun e => by simp at e, fun e => by simp at e, fun e => ?_, fun e => by simp at e⟩
      exact ⟨hd.1, by rw [he.len]; exact hd.2, .inr ⟨hi, rfl⟩⟩
  | ans1 d2 hk2 hc hl =>
    refine calm (Int.le_refl _) (Bal.refl _) (fun hg => .inr ?_) fun _ _ hn => hn.elim
    have hk := hx.grow hg (fun _ => id) (fun _ => id) fun _ _ _ _ => id
    refine ⟨hk.rd0, hk.acc, hk.accp, hk.vote, fun d hd' => ?_, hk.lrnd⟩
    simp only [Option.some.injEq] at hd'
    subst hd'
    obtain ⟨d, h1, h2, h3, h4, rfl⟩ := Sl.cnts_some hc
    obtain ⟨b1, b2, b3, b4, b5, b6⟩ := hk.bid d h1
    refine ⟨b1, b2, b3, b4.set, fun ha => ⟨(b5 ha).1, (b5 ha).2.1, fun p hp => ?_⟩, fun ha => by simp only at ha; rw [h3] at ha; cases ha⟩
    rcases setA_mem hp with rfl | hp
    · simp only
      rw [h2]
      exact (hmo.prom hk2).grow hg
    · exact (b5 ha).2.2 p hp
  | won d2 best hk2 hc hl hb =>
    obtain ⟨d, h1, h2, h3, h4, he2⟩ := Sl.cnts_some hc
    have hbo : BidOk m.slot pr G g i x d2 := by
      obtain ⟨b1, b2, b3, b4, b5, b6⟩ := hx.bid d h1
      subst he2
      refine ⟨b1, b2, b3, b4.set, fun ha => ⟨(b5 ha).1, (b5 ha).2.1, fun p hp => ?_⟩, fun ha => by simp only at ha; rw [h3] at ha; cases ha⟩
      rcases setA_mem hp with rfl | hp
      · simp only
        rw [h2]
        exact hmo.prom hk2
      · exact (b5 ha).2.2 p hp
    have ha2 : d2.acc = false := by subst he2; exact h3
    have hnew := won_safe h hbo hin (by rw [hX]) ha2 hl hb
    have hnoP := (hbo.2.2.2.2.1 ha2).2.1
    have hg : Grow m.slot G g G' ⟨fun b t => g.P b t ∨ b = d2.bal ∧ t = best.text, g.A⟩ := by
      refine ⟨he.len, fun n => ?_, fun n => ?_, fun _ _ => .inl, fun _ _ => id, fun n b hb => .inl hb⟩
      · by_cases e : n = i
        · rw [e, hati, hX]; exact Int.le_refl _
        · rw [hat n e]; exact Int.le_refl _
      · by_cases e : n = i
        · rw [e, hati, hX]; exact Bal.refl _
        · rw [hat n e]; exact Bal.refl _
    refine ⟨_, h.next hg (fun _ => id) (fun b t hb => ?_) (fun b t t' h1 h2 => ?_) (fun n b hb => .inl hb) (fun n hn => ?_) fun m' hm' hs' => ?_⟩
    · rcases hb with hb | ⟨rfl, rfl⟩
      · exact .inl hb
      · refine .inr (hnew.grow hg (fun _ => id) fun t' ht' => ?_)
        rcases ht' with ht' | ⟨_, rfl⟩
        · exact absurd ht' (hnoP t')
        · rfl
    · rcases h2 with h2 | ⟨rfl, rfl⟩
      · exact (h.ps b t h1).fun_ t' h2
      · exact absurd h1 (hnoP t)
    · by_cases e : n = i
      · subst e
        rw [hati]
        refine ⟨hx.rd0, hx.acc.imp id fun ha => ⟨ha.1, .inl ha.2⟩, hx.accp, hx.vote, fun d' hd' => ?_, fun hl => (hx.lrnd hl).grow hg⟩
        simp only [Option.some.injEq] at hd'
        subst hd'
        refine ⟨hbo.1, hbo.2.1, hbo.2.2.1, List.nodup_nil, fun ha => (by cases ha), fun _ => ⟨.inr ⟨rfl, rfl⟩, fun p hp => by cases hp⟩⟩
      · rw [hat n e]
        refine (h.node n hn).grow hg (fun _ => id) (fun _ => id) fun d' hd' ha t ht => ?_
        rcases ht with ht | ⟨hb', _⟩
        · exact ht
        · have e1 := ((h.node n hn).bid d' hd').1
          have e2 := hbo.1
          rw [hb', e2] at e1
          exact absurd (by omega) e
    · refine (he.mail m' hm').imp id fun hn => ?_
      obtain ⟨j, _, rfl⟩ := hn
      exact ⟨fun e => by simp at e, fun _ => .inr ⟨rfl, rfl⟩, fun e => by simp at e, fun e => by simp at e⟩
  | ans2 d2 hk4 hc hl =>
    refine calm (Int.le_refl _) (Bal.refl _) (fun hg => .inr ?_) fun _ _ hn => hn.elim
    have hk := hx.grow hg (fun _ => id) (fun _ => id) fun _ _ _ _ => id
    refine ⟨hk.rd0, hk.acc, hk.accp, hk.vote, fun d hd' => ?_, hk.lrnd⟩
    simp only [Option.some.injEq] at hd'
    subst hd'
    obtain ⟨d, h1, h2, h3, h4, rfl⟩ := Sl.cnts_some hc
    obtain ⟨b1, b2, b3, b4, b5, b6⟩ := hk.bid d h1
    refine ⟨b1, b2, b3, b4.set, fun ha => (by simp only at ha; rw [h3] at ha; cases ha), fun ha => ⟨(b6 ha).1, fun p hp => ?_⟩⟩
    rcases setA_mem hp with rfl | hp
    · obtain ⟨a1, a2, a3⟩ := hmo.acpd hk4
      exact ⟨a1, by rw [he.len]; exact a2, by simp only; rw [h2]; exact a3⟩
    · exact (b6 ha).2 p hp
  | done d2 hk4 hc hl =>
    obtain ⟨d, h1, h2, h3, h4, he2⟩ := Sl.cnts_some hc
    have hb := hx.bid d h1
    have hch : Chos G g d2.text := by
      obtain ⟨b1, b2, b3, b4, b5, b6⟩ := hb
      obtain ⟨c1, c2⟩ := b6 h3
      have hall : ∀ p ∈ d2.ans, 0 ≤ p.1 ∧ p.1 < G.nds.length ∧ g.A p.1.toNat d.bal := fun p hp => by
        subst he2
        rcases setA_mem hp with rfl | hp
        · obtain ⟨a1, a2, a3⟩ := hmo.acpd hk4
          exact ⟨a1, a2, by simp only; rw [h2]; exact a3⟩
        · exact c2 p hp
      have hon : Once d2.ans := by subst he2; exact b4.set
      refine ⟨d.bal, d2.ans.map fun p => p.1.toNat, by subst he2; exact c1, ⟨?_, fun f hf => ?_, by simpa using hl⟩, fun f hf => ?_⟩
      · unfold Once List.Nodup at hon
        unfold List.Nodup
        rw [List.pairwise_map] at hon ⊢
        refine hon.imp_of_mem fun {p q} hp hq hne he => hne ?_
        have hp := (hall p hp).1
        have hq := (hall q hq).1
        omega
      · obtain ⟨p, hp, rfl⟩ := List.mem_map.1 hf
        have := hall p hp
        omega
      · obtain ⟨p, hp, rfl⟩ := List.mem_map.1 hf
        exact (hall p hp).2.2
    refine calm (Int.le_refl _) (Bal.refl _) (fun hg => .inr ?_) fun hg m' hn _ => ?_
    · have hk := hx.grow hg (fun _ => id) (fun _ => id) fun _ _ _ _ => id
      exact ⟨hk.rd0, hk.acc, hk.accp, hk.vote, fun d hd' => (by cases hd'), hk.lrnd⟩
    · obtain ⟨j, _, rfl⟩ := hn
      exact ⟨fun e => by simp at e, fun e => by simp at e, fun e => by simp at e, fun _ => hch.grow hg⟩
  | learn hk5 his =>
    refine calm (Int.le_refl _) (Bal.refl _) (fun hg => .inr ?_) fun _ _ hn => hn.elim
    have hk := hx.grow hg (fun _ => id) (fun _ => id) fun _ _ _ _ => id
    exact ⟨hk.rd0, hk.acc, hk.accp, hk.vote, fun d hd' => (hx.bid d hd').grow hg (fun _ => id) (Int.le_refl _) fun _ _ => id, fun _ => (hmo.lern hk5).grow hg⟩
  | told =>
    refine calm (Int.le_refl _) (Bal.refl _) (fun _ => .inl rfl) fun hg m' hn hs' => ?_
    obtain ⟨t, _, h2, rfl⟩ := hn
    simp only at hs'
    subst hs'
    refine ⟨fun e => by simp at e, fun e => by simp at e, fun e => by simp at e, fun _ => ?_⟩
    have hst : G.st m.dst m.slot = x' := by
      unfold Gr.st
      rw [if_pos hd, hi, hX]
    simp only
    rw [hst] at h2 ⊢
    exact (hx.lrnd h2).grow hg
end

end Go.Proofs.Ytbgopicpdpkccaa

namespace Go.Proofs.Ytbgopicpdpkccaa
open Go.RowKit
set_option linter.unusedVariables false
set_option linter.unusedSimpArgs false

structure MFit (N : Nat) (K : Int) (m : Ml) : Prop where
  kind : 1 ≤ m.kind ∧ m.kind ≤ 6
  dst : 0 ≤ m.dst ∧ m.dst < N
  fr : 0 ≤ m.fr ∧ m.fr < N
  slot : 0 ≤ m.slot ∧ m.slot < 256
  nd : 0 ≤ m.bal.nd ∧ m.bal.nd < N
  rd : 0 ≤ m.bal.rd ∧ m.bal.rd ≤ K
structure SFit (K : Int) (s : Int) (x : Sl) : Prop where
  rd : 0 ≤ x.rd ∧ x.rd ≤ K
  is : x.is = true → 0 ≤ s ∧ s < 256
structure Fit (N : Nat) (K : Int) (G : Gr) : Prop where
  len : G.nds.length = N
  room : G.mail.length ≤ 4096
  mail : ∀ m ∈ G.mail, MFit N K m
  node : ∀ i, i < N → ∀ s, SFit K s (G.at_ i s)
theorem MFit.mono {N : Nat} {K K' : Int} {m : Ml} (h : MFit N K m) (hk : K ≤ K') : MFit N K' m := { h with rd := ⟨h.rd.1, Int.le_trans h.rd.2 hk⟩ }
theorem SFit.mono {K K' s : Int} {x : Sl} (h : SFit K s x) (hk : K ≤ K') : SFit K' s x := { h with rd := ⟨h.rd.1, Int.le_trans h.rd.2 hk⟩ }
theorem Fit.mono {N : Nat} {K K' : Int} {G : Gr} (h : Fit N K G) (hk : K ≤ K') : Fit N K' G := ⟨h.len, h.room, fun m hm => (h.mail m hm).mono hk, fun i hi s => (h.node i hi s).mono hk⟩
section
variable {N : Nat} {K : Int} {G G' : Gr} {i : Nat} {s : Int} {m : Ml} {x x' : Sl} {new : Ml → Prop}
theorem Fit.eff (h : Fit N K G) {K' : Int} (hk : K ≤ K') (he : Eff i s x' new G G') (hx : SFit K' s x') (hn : ∀ m, new m → MFit N K' m) : Fit N K' G' := by
  refine ⟨he.len.trans h.len, he.room h.room, fun m hm => ?_, fun j hj t => ?_⟩
  · rcases he.mail m hm with hm | hm
    · exact (h.mail m hm).mono hk
    · exact hn m hm
  · rw [he.at_]
    by_cases e : j = i ∧ t = s
    · rw [if_pos e, e.2]; exact hx
    · rw [if_neg e]; exact (h.node j hj t).mono hk
theorem maxI_le2 {a b K : Int} (h1 : 0 ≤ a ∧ a ≤ K) (h2 : 0 ≤ b ∧ b ≤ K) : 0 ≤ maxI a b ∧ maxI a b ≤ K := by unfold maxI; split <;> assumption
theorem Fit.handle (h : Fit N K G) (hm : m ∈ G.mail) (hr : HRel G m.dst.toNat (G.at_ m.dst.toNat m.slot) m x' new) (he : Eff m.dst.toNat m.slot x' new G G') : Fit N K G' := by
  have hf := h.mail m hm
  obtain ⟨k1, k2, k3, k4, k5, k6⟩ := hf
  have hx := h.node m.dst.toNat (by omega) m.slot
  obtain ⟨x1, x2⟩ := hx
  generalize G.at_ m.dst.toNat m.slot = x at *
  refine h.eff (Int.le_refl _) he ?_ ?_
  · cases hr with
    | stay => exact ⟨x1, x2⟩
    | late _ => exact ⟨maxI_le2 x1 k6, x2⟩
    | prep _ _ => exact ⟨maxI_le2 x1 k6, x2⟩
    | acc _ _ => exact ⟨maxI_le2 x1 k6, x2⟩
    | ans1 _ _ _ _ => exact ⟨x1, x2⟩
    | won _ _ _ _ _ _ => exact ⟨x1, x2⟩
    | ans2 _ _ _ _ => exact ⟨x1, x2⟩
    | done _ _ _ _ => exact ⟨x1, x2⟩
    | learn _ _ => exact ⟨x1, fun _ => k4⟩
    | told => exact ⟨x1, x2⟩
  · intro m' hn
    cases hr with
    | stay => exact hn.elim
    | late _ => exact hn.elim
    | prep _ _ => rcases hn with hn | rfl; exact hn.elim; exact ⟨by simp, k5, k2, k4, k5, k6⟩
    | acc _ _ => rcases hn with hn | rfl; exact hn.elim; exact ⟨by simp, k5, k2, k4, k5, k6⟩
    | ans1 _ _ _ _ => exact hn.elim
    | won d2 _ _ hc _ _ =>
      obtain ⟨d, _, hb, _, _, rfl⟩ := Sl.cnts_some hc
      obtain ⟨j, hj, rfl⟩ := hn
      have hl := h.len
      refine ⟨by simp, ⟨by simp, by simp only; omega⟩, k2, k4, ?_, ?_⟩
      · simp only; rw [hb]; exact k5
      · simp only; rw [hb]; exact k6
    | ans2 _ _ _ _ => exact hn.elim
    | done d2 _ _ _ =>
      obtain ⟨j, hj, rfl⟩ := hn
      have hl := h.len
      exact ⟨by simp, ⟨by simp, by simp only; omega⟩, k2, k4, k5, k6⟩
    | learn _ _ => exact hn.elim
    | told =>
      obtain ⟨t, _, h2, rfl⟩ := hn
      unfold Gr.st at h2
      split at h2
      · have := (h.node m.dst.toNat (by omega) t).is h2
        exact ⟨by simp, k3, k2, this, ⟨by simp [bal0], by simp [bal0]; omega⟩, ⟨by simp [bal0], by simp [bal0]; omega⟩⟩
      · cases h2
theorem bid_eff (hi : i < G.nds.length) (t : ByteArray) : Eff i s { G.at_ i s with rd := (G.at_ i s).rd + 1, bid := some ⟨⟨(G.at_ i s).rd + 1, i⟩, t, false, []⟩ } (fun m => ∃ j : Nat, j < G.nds.length ∧ m = ⟨1, i, (j : Int), s, ⟨(G.at_ i s).rd + 1, i⟩, bal0, ⟨#[]⟩⟩) G (G.bid i s t) :=
  ((Eff.touch hi).set hi _).sendAll ⟨1, i, 0, s, ⟨(G.at_ i s).rd + 1, i⟩, bal0, ⟨#[]⟩⟩
theorem code_ok {n : Int} {t : ByteArray} (h : G.code n s t = 0) : 0 ≤ n ∧ n < G.nds.length ∧ (G.nd n.toNat).up = true ∧ 0 ≤ s ∧ s < 256 ∧ t.size ≤ 4096 := by
  unfold Gr.code at h
  split at h
  · cases h
  · rename_i h1
    split at h
    · cases h
    · split at h
      · cases h
      · simp only [Decidable.not_not] at h1
        exact ⟨h1.1, h1.2.1, h1.2.2, by omega, by omega, by omega⟩
theorem Fit.propose (h : Fit N K G) (n s : Int) (t : ByteArray) : Fit N (K + 1) (G.propose n s t) := by
  unfold Gr.propose
  split
  · rename_i hc
    obtain ⟨h1, h2, h3, h4, h5, h6⟩ := code_ok hc
    have hl := h.len
    have hi : n.toNat < G.nds.length := by omega
    have hx := h.node n.toNat (by omega) s
    refine h.eff (by omega) (bid_eff hi t) ⟨by simp only; have := hx.rd; omega, hx.is⟩ fun m hm => ?_
    obtain ⟨j, hj, rfl⟩ := hm
    have := hx.rd
    exact ⟨by simp, by simp only; omega, by simp only; omega, ⟨h4, h5⟩, by simp only; omega, by simp only; omega⟩
  · exact h.mono (by omega)
/-- nothing but the mail, and calmer -/
theorem Fit.calm (h : Fit N K G) (hl : G'.nds.length = G.nds.length) (hat : ∀ j t, G'.at_ j t = G.at_ j t ∨ G'.at_ j t = (G.at_ j t).calm) (hr : G'.mail.length ≤ 4096) (hm : ∀ m ∈ G'.mail, m ∈ G.mail ∨ MFit N K m) : Fit N K G' :=
  ⟨hl.trans h.len, hr, fun m hm' => (hm m hm').elim (h.mail m) id, fun j hj t => by
    have hx := h.node j hj t
    rcases hat j t with e | e
    · rw [e]; exact hx
    · rw [e]; exact ⟨hx.rd, hx.is⟩⟩
theorem clr_at (hi : i < G.nds.length) (d : Int → Bool) (j : Nat) (t : Int) : (G.clr i d).at_ j t = if j = i ∧ d t = true then (G.at_ j t).calm else G.at_ j t := by
  unfold Gr.at_
  by_cases e : j = i
  · subst e
    rw [clr_get hi]
    cases getA t (G.nd j).sl with
    | none => cases d t <;> simp [Sl.calm, sl0]
    | some x => cases d t <;> simp
  · rw [if_neg fun h => e h.1]
    unfold Gr.clr
    rw [Gr.nd_set _ _ _ _ hi, if_neg e]
theorem crash_at (n : Int) (j : Nat) (t : Int) : (G.crash n).at_ j t = G.at_ j t ∨ (G.crash n).at_ j t = (G.at_ j t).calm := by
  unfold Gr.crash
  split
  · rw [clr_at (by omega)]
    split
    · exact .inr rfl
    · exact .inl rfl
  · exact .inl rfl
theorem Fit.crash (h : Fit N K G) (n : Int) : Fit N K (G.crash n) := by
  refine h.calm ?_ (crash_at n) ?_ ?_
  · unfold Gr.crash; split
    · exact clr_len _ _ _
    · rfl
  · unfold Gr.crash; split
    · exact h.room
    · exact h.room
  · intro m hm
    unfold Gr.crash at hm
    split at hm
    · exact .inl hm
    · exact .inl hm
theorem restart_at (n : Int) (j : Nat) (t : Int) : (G.restart n).at_ j t = G.at_ j t := by
  unfold Gr.restart
  split
  · unfold Gr.at_
    rw [Gr.nd_set _ _ _ _ (by omega)]
    split
    · rename_i e; rw [e]
    · rfl
  · rfl
theorem restart_mail (n : Int) : (G.restart n).mail = G.mail := by unfold Gr.restart; split <;> rfl
theorem restart_len (n : Int) : (G.restart n).nds.length = G.nds.length := by
  unfold Gr.restart; split
  · exact Gr.len_set _ _ _
  · rfl
theorem Fit.restart (h : Fit N K G) (n : Int) : Fit N K (G.restart n) :=
  h.calm (restart_len n) (fun j t => .inl (restart_at n j t)) (by rw [restart_mail]; exact h.room) fun m hm => .inl (by rwa [restart_mail] at hm)
theorem drop_nds (k : Int) : (G.drop k).nds = G.nds := by unfold Gr.drop; split <;> rfl
theorem double_nds (k : Int) : (G.double k).nds = G.nds := by unfold Gr.double; split <;> rfl
theorem drop_mem {k : Int} (h : m ∈ (G.drop k).mail) : m ∈ G.mail := by
  unfold Gr.drop at h; split at h
  · exact Gr.gone_mem h
  · exact h
theorem double_mem {k : Int} (h : m ∈ (G.double k).mail) : m ∈ G.mail := by
  unfold Gr.double at h; split at h
  · rcases List.mem_append.1 h with h | h
    · exact h
    · exact List.mem_of_getElem? (by simpa using h)
  · exact h
theorem Fit.drop (h : Fit N K G) (k : Int) : Fit N K (G.drop k) :=
  h.calm (by rw [drop_nds]) (fun j t => .inl (Gr.at_nds (drop_nds k) j t)) (by
    unfold Gr.drop; split
    · exact Nat.le_trans (Gr.gone_len _ _) h.room
    · exact h.room) fun m hm => .inl (drop_mem hm)
theorem Fit.double (h : Fit N K G) (k : Int) : Fit N K (G.double k) :=
  h.calm (by rw [double_nds]) (fun j t => .inl (Gr.at_nds (double_nds k) j t)) (by
    unfold Gr.double; split
    · rename_i hc
      show (G.mail ++ _).length ≤ 4096
      rw [List.length_append]
      have : (G.mail[k.toNat]?).toList.length ≤ 1 := by cases G.mail[k.toNat]? <;> simp
      omega
    · exact h.room) fun m hm => .inl (double_mem hm)
end
/-- the first slot of which a node knows nothing -/
def Gr.lacks (G : Gr) (n : Int) : Option Nat := (List.range 256).find? fun (k : Nat) => !(G.st n (k : Int)).is
/-- the others are asked -/
def Gr.askTo (G : Gr) (n s : Int) : Nat → Gr
  | 0 => G
  | j + 1 => if (j : Int) = n then G.askTo n s j else (G.askTo n s j).send ⟨6, n, (j : Int), s, bal0, bal0, ⟨#[]⟩⟩
def Gr.catch (G : Gr) (n : Int) : Gr :=
  if 0 ≤ n ∧ n < G.nds.length ∧ (G.nd n.toNat).up = true ∧ G.mail.length + G.nds.length ≤ 4097 then
    match G.lacks n with
    | none => G
    | some k => G.askTo n k G.nds.length
  else G
section
variable {N : Nat} {K : Int} {G G' : Gr} {m : Ml}
theorem askTo_nds (n s : Int) (j : Nat) : (G.askTo n s j).nds = G.nds := by
  induction j with
  | zero => rfl
  | succ j ih =>
    unfold Gr.askTo
    split
    · exact ih
    · rw [Gr.send_nds, ih]
theorem askTo_mem {n s : Int} {j : Nat} (h : m ∈ (G.askTo n s j).mail) : m ∈ G.mail ∨ ∃ k : Nat, k < j ∧ (k : Int) ≠ n ∧ m = ⟨6, n, (k : Int), s, bal0, bal0, ⟨#[]⟩⟩ := by
  induction j with
  | zero => exact .inl h
  | succ j ih =>
    unfold Gr.askTo at h
    split at h
    · exact (ih h).imp id fun ⟨k, h1, h2⟩ => ⟨k, by omega, h2⟩
    · rename_i hne
      rcases Gr.mem_send h with h | h
      · exact (ih h).imp id fun ⟨k, h1, h2⟩ => ⟨k, by omega, h2⟩
      · exact .inr ⟨j, by omega, hne, h⟩
theorem askTo_room {n s : Int} (h : G.mail.length ≤ 4096) (j : Nat) : (G.askTo n s j).mail.length ≤ 4096 := by
  induction j with
  | zero => exact h
  | succ j ih =>
    unfold Gr.askTo
    split
    · exact ih
    · exact Gr.room_send ih
theorem catch_nds (n : Int) : (G.catch n).nds = G.nds := by
  unfold Gr.catch
  split
  · split
    · rfl
    · exact askTo_nds _ _ _
  · rfl
theorem catch_mem {n : Int} (h : m ∈ (G.catch n).mail) : m ∈ G.mail ∨ ∃ k s : Nat, (k : Int) < G.nds.length ∧ s < 256 ∧ (0 ≤ n ∧ n < G.nds.length) ∧ m = ⟨6, n, (k : Int), (s : Int), bal0, bal0, ⟨#[]⟩⟩ := by
  unfold Gr.catch at h
  split at h
  · rename_i hc
    split at h
    · exact .inl h
    · rename_i k hk
      rcases askTo_mem h with h | ⟨j, h1, h2, h3⟩
      · exact .inl h
      · refine .inr ⟨j, k, by omega, ?_, ⟨hc.1, hc.2.1⟩, h3⟩
        exact List.mem_range.1 (List.mem_of_find?_eq_some hk)
  · exact .inl h
theorem Fit.catch (h : Fit N K G) (hK : 0 ≤ K) (n : Int) : Fit N K (G.catch n) := by
  have hl := h.len
  refine h.calm (by rw [catch_nds]) (fun j t => .inl (Gr.at_nds (catch_nds n) j t)) ?_ fun m hm => ?_
  · unfold Gr.catch
    split
    · split
      · exact h.room
      · exact askTo_room h.room _
    · exact h.room
  · rcases catch_mem hm with hm | ⟨k, s, h1, h2, h3, rfl⟩
    · exact .inl hm
    · exact .inr ⟨by simp, by simp only; omega, by simp only; omega, by simp only; omega, by simp [bal0]; omega, by simp [bal0]; omega⟩
end

end Go.Proofs.Ytbgopicpdpkccaa


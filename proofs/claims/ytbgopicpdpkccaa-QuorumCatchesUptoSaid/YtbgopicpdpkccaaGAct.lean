/- quorum: an act, as the plain law sees it; what every act keeps. -/
import Derived.Test.YtbgopicpdpkccaaGFit
namespace Go.Proofs.Ytbgopicpdpkccaa
open Go.RowKit
set_option linter.unusedVariables false
set_option linter.unusedSimpArgs false

structure GA where
  kind : Int
  n : Int
  slot : Int
  text : ByteArray
deriving DecidableEq
/-- what Deliver leaves -/
def Gr.DeliverR (G : Gr) (k : Int) (G' : Gr) : Prop := (¬ (0 ≤ k ∧ k < G.mail.length) ∧ G' = G) ∨ ∃ m, 0 ≤ k ∧ G.mail[k.toNat]? = some m ∧ G.Deliver k.toNat m G'
def Gr.Act (G : Gr) (a : GA) (G' : Gr) : Prop :=
  if a.kind = 1 then G' = G.propose a.n a.slot a.text
  else if a.kind = 2 then G.DeliverR a.n G'
  else if a.kind = 3 then G' = G.drop a.n
  else if a.kind = 4 then G' = G.double a.n
  else if a.kind = 5 then G' = G.crash a.n
  else if a.kind = 6 then G' = G.restart a.n
  else if a.kind = 7 then G' = G.catch a.n else G' = G
/-- it proposes -/
def Gr.said (G : Gr) (a : GA) : Bool := decide (a.kind = 1 ∧ G.code a.n a.slot a.text = 0)
section
variable {N : Nat} {K : Int} {G G' : Gr} {s : Int} {pr Kn : ByteArray → Prop} {g : Gho}
theorem Fit.deliver (h : Fit N K G) {k : Int} (hd : G.DeliverR k G') : Fit N K G' := by
  rcases hd with ⟨_, rfl⟩ | ⟨m, h1, h2, h3⟩
  · exact h
  · have hm := List.mem_of_getElem? h2
    have hl := h.len
    have hdst := (h.mail m hm).dst
    obtain ⟨x', new, hr, he⟩ := Deliver_eff (by omega) h3
    exact h.handle hm hr he
theorem Fit.act (h : Fit N K G) (hK : 0 ≤ K) {a : GA} (ha : G.Act a G') : Fit N (K + 1) G' := by
  unfold Gr.Act at ha
  by_cases h1 : a.kind = 1
  · rw [if_pos h1] at ha; rw [ha]; exact h.propose _ _ _
  rw [if_neg h1] at ha
  suffices hs : Fit N K G' from hs.mono (by omega)
  split at ha
  · exact h.deliver ha
  split at ha
  · rw [ha]; exact h.drop _
  split at ha
  · rw [ha]; exact h.double _
  split at ha
  · rw [ha]; exact h.crash _
  split at ha
  · rw [ha]; exact h.restart _
  split at ha
  · rw [ha]; exact h.catch hK _
  · rw [ha]; exact h
/-- nothing is said but the mail is less, or asks; bids may be gone -/
theorem Safe.still (h : Safe s pr G g Kn) (hl : G'.nds.length = G.nds.length) (hat : ∀ j, G'.at_ j s = G.at_ j s ∨ G'.at_ j s = (G.at_ j s).calm) (hm : ∀ m ∈ G'.mail, m ∈ G.mail ∨ m.kind = 6) : Safe s pr G' g Kn := by
  refine h.calm (fun _ => id) hl (fun n => ?_) (fun n => ?_) (fun hg n hn => ?_) fun hg m hm' hs => (hm m hm').imp id fun e => ⟨fun h => by omega, fun h => by omega, fun h => by omega, fun h => by omega⟩
  · rcases hat n with e | e <;> rw [e] <;> exact Int.le_refl _
  · rcases hat n with e | e <;> rw [e] <;> exact Bal.refl _
  · rcases hat n with e | e
    · exact .inl e
    · refine .inr ?_
      rw [e]
      have hk := (h.node n hn).grow hg (pr' := pr) (fun _ => id) (fun _ => id) fun _ _ _ _ => id
      exact ⟨hk.rd0, hk.acc, hk.accp, hk.vote, fun d hd => (by cases hd), hk.lrnd⟩
theorem Safe.deliver (h : Safe s pr G g Kn) (hf : Fit N K G) {k : Int} (hd : G.DeliverR k G') : ∃ g', Safe s pr G' g' Kn := by
  rcases hd with ⟨_, rfl⟩ | ⟨m, h1, h2, h3⟩
  · exact ⟨g, h⟩
  · have hm := List.mem_of_getElem? h2
    have hl := hf.len
    have hdst := (hf.mail m hm).dst
    obtain ⟨x', new, hr, he⟩ := Deliver_eff (by omega) h3
    exact h.handle hm (by omega) rfl hr he
theorem Safe.propose (h : Safe s pr G g Kn) (n s' : Int) (t : ByteArray) : Safe s (fun t' => pr t' ∨ (G.code n s' t = 0 ∧ s' = s) ∧ t' = t) (G.propose n s' t) g Kn := by
  unfold Gr.propose
  split
  case isFalse hc =>
    exact h.calm (fun _ => .inl) rfl (fun _ => Int.le_refl _) (fun _ => Bal.refl _) (fun _ _ _ => .inl rfl) fun _ m hm _ => .inl hm
  case isTrue hc =>
    obtain ⟨h1, h2, h3, h4, h5, h6⟩ := code_ok hc
    have hi : n.toNat < G.nds.length := by omega
    have he := bid_eff (s := s') hi t
    by_cases hs : s' = s
    case neg =>
      have hat : ∀ j, (G.bid n.toNat s' t).at_ j s = G.at_ j s := fun j => by rw [he.at_, if_neg fun e => hs e.2.symm]
      refine h.calm (fun _ => .inl) he.len (fun j => by rw [hat]; exact Int.le_refl _) (fun j => by rw [hat]; exact Bal.refl _) (fun _ j _ => .inl (hat j)) fun _ m hm hms => ?_
      refine (he.mail m hm).imp id fun hn => ?_
      obtain ⟨j, _, rfl⟩ := hn
      exact absurd hms hs
    case pos =>
      subst hs
      have hat : ∀ j, j ≠ n.toNat → (G.bid n.toNat s' t).at_ j s' = G.at_ j s' := fun j hj => by rw [he.at_, if_neg fun e => hj e.1]
      have hati := he.at_ n.toNat s'
      rw [if_pos ⟨rfl, rfl⟩] at hati
      have hx := h.node n.toNat hi
      refine h.calm (fun _ => .inl) he.len (fun j => ?_) (fun j => ?_) (fun hg j hj => ?_) fun hg m hm hms => ?_
      · by_cases e : j = n.toNat
        · rw [e, hati]; simp only; omega
        · rw [hat j e]; exact Int.le_refl _
      · by_cases e : j = n.toNat
        · rw [e, hati]; exact Bal.refl _
        · rw [hat j e]; exact Bal.refl _
      · by_cases e : j = n.toNat
        · subst e
          refine .inr ?_
          rw [hati]
          have hk := hx.grow hg (pr' := fun t' => pr t' ∨ (G.code n s' t = 0 ∧ s' = s') ∧ t' = t) (fun _ => .inl) (fun _ => id) fun _ _ _ _ => id
          have hr0 := hx.rd0
          refine ⟨by simp only; omega, hk.acc, hk.accp, hk.vote, fun d hd => ?_, hk.lrnd⟩
          simp only [Option.some.injEq] at hd
          subst hd
          refine ⟨by simp only, by simp only; omega, by simp only; omega, List.nodup_nil, fun _ => ⟨.inr ⟨⟨hc, rfl⟩, rfl⟩, fun t' ht' => ?_, fun p hp => by cases hp⟩, fun ha => by cases ha⟩
          have := (h.ps _ _ ht').own.2.2.2
          simp only [Int.toNat_natCast] at this
          omega
        · exact .inl (hat j e)
      · refine (he.mail m hm).imp id fun hn => ?_
        obtain ⟨j, _, rfl⟩ := hn
        exact ⟨fun e => by simp at e, fun e => by simp at e, fun e => by simp at e, fun e => by simp at e⟩
theorem Safe.weak {pr' : ByteArray → Prop} (h : Safe s pr G g Kn) (hpr : ∀ t, pr t → pr' t) : Safe s pr' G g Kn :=
  h.calm hpr rfl (fun _ => Int.le_refl _) (fun _ => Bal.refl _) (fun _ _ _ => .inl rfl) fun _ m hm _ => .inl hm
theorem Safe.act (h : Safe s pr G g Kn) (hf : Fit N K G) {a : GA} (ha : G.Act a G') : ∃ g', Safe s (fun t => pr t ∨ (G.said a = true ∧ a.slot = s) ∧ t = a.text) G' g' Kn := by
  unfold Gr.Act at ha
  by_cases h1 : a.kind = 1
  · rw [if_pos h1] at ha
    subst ha
    refine ⟨g, (h.propose a.n a.slot a.text).weak fun t ht => ht.imp id fun ht => ⟨⟨?_, ht.1.2⟩, ht.2⟩⟩
    unfold Gr.said
    exact decide_eq_true ⟨h1, ht.1.1⟩
  rw [if_neg h1] at ha
  suffices hs : ∃ g', Safe s pr G' g' Kn by
    obtain ⟨g', hs⟩ := hs
    exact ⟨g', hs.weak fun _ => .inl⟩
  split at ha
  · exact h.deliver hf ha
  split at ha
  · subst ha; exact ⟨g, h.still (by rw [drop_nds]) (fun j => .inl (Gr.at_nds (drop_nds _) j s)) fun m hm => .inl (drop_mem hm)⟩
  split at ha
  · subst ha; exact ⟨g, h.still (by rw [double_nds]) (fun j => .inl (Gr.at_nds (double_nds _) j s)) fun m hm => .inl (double_mem hm)⟩
  split at ha
  · subst ha
    refine ⟨g, h.still ?_ (fun j => crash_at _ j s) fun m hm => .inl ?_⟩
    · unfold Gr.crash; split
      · exact clr_len _ _ _
      · rfl
    · unfold Gr.crash at hm; split at hm <;> exact hm
  split at ha
  · subst ha; exact ⟨g, h.still (restart_len _) (fun j => .inl (restart_at _ j s)) fun m hm => .inl (by rwa [restart_mail] at hm)⟩
  split at ha
  · subst ha
    refine ⟨g, h.still (by rw [catch_nds]) (fun j => .inl (Gr.at_nds (catch_nds _) j s)) fun m hm => (catch_mem hm).imp id ?_⟩
    rintro ⟨k, s, _, _, _, rfl⟩
    rfl
  · subst ha; exact ⟨g, h⟩
/-- what was promised and accepted -/
def Rise (x x' : Sl) : Prop := Bal.le x.prom x'.prom ∧ Bal.le x.accd.bal x'.accd.bal ∧ Bal.le x'.accd.bal x'.prom
theorem Rise.refl {x : Sl} (h : Bal.le x.accd.bal x.prom) : Rise x x := ⟨Bal.refl _, Bal.refl _, h⟩
theorem HRel.rise {i : Nat} {x x' : Sl} {m : Ml} {new : Ml → Prop} (hr : HRel G i x m x' new) (h : Bal.le x.accd.bal x.prom) : Rise x x' := by
  cases hr with
  | stay => exact .refl h
  | late _ => exact ⟨Bal.refl _, Bal.refl _, h⟩
  | prep _ hc => exact ⟨cmp_le hc, Bal.refl _, Bal.trans h (cmp_le hc)⟩
  | acc _ hc => exact ⟨cmp_le hc, Bal.trans h (cmp_le hc), Bal.refl _⟩
  | ans1 _ _ _ _ => exact ⟨Bal.refl _, Bal.refl _, h⟩
  | won _ _ _ _ _ _ => exact ⟨Bal.refl _, Bal.refl _, h⟩
  | ans2 _ _ _ _ => exact ⟨Bal.refl _, Bal.refl _, h⟩
  | done _ _ _ _ => exact ⟨Bal.refl _, Bal.refl _, h⟩
  | learn _ _ => exact ⟨Bal.refl _, Bal.refl _, h⟩
  | told => exact .refl h
theorem act_rise (hf : Fit N K G) (h : ∀ j t, Bal.le (G.at_ j t).accd.bal (G.at_ j t).prom) {a : GA} (ha : G.Act a G') (j : Nat) (t : Int) : Rise (G.at_ j t) (G'.at_ j t) := by
  have same : G'.at_ j t = G.at_ j t ∨ G'.at_ j t = (G.at_ j t).calm → Rise (G.at_ j t) (G'.at_ j t) := fun e => by
    rcases e with e | e
    · rw [e]; exact .refl (h j t)
    · rw [e]; exact ⟨Bal.refl _, Bal.refl _, h j t⟩
  unfold Gr.Act at ha
  split at ha
  · subst ha
    unfold Gr.propose
    split
    · rename_i hc
      obtain ⟨h1, h2, _⟩ := code_ok hc
      rw [(bid_eff (by omega) a.text).at_]
      split
      · rename_i e
        rw [e.1, e.2]
        exact ⟨Bal.refl _, Bal.refl _, h _ _⟩
      · exact .refl (h j t)
    · exact .refl (h j t)
  split at ha
  · rcases ha with ⟨_, rfl⟩ | ⟨m, h1, h2, h3⟩
    · exact .refl (h j t)
    · have hm := List.mem_of_getElem? h2
      have hl := hf.len
      have hdst := (hf.mail m hm).dst
      obtain ⟨x', new, hr, he⟩ := Deliver_eff (by omega) h3
      rw [he.at_]
      split
      · rename_i e
        rw [e.1, e.2]
        exact hr.rise (h _ _)
      · exact .refl (h j t)
  split at ha
  · subst ha; exact same (.inl (Gr.at_nds (drop_nds _) j t))
  split at ha
  · subst ha; exact same (.inl (Gr.at_nds (double_nds _) j t))
  split at ha
  · subst ha; exact same (crash_at _ j t)
  split at ha
  · subst ha; exact same (.inl (restart_at _ j t))
  split at ha
  · subst ha; exact same (.inl (Gr.at_nds (catch_nds _) j t))
  · subst ha; exact same (.inl rfl)
theorem grN_at (k i : Nat) (s : Int) : (grN k).at_ i s = sl0 := by unfold Gr.at_; rw [grN_nd]; rfl
theorem Fit.new (k : Nat) (hK : 0 ≤ K) : Fit k K (grN k) :=
  ⟨by simp [grN], by simp [grN], fun m hm => by simp [grN] at hm, fun i hi s => by rw [grN_at]; exact ⟨⟨Int.le_refl _, hK⟩, fun h => by cases h⟩⟩
theorem Safe.new (k : Nat) (s : Int) : Safe s (fun _ => False) (grN k) ⟨fun _ _ => False, fun _ _ => False⟩ (fun _ => False) :=
  ⟨fun _ _ h => h.elim, fun _ _ h => h.elim, fun n hn => by
    rw [grN_at]
    exact ⟨Int.le_refl _, .inl rfl, Bal.refl _, fun _ h => h.elim, fun d hd => (by cases hd), fun h => (by cases h)⟩, fun m hm => by simp [grN] at hm, fun _ h => h.elim⟩
theorem act_len (hf : Fit N K G) (hK : 0 ≤ K) {a : GA} (ha : G.Act a G') : G'.nds.length = G.nds.length := by
  rw [(hf.act hK ha).len, hf.len]
end

end Go.Proofs.Ytbgopicpdpkccaa

/- Texts of the proof, joined: KFits. -/
import Derived.Test.YtphglnenafdkaaaGreatDoorQ02
namespace Go.Proofs.YtphglnenafdkaaaGreatDoor
set_option linter.unusedVariables false
set_option linter.unusedSimpArgs false

/-- what an instruction hands on -/
def onD (code : List Is) (dep : Nat → Int) (i : Nat) : Int := dep i - takes (code.getD i is0).op + lays (code.getD i is0).op
def DepR (dep : Nat → Int) : Prop := ∀ i, dep i = -1 ∨ (0 ≤ dep i ∧ dep i ≤ 32)
/-- every known place keeps its depth -/
def Keeps (dep dep' : Nat → Int) : Prop := ∀ i, dep i ≠ -1 → dep' i = dep i
theorem Keeps.refl (d : Nat → Int) : Keeps d d := fun _ _ => rfl
theorem Keeps.trans {a b c : Nat → Int} (h : Keeps a b) (k : Keeps b c) : Keeps a c := fun i hi => by rw [k i (by rw [h i hi]; exact hi), h i hi]
theorem leadTo_ok {n at_ : Nat} {d : Int} {dep dep' : Nat → Int} {to : Nat} (hd : 0 ≤ d ∧ d ≤ 32) (hr : DepR dep) (h : leadTo n at_ d dep to = .inl dep') : to < n ∧ dep' to = d ∧ Keeps dep dep' ∧ DepR dep' := by
  unfold leadTo at h
  split at h
  · cases h
  · split at h
    · rename_i h2
      injection h with h; subst h
      refine ⟨by omega, by simp [setN], fun i hi => ?_, fun i => ?_⟩
      · unfold setN; split
        · rename_i e; rw [e] at hi; exact absurd h2 hi
        · rfl
      · unfold setN; split
        · exact .inr hd
        · exact hr i
    · split at h
      · rename_i h3
        injection h with h; subst h
        exact ⟨by omega, h3, Keeps.refl _, hr⟩
      · cases h
theorem leads_ok {n at_ : Nat} {d : Int} (hd : 0 ≤ d ∧ d ≤ 32) : ∀ (l : List Nat) (dep dep' : Nat → Int), DepR dep → leads n at_ d l dep = .inl dep' → (∀ to ∈ l, to < n ∧ dep' to = d) ∧ Keeps dep dep' ∧ DepR dep' := by
  intro l
  induction l with
  | nil =>
    intro dep dep' hr h
    injection h with h; subst h
    exact ⟨fun to h => (by cases h), Keeps.refl _, hr⟩
  | cons to l ih =>
    intro dep dep' hr h
    unfold leads at h
    split at h
    · rename_i d1 h1
      obtain ⟨a1, a2, a3, a4⟩ := leadTo_ok hd hr h1
      obtain ⟨b1, b2, b3⟩ := ih d1 dep' a4 h
      refine ⟨fun t ht => ?_, a3.trans b2, b3⟩
      rcases List.mem_cons.1 ht with rfl | ht
      · exact ⟨a1, by rw [b2 t (by rw [a2]; omega), a2]⟩
      · exact b1 t ht
    · cases h
theorem lookAt_ok {code : List Is} {dep dep' : Nat → Int} {at_ : Nat} (hr : DepR dep) (hk : dep at_ ≠ -1) (h : lookAt code dep at_ = .inl dep') :
    takes (code.getD at_ is0).op ≤ dep at_ ∧ onD code dep at_ ≤ 32 ∧ (∀ to ∈ nexts at_ (code.getD at_ is0), to < code.length ∧ dep' to = onD code dep at_) ∧ Keeps dep dep' ∧ DepR dep' := by
  unfold lookAt at h
  simp only at h
  split at h
  · cases h
  · rename_i hc
    have h1 := (takes_range (code.getD at_ is0).op)
    have h2 := (lays_range (code.getD at_ is0).op)
    obtain ⟨a1, a2, a3⟩ := leads_ok (by omega) _ _ _ hr h
    exact ⟨by omega, by unfold onD; omega, a1, a2, a3⟩
structure CkI (code : List Is) (c : Ck) : Prop where
  rng : DepR c.dep
  zero : c.dep 0 = 0
  lk : ∀ i, c.lk i = true → c.dep i ≠ -1 ∧ takes (code.getD i is0).op ≤ c.dep i ∧ onD code c.dep i ≤ 32 ∧ ∀ to ∈ nexts i (code.getD i is0), to < code.length ∧ c.dep to = onD code c.dep i
theorem CkI.new (code : List Is) : CkI code ck0 := ⟨fun i => by unfold ck0; simp only; split <;> omega, rfl, fun i h => by cases h⟩
theorem onD_keeps {code : List Is} {dep dep' : Nat → Int} {i : Nat} (h : Keeps dep dep') (hi : dep i ≠ -1) : onD code dep' i = onD code dep i := by unfold onD; rw [h i hi]
theorem CkI.step {code : List Is} {c : Ck} {i : Nat} {d : Nat → Int} (h : CkI code c) (hk : c.dep i ≠ -1) (he : lookAt code c.dep i = .inl d) : CkI code ⟨d, setN c.lk i true⟩ := by
  obtain ⟨a1, a2, a3, a4, a5⟩ := lookAt_ok h.rng hk he
  refine ⟨a5, by show d 0 = 0; rw [a4 0 (by rw [h.zero]; decide), h.zero], fun j hj => ?_⟩
  show d j ≠ -1 ∧ takes (code.getD j is0).op ≤ d j ∧ onD code d j ≤ 32 ∧ ∀ to ∈ nexts j (code.getD j is0), to < code.length ∧ d to = onD code d j
  by_cases e : j = i
  · subst e
    rw [onD_keeps a4 hk, a4 j hk]
    exact ⟨hk, a1, a2, a3⟩
  · have hj' : c.lk j = true := by simpa [setN, e] using hj
    obtain ⟨b1, b2, b3, b4⟩ := h.lk j hj'
    rw [onD_keeps a4 b1, a4 j b1]
    have ht := takes_range (code.getD j is0).op
    have hl := lays_range (code.getD j is0).op
    refine ⟨b1, b2, b3, fun to ht' => ⟨(b4 to ht').1, ?_⟩⟩
    rw [a4 to, (b4 to ht').2]
    rw [(b4 to ht').2]
    unfold onD at b3 ⊢
    omega
theorem runD_keeps {code : List Is} : ∀ (k : Nat) (c : Ck) (d : Nat → Int), CkI code c → runD code k c = .inl d → Keeps c.dep d := by
  intro k
  induction k with
  | zero => intro c d _ h; injection h with h; subst h; exact Keeps.refl _
  | succ k ih =>
    intro c d hi h
    unfold runD at h
    split at h
    · injection h with h; subst h; exact Keeps.refl _
    · rename_i i hl
      obtain ⟨h1, h2⟩ := leastD_lt hl
      split at h
      · cases h
      · rename_i d1 he
        have := lookAt_ok hi.rng (due_lk h2).1 he
        exact this.2.2.2.1.trans (ih _ d (hi.step (due_lk h2).1 he) h)
theorem left_pos {c : Ck} {n i : Nat} (h : leastD c n 0 = some i) : 1 ≤ c.left n := by
  obtain ⟨h1, h2⟩ := leastD_lt h
  have := left_set c n i c.dep h1 (due_lk h2).2
  omega
theorem runD_end {code : List Is} : ∀ (k : Nat) (c : Ck) (d : Nat → Int), CkI code c → c.left code.length < k → runD code k c = .inl d → ∃ c', CkI code c' ∧ leastD c' code.length 0 = none ∧ c'.dep = d := by
  intro k
  induction k with
  | zero => intro c d _ h _; omega
  | succ k ih =>
    intro c d hi hk h
    unfold runD at h
    split at h
    · rename_i hl
      injection h with h; exact ⟨c, hi, hl, h⟩
    · rename_i i hl
      obtain ⟨h1, h2⟩ := leastD_lt hl
      split at h
      · cases h
      · rename_i d1 he
        have := left_set c code.length i d1 h1 (due_lk h2).2
        exact ih _ d (hi.step (due_lk h2).1 he) (by omega) h
/-- what the depths say -/
theorem find_ok {p : Pr} {d : Nat → Int} (h : p.find = .inl d) : d 0 = 0 ∧ DepR d ∧ ∀ i, i < p.code.length → d i = -1 ∨ (0 ≤ d i ∧ takes (p.code.getD i is0).op ≤ d i ∧ onD p.code d i ≤ 32 ∧ ∀ to ∈ nexts i (p.code.getD i is0), to < p.code.length ∧ d to = onD p.code d i) := by
  obtain ⟨c, h1, h2, rfl⟩ := runD_end _ ck0 d (CkI.new _) (Nat.lt_succ_self _) h
  refine ⟨h1.zero, h1.rng, fun i hi => ?_⟩
  rcases leastD_form c p.code.length 0 with ⟨_, h3⟩ | ⟨j, _, _, _, h4, _⟩
  · have h5 := h3 i (Nat.zero_le _) (by omega)
    by_cases e : c.dep i = -1
    · exact .inl e
    · refine .inr ?_
      have h6 : c.lk i = true := by
        unfold Ck.due at h5
        rw [decide_eq_true e, Bool.true_and] at h5
        simpa using h5
      obtain ⟨_, b2, b3, b4⟩ := h1.lk i h6
      rcases h1.rng i with h7 | h7
      · exact absurd h7 e
      · exact ⟨h7.1, b2, b3, b4⟩
  · rw [h4] at h2; cases h2
/-- another instruction where nothing comes -/
theorem runD_set {code : List Is} {at_ : Nat} {x : Is} : ∀ (k : Nat) (c : Ck) (d : Nat → Int), CkI code c → runD code k c = .inl d → d at_ = -1 → runD (code.set at_ x) k c = .inl d := by
  intro k
  induction k with
  | zero => intro c d _ h _; exact h
  | succ k ih =>
    intro c d hi h hd
    have hk := runD_keeps (k + 1) c d hi h
    unfold runD at h ⊢
    rw [List.length_set]
    split at h
    · exact h
    · rename_i i hl
      obtain ⟨h1, h2⟩ := leastD_lt hl
      have hne : at_ ≠ i := fun e => by
        subst e
        have := hk at_ (due_lk h2).1
        rw [this] at hd
        exact (due_lk h2).1 hd
      have hg : (code.set at_ x).getD i is0 = code.getD i is0 := by
        rw [List.getD_eq_getElem?_getD, List.getD_eq_getElem?_getD, List.getElem?_set_ne hne]
      have hl' : lookAt (code.set at_ x) c.dep i = lookAt code c.dep i := by
        unfold lookAt
        simp only
        rw [hg, List.length_set]
      rw [hl']
      split at h
      · cases h
      · rename_i d1 he
        exact ih _ d (hi.step (due_lk h2).1 he) h hd
theorem back_check {p : Pr} {d : Nat → Int} {at_ : Nat} {x : Is} (hc : p.check.1 = 0) (hf : p.find = .inl d) (hd : d at_ = -1) : (Pr.check { p with code := p.code.set at_ x }).1 = (Pr.form { p with code := p.code.set at_ x }).1 := by
  have h1 : Pr.find { p with code := p.code.set at_ x } = .inl d := by
    have : Pr.find { p with code := p.code.set at_ x } = runD (p.code.set at_ x) (ck0.left p.code.length + 1) ck0 := by
      unfold Pr.find runC
      simp only [List.length_set]
    rw [this]
    exact runD_set _ _ _ (CkI.new _) hf hd
  unfold Pr.check
  rw [h1]
  split
  · rfl
  · rename_i h
    simp only [ne_eq, Decidable.not_not] at h
    rw [h]
theorem check_find {p : Pr} (h : p.check.1 = 0) (he : ∀ e, p.find = .inr e → e.1 ≠ 0) : p.form.1 = 0 ∧ ∃ d, p.find = .inl d := by
  unfold Pr.check at h
  split at h
  · rename_i h1; exact absurd h h1
  · rename_i h1
    refine ⟨by simpa using h1, ?_⟩
    cases hf : p.find with
    | inl d => exact ⟨d, rfl⟩
    | inr e => rw [hf] at h; exact absurd h (he e hf)
theorem leads_bad {n at_ : Nat} {d : Int} {e : Int × Int} : ∀ (l : List Nat) (dep : Nat → Int), leads n at_ d l dep = .inr e → e = (57, (at_ : Int)) ∨ e = (56, (at_ : Int)) := by
  intro l
  induction l with
  | nil => intro dep h; cases h
  | cons to l ih =>
    intro dep h
    unfold leads at h
    split at h
    · exact ih _ h
    · rename_i e' h1
      injection h with h; subst h
      unfold leadTo at h1
      split at h1
      · injection h1 with h1; exact .inl h1.symm
      · split at h1
        · cases h1
        · split at h1
          · cases h1
          · injection h1 with h1; exact .inr h1.symm
theorem lookAt_bad {code : List Is} {dep : Nat → Int} {at_ : Nat} {e : Int × Int} (h : lookAt code dep at_ = .inr e) : (e.1 = 55 ∨ e.1 = 56 ∨ e.1 = 57) ∧ e.2 = at_ := by
  unfold lookAt at h
  simp only at h
  split at h
  · injection h with h; subst h; exact ⟨.inl rfl, rfl⟩
  · rcases leads_bad _ _ h with rfl | rfl
    · exact ⟨.inr (.inr rfl), rfl⟩
    · exact ⟨.inr (.inl rfl), rfl⟩
theorem runD_bad {code : List Is} {e : Int × Int} : ∀ (k : Nat) (c : Ck), runD code k c = .inr e → e.1 = 55 ∨ e.1 = 56 ∨ e.1 = 57 := by
  intro k
  induction k with
  | zero => intro c h; cases h
  | succ k ih =>
    intro c h
    unfold runD at h
    split at h
    · cases h
    · split at h
      · rename_i e' he
        injection h with h; subst h
        exact (lookAt_bad he).1
      · exact ih _ h
theorem find_bad {p : Pr} {e : Int × Int} (h : p.find = .inr e) : e.1 ≠ 0 := by
  have := runD_bad _ _ h
  omega
theorem deps_len {p : Pr} (h : p.check.1 = 0) : ∃ d, p.find = .inl d ∧ p.form.1 = 0 ∧ p.deps = (List.range p.code.length).map d := by
  obtain ⟨h1, d, hd⟩ := check_find h fun e he => find_bad he
  refine ⟨d, hd, h1, ?_⟩
  unfold Pr.deps
  rw [if_neg (by rw [h]; decide), hd]

end Go.Proofs.YtphglnenafdkaaaGreatDoor


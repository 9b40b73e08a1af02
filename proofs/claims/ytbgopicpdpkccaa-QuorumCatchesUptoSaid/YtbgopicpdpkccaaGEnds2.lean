/- quorum: a bid above all that was promised has its text learned: the plain law. -/
import Derived.Test.YtbgopicpdpkccaaGEnds
import Derived.Test.YtbgopicpdpkccaaGAns2
namespace Go.Proofs.Ytbgopicpdpkccaa
open Go.RowKit
set_option linter.unusedVariables false
set_option linter.unusedSimpArgs false

theorem le_cmp {a b : Bal} (h : Bal.le b a) : 0 ≤ cmpB a b := by
  unfold cmpB orI
  unfold Bal.le at h
  rcases c3_cases a.rd b.rd with ⟨h1, h2⟩ | ⟨h1, h2⟩ | ⟨h1, h2⟩ <;> rw [h2] <;> simp
  · omega
  · rcases c3_cases a.nd b.nd with ⟨h3, h4⟩ | ⟨h3, h4⟩ | ⟨h3, h4⟩ <;> rw [h4] <;> omega
theorem nodup_sub {l : List Int} : ∀ {l' : List Int}, l.Nodup → (∀ x ∈ l, x ∈ l') → l.length ≤ l'.length := by
  induction l with
  | nil => intro l' _ _; simp
  | cons a l ih =>
    intro l' h hs
    rw [List.nodup_cons] at h
    have h1 := ih (l' := l'.erase a) h.2 fun x hx => (List.mem_erase_of_ne fun (e : x = a) => h.1 (e ▸ hx)).2 (hs x (List.mem_cons_of_mem _ hx))
    have ha := hs a List.mem_cons_self
    rw [List.length_erase_of_mem ha] at h1
    have : 0 < l'.length := List.length_pos_of_mem ha
    rw [List.length_cons]
    omega
def Ask1 (G : Gr) (kd : Int) (j : Nat) : Prop := ∃ m ∈ G.mail, m.kind = kd ∧ m.dst = (j : Int)
def From1 (G : Gr) (kd : Int) (j : Nat) : Prop := ∃ m ∈ G.mail, m.kind = kd ∧ m.fr = (j : Int)
def kAsk (a : Bool) : Int := if a = true then 3 else 1
def kAns (a : Bool) : Int := if a = true then 4 else 2
def Stg (a : Bool) (b : Bal) (i : Nat) (s : Int) (N : Nat) (G : Gr) : Prop := ∃ d, (G.at_ i s).bid = some d ∧ d.bal = b ∧ d.acc = a ∧ d.ans.length ≤ N / 2 ∧ ∀ j, j < N → (G.nd j).up = true → Ask1 G (kAsk a) j ∨ From1 G (kAns a) j ∨ (getA (j : Int) d.ans).isSome = true
def Stg3 (i : Nat) (s : Int) (N : Nat) (G : Gr) : Prop := (G.at_ i s).bid = none ∧ ∀ j, j < N → (G.nd j).up = true → Ask1 G 5 j ∨ (G.at_ j s).is = true
structure Prog (b : Bal) (i : Nat) (s : Int) (N : Nat) (G : Gr) : Prop where
  up : (G.nd i).up = true
  pr : ∀ j, j < N → Bal.le (G.at_ j s).prom b
  st : (∃ a, Stg a b i s N G) ∨ Stg3 i s N G
section
variable {b : Bal} {i N F : Nat} {s : Int} {G G' : Gr} {m : Ml} {rest L : List Ml} {x' : Sl}
theorem Ask1.carry {kd : Int} {j : Nat} (hm : G.mail = m :: rest) (hm' : G'.mail = rest ++ L) (h : Ask1 G kd j) : (m.kind = kd ∧ m.dst = (j : Int)) ∨ Ask1 G' kd j := by
  obtain ⟨m2, h1, h2⟩ := h
  rw [hm] at h1
  rcases List.mem_cons.1 h1 with rfl | h1
  · exact .inl h2
  · exact .inr ⟨m2, by rw [hm']; exact List.mem_append_left _ h1, h2⟩
theorem From1.carry {kd : Int} {j : Nat} (hm : G.mail = m :: rest) (hm' : G'.mail = rest ++ L) (h : From1 G kd j) : (m.kind = kd ∧ m.fr = (j : Int)) ∨ From1 G' kd j := by
  obtain ⟨m2, h1, h2⟩ := h
  rw [hm] at h1
  rcases List.mem_cons.1 h1 with rfl | h1
  · exact .inl h2
  · exact .inr ⟨m2, by rw [hm']; exact List.mem_append_left _ h1, h2⟩
theorem Prog.step (hp : Prog b i s N G) (h : Run b i s N F G) (hm : G.mail = m :: rest) (hx : FirstX G m rest x' L G') (hmail : G'.mail = rest ++ L) : Prog b i s N G' := by
  have hmm := h.msg m (by rw [hm]; exact List.mem_cons_self)
  obtain ⟨m1, m2, m3, m4, m5, m6, m7⟩ := hmm
  have hlen := h.len
  have hx' := hx.what
  have hJ : m.dst.toNat < N := by omega
  have hat : ∀ j, G'.at_ j s = if j = m.dst.toNat then x' else G.at_ j s := fun j => by
    rw [hx.at_]
    by_cases e : j = m.dst.toNat
    · rw [if_pos ⟨e, m1.symm⟩, if_pos e]
    · rw [if_neg fun h => e h.1, if_neg e]
  have hprJ := hp.pr m.dst.toNat hJ
  -- what was promised
  have hpr : ∀ j, j < N → Bal.le (G'.at_ j s).prom b := fun j hj => by
    rw [hat]
    by_cases e : j = m.dst.toNat
    · rw [if_pos e]
      rcases hx' with ⟨_, h1⟩ | ⟨_, rfl, _⟩
      · rw [m1] at h1
        generalize G.at_ m.dst.toNat s = x at *
        cases h1 with
        | prep _ _ => rw [m2]; exact Bal.refl _
        | acc _ _ => rw [m2]; exact Bal.refl _
        | late _ _ => exact hprJ
        | no2 _ _ => exact hprJ
        | ans1 _ _ _ _ => exact hprJ
        | won _ _ _ _ _ _ => exact hprJ
        | no4 _ _ => exact hprJ
        | ans2 _ _ _ _ => exact hprJ
        | done _ _ _ _ => exact hprJ
        | known _ _ => exact hprJ
        | learn _ _ => exact hprJ
        | told _ => exact hprJ
      · rw [m1]; exact hprJ
    · rw [if_neg e]; exact hp.pr j hj
  refine ⟨(hx.up i).trans hp.up, hpr, ?_⟩
  have hup : ∀ j, (G'.nd j).up = true → (G.nd j).up = true := fun j h => by rwa [hx.up] at h
  -- the bid is as it was
  have stay : ∀ (hb : x'.bid = (G.at_ m.dst.toNat s).bid) (hi : ∀ j, j < N → (G.at_ j s).is = true → (G'.at_ j s).is = true)
      (hA : ∀ a d, (G.at_ i s).bid = some d → d.bal = b → d.acc = a → (m.kind = kAsk a → ∀ j : Nat, m.dst = (j : Int) → (G.nd j).up = true → From1 G' (kAns a) j) ∧ (m.kind = kAns a → ∀ j : Nat, m.fr = (j : Int) → (getA (j : Int) d.ans).isSome = true))
      (h5 : m.kind = 5 → ∀ j : Nat, m.dst = (j : Int) → (G.nd j).up = true → (G'.at_ j s).is = true), (∃ a, Stg a b i s N G') ∨ Stg3 i s N G' := fun hb hi hA h5 => by
    have hbid : (G'.at_ i s).bid = (G.at_ i s).bid := by
      rw [hat]
      by_cases e : i = m.dst.toNat
      · rw [if_pos e, hb, ← e]
      · rw [if_neg e]
    rcases hp.st with ⟨a, d, d1, d2, d3, d4, d5⟩ | ⟨d1, d5⟩
    · refine .inl ⟨a, d, hbid.trans d1, d2, d3, d4, fun j hj hu => ?_⟩
      have hu := hup j hu
      obtain ⟨hA1, hA2⟩ := hA a d d1 d2 d3
      rcases d5 j hj hu with h1 | h1 | h1
      · rcases h1.carry hm hmail with ⟨e1, e2⟩ | h2
        · exact .inr (.inl (hA1 e1 j e2 hu))
        · exact .inl h2
      · rcases h1.carry hm hmail with ⟨e1, e2⟩ | h2
        · exact .inr (.inr (hA2 e1 j e2))
        · exact .inr (.inl h2)
      · exact .inr (.inr h1)
    · refine .inr ⟨hbid.trans d1, fun j hj hu => ?_⟩
      have hu := hup j hu
      rcases d5 j hj hu with h1 | h1
      · rcases h1.carry hm hmail with ⟨e1, e2⟩ | h2
        · exact .inr (h5 e1 j e2 hu)
        · exact .inl h2
      · exact .inr (hi j hj h1)
  have isk : x'.is = (G.at_ m.dst.toNat s).is → ∀ j, j < N → (G.at_ j s).is = true → (G'.at_ j s).is = true := fun e j _ h => by
    rw [hat]
    by_cases ej : j = m.dst.toNat
    · rw [if_pos ej, e, ← ej]; exact h
    · rw [if_neg ej]; exact h
  have kA : ∀ a, kAsk a = 1 ∨ kAsk a = 3 := fun a => by cases a <;> decide
  have kN : ∀ a, kAns a = 2 ∨ kAns a = 4 := fun a => by cases a <;> decide
  rcases hx' with ⟨hu, h1⟩ | ⟨hu, rfl, rfl⟩
  · rw [m1] at h1
    have hxd : ∀ j : Nat, m.dst = (j : Int) → j = m.dst.toNat := fun j e => by omega
    generalize hX : G.at_ m.dst.toNat s = x at *
    cases h1 with
    | late h1 h2 => exact absurd (le_cmp (by rw [m2]; exact hprJ)) h2
    | prep h1 h2 =>
      refine stay rfl (isk rfl) (fun a d _ _ _ => ⟨fun hk j hj _ => ?_, fun hk => ?_⟩) (fun hk => by omega)
      · cases a with
        | true => exact absurd (hk.symm.trans h1) (by decide)
        | false => exact ⟨_, by rw [hmail]; exact List.mem_append_right _ (List.mem_singleton.2 rfl), rfl, hj⟩
      · rcases kN a with e | e <;> omega
    | acc h1 h2 =>
      refine stay rfl (isk rfl) (fun a d _ _ _ => ⟨fun hk j hj _ => ?_, fun hk => ?_⟩) (fun hk => by omega)
      · cases a with
        | false => exact absurd (hk.symm.trans h1) (by decide)
        | true => exact ⟨_, by rw [hmail]; exact List.mem_append_right _ (List.mem_singleton.2 rfl), rfl, hj⟩
      · rcases kN a with e | e <;> omega
    | no2 h1 h2 =>
      have ei : i = m.dst.toNat := by have := m7 (.inl h1); omega
      refine stay rfl (isk rfl) (fun a d hd hb ha => ⟨fun hk => ?_, fun hk j hj => ?_⟩) (fun hk => by omega)
      · rcases kA a with e | e <;> omega
      · cases a with
        | true => exact absurd (hk.symm.trans h1) (by decide)
        | false =>
          rw [ei, hX] at hd
          rw [← hj]
          exact Sl.cnts_none h2 d hd (hb.trans m2.symm) ha
    | no4 h1 h2 =>
      have ei : i = m.dst.toNat := by have := m7 (.inr h1); omega
      refine stay rfl (isk rfl) (fun a d hd hb ha => ⟨fun hk => ?_, fun hk j hj => ?_⟩) (fun hk => by omega)
      · rcases kA a with e | e <;> omega
      · cases a with
        | false => exact absurd (hk.symm.trans h1) (by decide)
        | true =>
          rw [ei, hX] at hd
          rw [← hj]
          exact Sl.cnts_none h2 d hd (hb.trans m2.symm) ha
    | known h1 h2 =>
      refine stay rfl (isk rfl) (fun a d _ _ _ => ⟨fun hk => ?_, fun hk => ?_⟩) (fun hk j hj _ => ?_)
      · rcases kA a with e | e <;> omega
      · rcases kN a with e | e <;> omega
      · rw [hat, if_pos (hxd j hj)]; exact h2
    | learn h1 h2 =>
      refine stay rfl (fun j hj h => ?_) (fun a d _ _ _ => ⟨fun hk => ?_, fun hk => ?_⟩) (fun hk j hj _ => ?_)
      · rw [hat]
        by_cases ej : j = m.dst.toNat
        · rw [if_pos ej]
        · rw [if_neg ej]; exact h
      · rcases kA a with e | e <;> omega
      · rcases kN a with e | e <;> omega
      · rw [hat, if_pos (hxd j hj)]
    | told h1 => exact absurd ⟨m3, m4⟩ h1
    | ans1 d2 h1 h2 h3 =>
      have ei : i = m.dst.toNat := by have := m7 (.inl h1); omega
      obtain ⟨d, c1, c2, c3, c4, rfl⟩ := Sl.cnts_some h2
      rcases hp.st with ⟨a, d', e1, e2, e3, e4, e5⟩ | ⟨e1, _⟩
      · rw [ei, hX, c1] at e1
        injection e1 with e1
        subst e1
        rw [c3] at e3
        subst e3
        refine .inl ⟨false, { d with ans := setA m.fr ⟨m.had, m.text⟩ d.ans }, by rw [hat, if_pos ei], e2, c3, ?_, fun j hj hu => ?_⟩
        · have := setA_len (v := ⟨m.had, m.text⟩) c4
          simp only at h3 ⊢
          omega
        · have hu := hup j hu
          rcases e5 j hj hu with h1' | h1' | h1'
          · rcases h1'.carry hm hmail with ⟨f1, f2⟩ | h2'
            · rw [h1] at f1; exact absurd f1 (by decide)
            · exact .inl h2'
          · rcases h1'.carry hm hmail with ⟨f1, f2⟩ | h2'
            · refine .inr (.inr ?_)
              simp only
              rw [getA_set, if_pos f2.symm]; rfl
            · exact .inr (.inl h2')
          · refine .inr (.inr ?_)
            simp only
            rw [getA_set]
            split
            · rfl
            · exact h1'
      · rw [ei, hX, c1] at e1; cases e1
    | ans2 d2 h1 h2 h3 =>
      have ei : i = m.dst.toNat := by have := m7 (.inr h1); omega
      obtain ⟨d, c1, c2, c3, c4, rfl⟩ := Sl.cnts_some h2
      rcases hp.st with ⟨a, d', e1, e2, e3, e4, e5⟩ | ⟨e1, _⟩
      · rw [ei, hX, c1] at e1
        injection e1 with e1
        subst e1
        rw [c3] at e3
        subst e3
        refine .inl ⟨true, { d with ans := setA m.fr ⟨m.had, m.text⟩ d.ans }, by rw [hat, if_pos ei], e2, c3, ?_, fun j hj hu => ?_⟩
        · have := setA_len (v := ⟨m.had, m.text⟩) c4
          simp only at h3 ⊢
          omega
        · have hu := hup j hu
          rcases e5 j hj hu with h1' | h1' | h1'
          · rcases h1'.carry hm hmail with ⟨f1, f2⟩ | h2'
            · rw [h1] at f1; exact absurd f1 (by decide)
            · exact .inl h2'
          · rcases h1'.carry hm hmail with ⟨f1, f2⟩ | h2'
            · refine .inr (.inr ?_)
              simp only
              rw [getA_set, if_pos f2.symm]; rfl
            · exact .inr (.inl h2')
          · refine .inr (.inr ?_)
            simp only
            rw [getA_set]
            split
            · rfl
            · exact h1'
      · rw [ei, hX, c1] at e1; cases e1
    | won d2 best h1 h2 h3 h4 =>
      have ei : i = m.dst.toNat := by have := m7 (.inl h1); omega
      obtain ⟨p1, p2, p3⟩ := bidPot_cnts (N := N) m2 h2
      refine .inl ⟨true, ⟨d2.bal, best.text, true, []⟩, by rw [hat, if_pos ei], p2, rfl, by simp, fun j hj _ => .inl ⟨_, by rw [hmail]; exact List.mem_append_right _ (List.mem_map.2 ⟨j, List.mem_range.2 (by omega), rfl⟩), rfl, rfl⟩⟩
    | done d2 h1 h2 h3 =>
      have ei : i = m.dst.toNat := by have := m7 (.inr h1); omega
      refine .inr ⟨by rw [hat, if_pos ei], fun j hj _ => .inl ⟨_, by rw [hmail]; exact List.mem_append_right _ (List.mem_map.2 ⟨j, List.mem_range.2 (by omega), rfl⟩), rfl, rfl⟩⟩
  · rw [m1] at stay isk
    have hne : ∀ j : Nat, m.dst = (j : Int) → (G.nd j).up = true → False := fun j hj hj2 => by
      have : j = m.dst.toNat := by omega
      rw [this, hu] at hj2
      cases hj2
    refine stay rfl (isk rfl) (fun a d _ _ _ => ⟨fun hk j hj hj2 => (hne j hj hj2).elim, fun hk => ?_⟩) fun hk j hj hj2 => (hne j hj hj2).elim
    have := m7 (by rcases kN a with e | e <;> omega)
    exact (hne i this hp.up).elim
/-- at the end all that are up have learned -/
theorem Prog.end (hp : Prog b i s N G) (hm : G.mail = []) (hu : N / 2 + 1 ≤ ((List.range N).filter fun j => (G.nd j).up).length) : ∀ j, j < N → (G.nd j).up = true → (G.at_ j s).is = true := by
  have noA : ∀ kd j, ¬ Ask1 G kd j := fun kd j ⟨m, h, _⟩ => by rw [hm] at h; cases h
  have noF : ∀ kd j, ¬ From1 G kd j := fun kd j ⟨m, h, _⟩ => by rw [hm] at h; cases h
  rcases hp.st with ⟨a, d, d1, d2, d3, d4, d5⟩ | ⟨_, d5⟩
  · exfalso
    have hnd : (((List.range N).filter fun j => (G.nd j).up).map fun (j : Nat) => (j : Int)).Nodup := by
      unfold List.Nodup
      rw [List.pairwise_map]
      exact (List.Pairwise.filter _ List.nodup_range).imp fun h e => h (by omega)
    have := nodup_sub (l' := d.ans.map (·.1)) hnd fun x hx => by
      obtain ⟨j, hj, rfl⟩ := List.mem_map.1 hx
      obtain ⟨h1, h2⟩ := List.mem_filter.1 hj
      rcases d5 j (List.mem_range.1 h1) h2 with h | h | h
      · exact (noA _ _ h).elim
      · exact (noF _ _ h).elim
      · obtain ⟨v, hv⟩ := Option.isSome_iff_exists.1 h
        exact List.mem_map.2 ⟨_, getA_mem hv, rfl⟩
    rw [List.length_map, List.length_map] at this
    omega
  · intro j hj h
    rcases d5 j hj h with h | h
    · exact (noA _ _ h).elim
    · exact h
end

end Go.Proofs.Ytbgopicpdpkccaa

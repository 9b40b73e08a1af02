/- What is owed, beside a queue. -/
import Derived.Test.YtppcjaljhahdnaaQReq
namespace Go.Proofs.Ytppcjaljhahdnaa
open Go.RowKit
set_option linter.unusedVariables false
set_option linter.unusedSimpArgs false

/-- what the law compares of a request -/
def key (p : Pl) : Int × Int × ByteArray := (p.cl, p.tok, p.nm)
def SameKeys (l : List RP) (L : List Pl) : Prop := (plans l).map key = L.map key
theorem SameKeys.len {l : List RP} {L : List Pl} (h : SameKeys l L) : l.length = L.length := by
  have := congrArg List.length h
  simpa [plans] using this
theorem SameKeys.at_ {l : List RP} {L : List Pl} (h : SameKeys l L) {k : Nat} (h1 : k < l.length) (h2 : k < L.length) : l[k].p.cl = L[k].cl ∧ l[k].p.tok = L[k].tok ∧ l[k].p.nm = L[k].nm := by
  have e : ((plans l).map key)[k]? = (L.map key)[k]? := by rw [h]
  simpa [plans, key, h1, h2] using e
theorem SameKeys.idx {l : List RP} {L : List Pl} (h : SameKeys l L) (c t : Int) : idxP c t (plans l) 0 = idxP c t L 0 := by
  have : ∀ (a b : List Pl) (i : Nat), a.map key = b.map key → idxP c t a i = idxP c t b i := by
    intro a
    induction a with
    | nil => intro b i h; cases b with
      | nil => rfl
      | cons _ _ => simp at h
    | cons p a ih =>
      intro b i h
      cases b with
      | nil => simp at h
      | cons q b =>
        simp only [List.map_cons, List.cons.injEq] at h
        have hk : isP c t p = isP c t q := by
          have := h.1
          unfold key at this
          simp only [Prod.mk.injEq] at this
          unfold isP
          rw [this.1, this.2.1]
        unfold idxP
        rw [hk, ih b (i + 1) h.2]
  exact this _ _ 0 h
theorem SameKeys.snoc {l : List RP} {L : List Pl} (h : SameKeys l L) {r : RP} {p : Pl} (hp : p = r.p) : SameKeys (l ++ [r]) (L ++ [p]) := by
  unfold SameKeys at *
  subst hp
  rw [show plans (l ++ [r]) = plans l ++ [r.p] from by simp [plans], List.map_append, List.map_append, h]
theorem SameKeys.out {l : List RP} {L : List Pl} (h : SameKeys l L) (m : Nat) : SameKeys (l.take m ++ l.drop (m + 1)) (L.take m ++ L.drop (m + 1)) := by
  unfold SameKeys at *
  rw [plans_out, List.map_append, List.map_append, List.map_take, List.map_drop, List.map_take, List.map_drop, h]

/-- what is owed, in a row of its own -/
structure Owe (W : World) (S : Nat → Prop) (v : Value) (l : List RP) (wr : World) : Prop where
  req : ReqAt wr v l
  out : ∀ b, v.ownBlock = some b → ¬ S b ∧ W.heap.size < b
theorem Owe.step {W wr w' : World} {S : Nat → Prop} {v : Value} {l : List RP} (h : Owe W S v l wr) (hb : Below wr.heap.size wr w') : Owe W S v l w' := ⟨h.req.below hb, h.out⟩
theorem Owe.turn {W wr w' : World} {S S' : Nat → Prop} {v : Value} {l : List RP} (h : Owe W S v l wr) (hS : ∀ k, S' k → S k ∨ wr.heap.size ≤ k) (hu : Upd S wr w') : Owe W S' v l w' := by
  refine ⟨h.req.upd hu fun b hb => (h.out b hb).1, fun b hb => ⟨fun hs => ?_, (h.out b hb).2⟩⟩
  rcases hS b hs with h1 | h1
  · exact (h.out b hb).1 h1
  · have := h.req.lt hb; omega

theorem Owe.fresh {W wr : World} {S : Nat → Prop} {v : Value} {l : List RP} (h : Owe W S v l wr) {k : Nat} (hk : wr.heap.size ≤ k) : v.ownBlock ≠ some k := fun e => by have := h.req.lt e; omega

def OrdRel (W : World) (g : Nat) (mt sh wn : Int) (A : Option Addr) (c : Nat) (us : List QA) (v i' : Value) (wr : World) : Prop :=
  ∃ (i : Nat) (S : Nat → Prop) (L : List Pl) (T : Int → List Int) (l : List RP), i' = .int .i64 i ∧ i ≤ us.length ∧ Beside W g mt sh wn A c us S L T wr ∧ Owe W S v l wr ∧ SameKeys l L ∧ Bnd sh L

/-- a request goes out of the midst -/
theorem rqcells_take (L : List RP) (m : Nat) : (rqcells L).take (m * 4) = rqcells (L.take m) := by
  induction L generalizing m with
  | nil => simp [rqcells]
  | cons p l ih =>
    cases m with
    | zero => simp [rqcells]
    | succ m =>
      have := ih m
      simp only [rqcells, List.flatMap_cons, List.take_succ_cons] at this ⊢
      rw [show (m + 1) * 4 = (rcells p).length + m * 4 by simp [rcells]; omega, List.take_length_add_append, this]
theorem rqcells_drop (L : List RP) (m : Nat) : (rqcells L).drop (m * 4) = rqcells (L.drop m) := by
  induction L generalizing m with
  | nil => simp [rqcells]
  | cons p l ih =>
    cases m with
    | zero => simp
    | succ m =>
      have := ih m
      simp only [rqcells, List.flatMap_cons, List.drop_succ_cons] at this ⊢
      rw [show (m + 1) * 4 = (rcells p).length + m * 4 by simp [rcells]; omega, List.drop_length_add_append, this]
theorem Rd.preq {S : Nat → Prop} {w : World} {b o : Nat} {L : List RP} (h : Rd S w 4 (some ⟨b, o, none⟩) L.length (rqcells L)) (m : Nat) (hm : m ≤ L.length) : Rd S w 4 (some ⟨b, o, none⟩) m (rqcells (L.take m)) := by
  rw [← rqcells_take]
  refine ⟨by rw [List.length_take, h.1]; omega, fun h0 => ?_⟩
  obtain ⟨b', o', e, hS, hl, hc⟩ := h.2 (by omega)
  refine ⟨b', o', e, hS, hl, fun j u hu => hc j u ?_⟩
  rw [List.getElem?_take] at hu
  split at hu
  · exact hu
  · cases hu
theorem Rd.sufq {S : Nat → Prop} {w : World} {b o c : Nat} {L : List RP} (h : Rd S w 4 (some ⟨b, o, none⟩) L.length (rqcells L)) (m : Nat) (hc : ¬ c = m) (hL : L.length ≤ c) : Rd S w 4 (some ⟨b, o + m * 4, none⟩) (L.length - m) (rqcells (L.drop m)) := by
  rw [← rqcells_drop]
  refine ⟨by rw [List.length_drop, h.1, Nat.sub_mul], fun h0 => ?_⟩
  obtain ⟨b', o', e, hS, hl, hcc⟩ := h.2 (by omega)
  injection e with e
  injection e with e1 e2 _
  subst e1; subst e2
  refine ⟨b, o + m * 4, rfl, hS, hl, fun j u hu => ?_⟩
  rw [List.getElem?_drop] at hu
  have := hcc _ u hu
  rwa [← Nat.add_assoc] at this
/-- the place of a request: none, or one of the row -/
theorem idxP_lt (c t : Int) : ∀ (L : List Pl) (i : Nat), idxP c t L i = -1 ∨ ∃ m : Nat, m < L.length ∧ idxP c t L i = ((i + m : Nat) : Int) := by
  intro L
  induction L with
  | nil => intro i; exact .inl rfl
  | cons p L ih =>
    intro i
    unfold idxP
    by_cases hp : isP c t p = true
    · rw [if_pos hp]; exact .inr ⟨0, by simp, rfl⟩
    · rw [if_neg hp]
      rcases ih (i + 1) with h | ⟨m, hm, h⟩
      · exact .inl h
      · refine .inr ⟨m + 1, by simp; omega, ?_⟩
        rw [h]; congr 1; omega
/-- behind the two appends -/
theorem owe_of_two {W0 W wx : World} {S : Nat → Prop} {A' : Option Addr} {c' n m : Nat} {l : List RP} (hb : Below W.heap.size W wx) (ho : wx.ownsRow W.heap.size 35 4 (.slice A' n c') n (rqcells (l.take m) ++ rqcells (l.drop (m + 1)))) (hn : (l.take m ++ l.drop (m + 1)).length = n) (h0 : W0.heap.size < W.heap.size) (hS : ∀ k, S k → k < W.heap.size) : Owe W0 S (.slice A' n c') (l.take m ++ l.drop (m + 1)) wx := by
  rw [← rqcells_app] at ho
  refine ⟨ReqAt.of_own (n := n) hn.symm ho, fun b hbb => ?_⟩
  have := (ho.lt b hbb).1
  exact ⟨fun hs => by have := hS b hs; omega, by omega⟩
/-- the two appends, one behind the other -/
theorem run_two (w : World) (l : List RP) (m n c0 c : Nat) (A0 A : Option Addr) (h0 : Rd (fun k => k < w.heap.size) w 4 A0 m (rqcells (l.take m))) (h1 : Rd (fun k => k < w.heap.size) w 4 A n (rqcells (l.drop (m + 1)))) (hm : m < l.length) (hn : m + n = l.length - 1) (hl : l.length ≤ 1000000000) :
    ∃ A2 c2 w2 A3 c3 w3, (Builtin.append_ #[52, 52] 52 #[.slice (some ⟨w.heap.size, 0, none⟩) 0 0, .slice A0 m c0]).run Try.prog (w.alloc (.cells #[] 35)).drew = .ok (.slice A2 m c2) w2 ∧ Below w.heap.size w w2 ∧
      (Builtin.append_ #[52, 52] 52 #[.slice A2 m c2, .slice A n c]).run Try.prog w2 = .ok (.slice A3 (l.length - 1) c3) w3 ∧ Below w.heap.size w w3 ∧ w3.ownsRow w.heap.size 35 4 (.slice A3 (l.length - 1) c3) (l.length - 1) (rqcells (l.take m) ++ rqcells (l.drop (m + 1))) := by
  obtain ⟨i0, hi0, hz0, hz1, hz2⟩ := info_parts info_req
  obtain ⟨v2, w2, hr2, ho2, hg2, _⟩ := run_append_rd (P := Try.prog) (w.alloc (.cells #[] 35)).drew w.heap.size 52 52 35 i0 _ 4 56 Try.underlying52 hi0 hz0 hz1 hz2 rfl (by omega) (.slice (some ⟨w.heap.size, 0, none⟩) 0 0) 0 [] (World.ownsRow.drew (own_empty w _ 4)) (fun k => k < w.heap.size) A0 m c0 (rqcells (l.take m)) (h0.alloc _).drew (rqcells_one _) (by simp only [maxLen]; omega) (by omega) (by simp)
  rw [Nat.zero_add, List.nil_append] at ho2
  obtain ⟨A2, c2, rfl, _, _⟩ := own_form ho2
  have hb2 : Below w.heap.size w w2 := (((Below.refl _ w).alloc (Nat.le_refl _) (.cells #[] 35)).drew).grown hg2 (by simp) fun k hk => Nat.le_of_eq (by simpa [Value.ownBlock] using hk)
  obtain ⟨v3, w3, hr3, ho3, hg3, _⟩ := run_append_rd (P := Try.prog) w2 w.heap.size 52 52 35 i0 _ 4 56 Try.underlying52 hi0 hz0 hz1 hz2 rfl (by omega) (.slice A2 m c2) m (rqcells (l.take m)) ho2 (fun k => k < w.heap.size) A n c (rqcells (l.drop (m + 1))) (h1.below_all hb2) (rqcells_one _) (by simp only [maxLen]; omega) (by omega) hb2.size
  rw [hn] at ho3
  obtain ⟨A3, c3, rfl, _, _⟩ := own_form ho3
  exact ⟨A2, c2, w2, A3, c3, w3, hr2, hb2, hr3, hb2.grown hg3 hb2.size fun k hk => (ho2.lt k hk).1, ho3⟩

end Go.Proofs.Ytppcjaljhahdnaa

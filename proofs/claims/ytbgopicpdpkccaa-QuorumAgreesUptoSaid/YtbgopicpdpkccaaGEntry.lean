/- 'm[k] += ..': the entry, then its value. -/
import Derived.Test.YtbgopicpdpkccaaGBase
namespace Go.Proofs.Ytbgopicpdpkccaa
open Go.RowKit
set_option linter.unusedVariables false
set_option linter.unusedSimpArgs false

section
variable {P : Program} {k : TypeId} {κ : Type} [DecidableEq κ] {E : KeyEnc P k κ}
/-- where an entry stands -/
def EntryAt (E : KeyEnc P k κ) (w : World) (b : Nat) (st : Int) (x : κ) (l : List (κ × Value)) : Prop :=
  ∃ es clock i l', w.heap[b]? = some (.map es clock) ∧ pairs es.toList = encs E l' ∧ MapKept.Stamped es clock ∧ (∃ e, es[i]? = some e ∧ (e.born : Int) = st) ∧ ∀ v, l'.modify i (fun p => (p.1, v)) = setK x v l
theorem EntryAt.keep {w w' : World} {b : Nat} {st : Int} {x : κ} {l : List (κ × Value)} (h : EntryAt E w b st x l) (hb : w'.heap[b]? = w.heap[b]?) : EntryAt E w' b st x l := by
  obtain ⟨es, c, i, l', h, h2⟩ := h
  exact ⟨es, c, i, l', hb.trans h, h2⟩
theorem MapIs.entry {w : World} {b : Nat} {l : List (κ × Value)} {t e : TypeId} (h : MapIs E w b l) (ht : P.underlying t = some (.map k e)) {z : Value} (hz : ∀ w, (zeroValue e).run P w = .ok z w) (x : κ) :
    ∃ v0 st w', (Instr.mapEntry t (.map (some b)) (E.enc x)).run P w = .ok (.tuple #[v0, .int .i64 st]) w' ∧ EntryAt E w' b st x l ∧ MapIs E w' b (setK x v0 l) ∧ v0 = (getK x l).getD z ∧ w.grownBy w' (some b) ∧ w'.heap.size = w.heap.size := by
  have hlt := h.lt
  obtain ⟨es, c, h, h2, hst⟩ := h
  have hlen : es.size = l.length := by
    have := congrArg List.length h2
    simpa [pairs, encs] using this
  simp only [Instr.mapEntry, Sem.run_bind, run_underlying ht, Result.andThen_ok, MapKept.run_getObj_map h, E.check, findKey_ok E x w es.toList l h2]
  cases hl : look x l 0 with
  | none =>
    have hg : z = (getK x l).getD z := by unfold getK; rw [hl]; rfl
    have hmid : MapIs E { w with heap := w.heap.setIfInBounds b (.map (es.push { key := E.enc x, val := z, born := c }) (c + 1)) } b (setK x z l) := by
      rw [(look_none (v := z) hl).1]
      refine ⟨_, _, heap_set_eq w b _ hlt, ?_, MapKept.stamped_push hst fun y hy e => ?_⟩
      · simp [pairs, encs] at h2 ⊢
        exact h2
      · have hy2 : (y.key, y.val) ∈ encs E l := by rw [← h2]; exact List.mem_map.2 ⟨y, hy, rfl⟩
        obtain ⟨p, hp, e2⟩ := List.mem_map.1 hy2
        have e3 : E.enc p.1 = y.key := by injection e2
        exact look_none_key hl p hp (E.inj w (e3.trans e))
    refine ⟨z, (c : Int), _, ?_, ⟨es.push { key := E.enc x, val := z, born := c }, c + 1, es.size, l ++ [(x, z)], heap_set_eq w b _ hlt, ?_, MapKept.stamped_push hst fun y hy e => ?_, ⟨{ key := E.enc x, val := z, born := c }, by simp, rfl⟩, fun v => ?_⟩, hmid, hg, grown_set w b _, by simp⟩
    · simp only [Sem.run_bind, hz, Result.andThen_ok, MapKept.run_setObj_map _ h, Sem.run_pure, goInt]
    · simp [pairs, encs] at h2 ⊢
      exact h2
    · have hy2 : (y.key, y.val) ∈ encs E l := by rw [← h2]; exact List.mem_map.2 ⟨y, hy, rfl⟩
      obtain ⟨p, hp, e2⟩ := List.mem_map.1 hy2
      have e3 : E.enc p.1 = y.key := by injection e2
      exact look_none_key hl p hp (E.inj w (e3.trans e))
    · rw [(look_none (v := v) hl).1, hlen]
      apply List.ext_getElem?
      intro i
      simp only [List.getElem?_modify, List.getElem?_append]
      by_cases hi : l.length = i
      · subst hi
        simp
      · by_cases hi2 : i < l.length
        · simp [hi, hi2]
        · have : ¬ i - l.length = 0 := by omega
          cases hd : i - l.length with
          | zero => omega
          | succ m => simp [hi, hi2]
  | some r =>
    obtain ⟨j, v0⟩ := r
    have hls := fun v => look_some (v := v) hl
    obtain ⟨_, h1, _, _⟩ := look_some (v := z) hl
    simp only [Nat.sub_zero] at h1 hls
    have hk : (((es[j]?).map (·.key)).getD (E.enc x)) = E.enc x := by
      have := congrArg (fun q => (q[j]?).map (·.1)) h2
      simp [pairs, encs, h1] at this
      cases hj : es[j]? with
      | none => simp
      | some y => simp [hj] at this; simp [this]
    obtain ⟨y, hj⟩ : ∃ y, es[j]? = some y := by
      have h3 : j < l.length := (List.getElem?_eq_some_iff.1 h1).1
      exact ⟨es[j]'(by omega), Array.getElem?_eq_getElem (by omega)⟩
    have hky : y.key = E.enc x := by rw [hj] at hk; exact hk
    have hpm : pairs (es.modify j fun e => { e with key := E.enc x }).toList = encs E l := by
      rw [← h2]
      simp only [pairs, Array.toList_modify]
      apply List.ext_getElem?
      intro i
      simp only [List.getElem?_map, List.getElem?_modify]
      by_cases hi : j = i
      · subst hi
        have hj2 : es.toList[j]? = some y := by simpa using hj
        simp [hj2, hky]
      · simp [hi]
    have hsl : setK x v0 l = l := by
      rw [(hls v0).2.2.1]
      apply List.ext_getElem?
      intro i
      simp only [List.getElem?_modify]
      by_cases hi : j = i
      · subst hi
        simp [h1]
      · simp [hi]
    have hsm : MapKept.Stamped (es.modify j fun e => { e with key := E.enc x }) c := MapKept.stamped_modify hst _ _ (fun _ _ => rfl) fun y' hy hj' => by
      rw [hj] at hj'
      injection hj' with hj'
      rw [← hj', hky]
    have hmid : MapIs E { w with heap := w.heap.setIfInBounds b (.map (es.modify j fun e => { e with key := E.enc x }) c) } b (setK x v0 l) := by
      rw [hsl]
      exact ⟨_, _, heap_set_eq w b _ hlt, hpm, hsm⟩
    have hg : v0 = (getK x l).getD z := by unfold getK; rw [hl]; rfl
    refine ⟨v0, (y.born : Int), _, ?_, ⟨es.modify j fun e => { e with key := E.enc x }, c, j, l, heap_set_eq w b _ hlt, hpm, hsm, ⟨{ y with key := E.enc x }, (by rw [Array.getElem?_modify, if_pos rfl, hj]; rfl), rfl⟩, fun v => ?_⟩, hmid, hg, grown_set w b _, Array.size_setIfInBounds ..⟩
    · simp only [hk, Instr.keyThatStays, E.bits, if_true, Sem.run_pure, Sem.run_bind, Result.andThen_ok, MapKept.run_setObj_map _ h]
      simp only [hj, Option.map_some, Option.getD_some, goInt]
    · rw [(hls v).2.2.1]
      apply List.ext_getElem?
      intro i
      simp only [List.getElem?_modify]
      by_cases hi : j = i
      · subst hi
        simp [h1]
      · simp [hi]
theorem EntryAt.store {w : World} {b : Nat} {st : Int} {x : κ} {l : List (κ × Value)} (h : EntryAt E w b st x l) (t : TypeId) (v : Value) :
    ∃ w', (Instr.entryStore t (.map (some b)) (.int .i64 st) v).run P w = .ok () w' ∧ MapIs E w' b (setK x v l) ∧ w.grownBy w' (some b) ∧ w'.heap.size = w.heap.size := by
  obtain ⟨es, c, i, l', h, h2, hst, ⟨e, he, heb⟩, hv⟩ := h
  have hlt : b < w.heap.size := (Array.getElem?_eq_some_iff.1 h).1
  obtain ⟨hi, he2⟩ := Array.getElem?_eq_some_iff.1 he
  have hf : es.findIdx? (fun e => (e.born : Int) == st) = some i := by
    rw [Array.findIdx?_eq_some_iff_getElem]
    refine ⟨hi, by simp [he2, heb], fun j hj => ?_⟩
    intro hp
    have hp : (es[j].born : Int) = st := by simpa using hp
    have hnd := ((MapKept.stamped_iff es c).1 hst).2.1
    unfold List.Nodup at hnd
    rw [List.pairwise_map, List.pairwise_iff_getElem] at hnd
    have := hnd j i (by simpa using Nat.lt_trans hj hi) (by simpa using hi) hj
    simp only [Array.getElem_toList] at this
    rw [he2] at this
    exact this (by omega)
  simp only [Instr.entryStore, Sem.run_bind, MapKept.run_getObj_map h, Result.andThen_ok]
  rw [show (asInt (.int .i64 st)).run P w = .ok st w from by simp [asInt, asIntOf]]
  simp only [Result.andThen_ok, hf]
  refine ⟨_, MapKept.run_setObj_map _ h, ⟨_, _, heap_set_eq w b _ hlt, ?_, MapKept.stamped_modify hst _ _ (fun _ _ => rfl) fun _ _ _ => rfl⟩, grown_set w b _, by simp⟩
  rw [← hv v]
  simp only [pairs, encs, Array.toList_modify] at h2 ⊢
  apply List.ext_getElem?
  intro q
  have h2i := congrArg (fun r => r[q]?) h2
  simp only [List.getElem?_map, List.getElem?_modify] at h2i ⊢
  by_cases hq : i = q
  · subst hq
    simp only [if_true] at *
    cases hj : es.toList[i]? <;> cases hj2 : l'[i]? <;> simp_all
  · simp only [if_neg hq] at *
    simpa using h2i
end

end Go.Proofs.Ytbgopicpdpkccaa

/- Texts of the proof, joined: GMap, SMap. -/
import Derived.Test.YtphglnenafdkaaaGreatDoorP01
import Derived.Test.YtphglnenafdkaaaGreatDoorRows
import Derived.Laws.StructEq
import Derived.Maps.Own
import Derived.Maps.RangeRun
namespace Go.Proofs.YtphglnenafdkaaaGreatDoor
open Go.RowKit

/-- how the keys of a map's key type lie in memory -/
structure KeyEnc (P : Program) (k : TypeId) (κ : Type) [DecidableEq κ] where
  enc : κ → Value
  desc : TypeDesc
  under : P.underlying k = some desc
  eq : ∀ (a b : κ) (w : World), (Op.equal k (enc a) (enc b)).run P w = .ok (decide (a = b)) w
  check : ∀ (em : Bool) (a : κ) (w : World), (Instr.checkKey em 10000 k (enc a)).run P w = .ok () w
  now : ∀ a b : κ, Instr.sameNow desc (enc a) (enc b) = none ∨ Instr.sameNow desc (enc a) (enc b) = some (decide (a = b))
  bits : ∀ a : κ, Instr.sameBits 10000 (enc a) (enc a) = true

section
variable {P : Program} {k : TypeId} {κ : Type} [DecidableEq κ] (E : KeyEnc P k κ)

/-- the first entry of a key: its place and value -/
def look (x : κ) : List (κ × Value) → Nat → Option (Nat × Value)
  | [], _ => none
  | p :: l, i => if x = p.1 then some (i, p.2) else look x l (i + 1)
def getK (x : κ) (l : List (κ × Value)) : Option Value := (look x l 0).map (·.2)
def setK (x : κ) (v : Value) : List (κ × Value) → List (κ × Value)
  | [] => [(x, v)]
  | p :: l => if x = p.1 then (x, v) :: l else p :: setK x v l
def delK (x : κ) : List (κ × Value) → List (κ × Value)
  | [] => []
  | p :: l => if x = p.1 then l else p :: delK x l

def pairs (es : List MapEntry) : List (Value × Value) := es.map fun e => (e.key, e.val)
def encs (l : List (κ × Value)) : List (Value × Value) := l.map fun p => (E.enc p.1, p.2)

theorem findNow_ok (x : κ) : ∀ (es : List MapEntry) (l : List (κ × Value)) (i : Nat), pairs es = encs E l → ∀ r, Instr.findNow E.desc (E.enc x) es i = some r → r = look x l i := by
  intro es
  induction es with
  | nil =>
    intro l i h r hr
    cases l with
    | nil => simp [Instr.findNow] at hr; simp [look, hr]
    | cons p l => simp [pairs, encs] at h
  | cons e es ih =>
    intro l i h r hr
    cases l with
    | nil => simp [pairs, encs] at h
    | cons p l =>
      simp only [pairs, encs, List.map_cons, List.cons.injEq, Prod.mk.injEq] at h
      obtain ⟨⟨hk, hv⟩, ht⟩ := h
      simp only [Instr.findNow, hk] at hr
      rcases E.now x p.1 with hn | hn
      · rw [hn] at hr; simp at hr
      · rw [hn] at hr
        by_cases hx : x = p.1
        · subst hx
          simp at hr
          simp [look, ← hr, hv]
        · simp only [hx, decide_false] at hr
          simp only [look, if_neg hx]
          exact ih l (i + 1) ht r hr
theorem findAsking_ok (x : κ) (w : World) : ∀ (es : List MapEntry) (l : List (κ × Value)) (i : Nat), pairs es = encs E l → (Instr.findAsking k (E.enc x) es i).run P w = .ok (look x l i) w := by
  intro es
  induction es with
  | nil =>
    intro l i h
    cases l with
    | nil => simp [Instr.findAsking, look]
    | cons p l => simp [pairs, encs] at h
  | cons e es ih =>
    intro l i h
    cases l with
    | nil => simp [pairs, encs] at h
    | cons p l =>
      simp only [pairs, encs, List.map_cons, List.cons.injEq, Prod.mk.injEq] at h
      obtain ⟨⟨hk, hv⟩, ht⟩ := h
      simp only [Instr.findAsking, Sem.run_bind, hk, E.eq, Result.andThen_ok]
      by_cases hx : x = p.1
      · subst hx; simp [look, hv]
      · simp only [hx, decide_false, look]
        simpa using ih l (i + 1) ht
theorem findKey_ok (x : κ) (w : World) (es : List MapEntry) (l : List (κ × Value)) (h : pairs es = encs E l) : (Instr.findKey k (E.enc x) es).run P w = .ok (look x l 0) w := by
  simp only [Instr.findKey, Sem.run_bind, run_underlying E.under, Result.andThen_ok]
  cases hf : Instr.findNow E.desc (E.enc x) es 0 with
  | none => exact findAsking_ok E x w es l 0 h
  | some r => rw [findNow_ok E x es l 0 h r hf]; simp

/-- block b is a map that holds just l -/
def MapIs (w : World) (b : Nat) (l : List (κ × Value)) : Prop := ∃ es clock, w.heap[b]? = some (.map es clock) ∧ pairs es.toList = encs E l ∧ MapKept.Stamped es clock

variable {E}
theorem MapIs.lt {w : World} {b : Nat} {l : List (κ × Value)} (h : MapIs E w b l) : b < w.heap.size := by
  obtain ⟨es, c, h, _⟩ := h
  exact (Array.getElem?_eq_some_iff.1 h).1
theorem MapIs.keep {w w' : World} {b : Nat} {l : List (κ × Value)} (h : MapIs E w b l) (hb : w'.heap[b]? = w.heap[b]?) : MapIs E w' b l := by
  obtain ⟨es, c, h, h2⟩ := h
  exact ⟨es, c, hb.trans h, h2⟩
theorem MapIs.alloc {w : World} {b : Nat} {l : List (κ × Value)} (h : MapIs E w b l) (o : Obj) : MapIs E (w.alloc o) b l := h.keep (Below.heap_alloc w o b h.lt)
theorem MapIs.setCell {w : World} {b : Nat} {l : List (κ × Value)} (h : MapIs E w b l) (p : Addr) (u : Value) (hp : b ≠ p.block) : MapIs E (w.setCell p u) b l := h.keep (Below.heap_setCell w p u b hp)
theorem MapIs.below {w w' : World} {b : Nat} {l : List (κ × Value)} (h : MapIs E w b l) (hb : Below w.heap.size w w') : MapIs E w' b l := h.keep (hb.block b h.lt)
theorem MapIs.upd {w w' : World} {b : Nat} {l : List (κ × Value)} {M : Nat → Prop} (h : MapIs E w b l) (hb : Upd M w w') (hn : ¬ M b) : MapIs E w' b l := h.keep (hb.block b h.lt hn)
theorem MapIs.new (w : World) : MapIs E (w.alloc (.map #[] 0)) w.heap.size [] := ⟨#[], 0, heap_alloc_new w _, rfl, MapKept.stamped_empty _⟩
theorem MapIs.new' (w : World) {g : Nat} (hg : g = w.heap.size) : MapIs E (w.alloc (.map #[] 0)) g [] := by subst hg; exact .new w
/-- a map and a row of cells are two -/
theorem MapIs.ne_blk {w : World} {b g : Nat} {l : List (κ × Value)} {t : TypeId} {cs : Array Value} (h : MapIs E w b l) (hb : Blk w g t cs) : b ≠ g := by
  rintro rfl
  obtain ⟨es, c, h, _⟩ := h
  unfold Blk at hb
  rw [h] at hb
  cases hb

theorem MapIs.size {w : World} {b : Nat} {l : List (κ × Value)} (h : MapIs E w b l) : ∃ es clock, w.heap[b]? = some (.map es clock) ∧ es.size = l.length := by
  obtain ⟨es, c, h, h2, _⟩ := h
  refine ⟨es, c, h, ?_⟩
  have := congrArg List.length h2
  simpa [pairs, encs] using this

/-- 'v, ok := m[k]' -/
theorem MapIs.lookup_ok {w : World} {b : Nat} {l : List (κ × Value)} {t e : TypeId} (h : MapIs E w b l) (ht : P.underlying t = some (.map k e)) {z : Value} (hz : ∀ w, (zeroValue e).run P w = .ok z w) (x : κ) :
    (Instr.lookup t (.map (some b)) (E.enc x) true).run P w = .ok (.tuple #[(getK x l).getD z, .bool (getK x l).isSome]) w := by
  obtain ⟨es, c, h, h2, _⟩ := h
  simp only [Instr.lookup, Sem.run_bind, run_underlying ht, Result.andThen_ok, MapKept.run_getObj_map h, Sem.run_pure, E.check, findKey_ok E x w es.toList l h2]
  cases hl : look x l 0 with
  | none => simp [getK, hl, hz]
  | some r => simp [getK, hl]
/-- 'm[k]' -/
theorem MapIs.lookup {w : World} {b : Nat} {l : List (κ × Value)} {t e : TypeId} (h : MapIs E w b l) (ht : P.underlying t = some (.map k e)) {z : Value} (hz : ∀ w, (zeroValue e).run P w = .ok z w) (x : κ) :
    (Instr.lookup t (.map (some b)) (E.enc x) false).run P w = .ok ((getK x l).getD z) w := by
  obtain ⟨es, c, h, h2, _⟩ := h
  simp only [Instr.lookup, Sem.run_bind, run_underlying ht, Result.andThen_ok, MapKept.run_getObj_map h, Sem.run_pure, E.check, findKey_ok E x w es.toList l h2]
  cases hl : look x l 0 with
  | none => simp [getK, hl, hz]
  | some r => simp [getK, hl]
theorem look_none {x : κ} {v : Value} : ∀ {l : List (κ × Value)} {i : Nat}, look x l i = none → setK x v l = l ++ [(x, v)] ∧ delK x l = l := by
  intro l
  induction l with
  | nil => intro i _; exact ⟨rfl, rfl⟩
  | cons p l ih =>
    intro i h
    by_cases hx : x = p.1
    · simp [look, hx] at h
    · simp only [look, if_neg hx] at h
      obtain ⟨h1, h2⟩ := ih h
      simp [setK, delK, hx, h1, h2]
theorem look_some {x : κ} {v : Value} : ∀ {l : List (κ × Value)} {i j : Nat} {v0 : Value}, look x l i = some (j, v0) → i ≤ j ∧ l[j - i]? = some (x, v0) ∧ setK x v l = l.modify (j - i) (fun _ => (x, v)) ∧ delK x l = l.eraseIdx (j - i) := by
  intro l
  induction l with
  | nil => intro i j v0 h; simp [look] at h
  | cons p l ih =>
    intro i j v0 h
    by_cases hx : x = p.1
    · simp only [look, if_pos hx, Option.some.injEq, Prod.mk.injEq] at h
      obtain ⟨rfl, rfl⟩ := h
      subst hx
      simp [setK, delK]
    · simp only [look, if_neg hx] at h
      obtain ⟨h0, h1, h2, h3⟩ := ih h
      have e : j - i = (j - (i + 1)) + 1 := by omega
      refine ⟨by omega, ?_, ?_, ?_⟩
      · rw [e]; simpa using h1
      · rw [e]; simp [setK, hx, h2]
      · rw [e]; simp [delK, hx, h3]

theorem map_eraseIdx {α β : Type} (f : α → β) : ∀ (l : List α) (j : Nat), (l.eraseIdx j).map f = (l.map f).eraseIdx j := by
  intro l
  induction l with
  | nil => intro j; rfl
  | cons a l ih =>
    intro j
    cases j with
    | zero => rfl
    | succ j => simp [ih]
theorem heap_set_ne (w : World) (b : Nat) (o : Obj) (i : Nat) (hi : i ≠ b) : ({ w with heap := w.heap.setIfInBounds b o } : World).heap[i]? = w.heap[i]? := by
  show (w.heap.setIfInBounds b o)[i]? = _
  rw [Array.getElem?_setIfInBounds_ne (Ne.symm hi)]
theorem heap_set_eq (w : World) (b : Nat) (o : Obj) (hb : b < w.heap.size) : ({ w with heap := w.heap.setIfInBounds b o } : World).heap[b]? = some o := by
  show (w.heap.setIfInBounds b o)[b]? = _
  rw [Array.getElem?_setIfInBounds_self_of_lt hb]
theorem grown_set (w : World) (b : Nat) (o : Obj) : w.grownBy { w with heap := w.heap.setIfInBounds b o } (some b) :=
  ⟨rfl, rfl, rfl, by simp, fun k _ hn => heap_set_ne w b o k (fun e => hn (by rw [e]))⟩

/-- 'm[k] = v' -/
theorem look_none_key {x : κ} : ∀ {l : List (κ × Value)} {i : Nat}, look x l i = none → ∀ p ∈ l, p.1 ≠ x := by
  intro l
  induction l with
  | nil => intro i _ p hp; cases hp
  | cons q l ih =>
    intro i h p hp
    unfold look at h
    by_cases e : x = q.1
    · rw [if_pos e] at h; cases h
    · rw [if_neg e] at h
      rcases List.mem_cons.1 hp with rfl | hp
      · exact fun h => e h.symm
      · exact ih h p hp
theorem KeyEnc.inj (E : KeyEnc P k κ) (w : World) {a b : κ} (h : E.enc a = E.enc b) : a = b := by
  have h1 := E.eq a b w
  have h2 := E.eq b b w
  rw [h, h2] at h1
  injection h1 with h1 _
  simpa using h1
theorem MapIs.update {w : World} {b : Nat} {l : List (κ × Value)} {t e : TypeId} (h : MapIs E w b l) (ht : P.underlying t = some (.map k e)) (x : κ) (v : Value) :
    ∃ w', (Instr.mapUpdate t (.map (some b)) (E.enc x) v).run P w = .ok () w' ∧ MapIs E w' b (setK x v l) ∧ w.grownBy w' (some b) ∧ w'.heap.size = w.heap.size := by
  have hlt := h.lt
  obtain ⟨es, c, h, h2, hst⟩ := h
  simp only [Instr.mapUpdate, Sem.run_bind, run_underlying ht, Result.andThen_ok, MapKept.run_getObj_map h, E.check, findKey_ok E x w es.toList l h2]
  cases hl : look x l 0 with
  | none =>
    refine ⟨_, MapKept.run_setObj_map _ h, ⟨_, _, heap_set_eq w b _ hlt, ?_, MapKept.stamped_push hst fun y hy e => ?_⟩, grown_set w b _, by simp⟩
    · rw [(look_none (v := v) hl).1]
      simp [pairs, encs] at h2 ⊢
      exact h2
    · have hy2 : (y.key, y.val) ∈ encs E l := by rw [← h2]; exact List.mem_map.2 ⟨y, hy, rfl⟩
      obtain ⟨p, hp, e2⟩ := List.mem_map.1 hy2
      have e3 : E.enc p.1 = y.key := by injection e2
      exact look_none_key hl p hp (E.inj w (e3.trans e))
  | some r =>
    obtain ⟨j, v0⟩ := r
    obtain ⟨_, h1, h3, _⟩ := look_some (v := v) hl
    simp only [Nat.sub_zero] at h1 h3
    have hk : (((es[j]?).map (·.key)).getD (E.enc x)) = E.enc x := by
      have := congrArg (fun q => (q[j]?).map (·.1)) h2
      simp [pairs, encs, h1] at this
      cases hj : es[j]? with
      | none => simp
      | some y => simp [hj] at this; simp [this]
    simp only [hk, Instr.keyThatStays, E.bits, if_true, Sem.run_pure, Sem.run_bind, Result.andThen_ok]
    refine ⟨_, MapKept.run_setObj_map _ h, ⟨_, _, heap_set_eq w b _ hlt, ?_, MapKept.stamped_modify hst _ _ (fun _ _ => rfl) fun y hy hj => ?_⟩, grown_set w b _, by simp⟩
    rotate_left
    · have := congrArg (fun q => (q[j]?).map (·.1)) h2
      simp [pairs, encs, h1, hj] at this
      exact this.symm
    rw [h3]
    simp only [pairs, encs, Array.toList_modify] at h2 ⊢
    apply List.ext_getElem?
    intro i
    have h2i := congrArg (fun q => q[i]?) h2
    simp only [List.getElem?_map, List.getElem?_modify] at h2i ⊢
    by_cases hi : j = i
    · subst hi
      simp only [if_true] at *
      cases hj : es.toList[j]? <;> cases hj2 : l[j]? <;> simp_all
    · simp only [if_neg hi] at *
      simpa using h2i
/-- 'len(m)' -/
theorem MapIs.len {w : World} {b : Nat} {l : List (κ × Value)} {t e : TypeId} (h : MapIs E w b l) (ht : P.underlying t = some (.map k e)) (ty : TypeId) :
    (Builtin.len_ #[t] ty #[.map (some b)]).run P w = .ok (.int .i64 l.length) w := by
  obtain ⟨es, c, h, hs⟩ := h.size
  simp [Builtin.len_, run_underlying ht, MapKept.run_getObj_map h, goInt, hs]
end

end Go.Proofs.YtphglnenafdkaaaGreatDoor

namespace Go.Proofs.YtphglnenafdkaaaGreatDoor
open Go.RowKit
set_option linter.unusedVariables false
set_option linter.unusedSimpArgs false

section
variable {P : Program} {k : TypeId} {κ : Type} [DecidableEq κ] {E : KeyEnc P k κ}
theorem look_shift (x : κ) : ∀ (l : List (κ × Value)) (i : Nat), (look x l i).map (·.2) = (look x l 0).map (·.2) := by
  intro l
  induction l with
  | nil => intro i; rfl
  | cons p l ih =>
    intro i
    unfold look
    split
    · rfl
    · rw [ih (i + 1), ih (0 + 1)]
theorem getK_cons (x : κ) (p : κ × Value) (l : List (κ × Value)) : getK x (p :: l) = if x = p.1 then some p.2 else getK x l := by
  unfold getK
  rw [look]
  split
  · rfl
  · rw [look_shift]
theorem getK_set {x y : κ} {v : Value} : ∀ {l : List (κ × Value)}, getK y (setK x v l) = if y = x then some v else getK y l := by
  intro l
  induction l with
  | nil => unfold setK; rw [getK_cons]
  | cons p l ih =>
    unfold setK
    split
    · rename_i h
      rw [getK_cons, getK_cons]
      simp only
      split
      · rfl
      · rename_i h2; rw [if_neg (fun e => h2 (e.trans h.symm))]
    · rename_i h
      rw [getK_cons, getK_cons, ih]
      by_cases h1 : y = p.1
      · rw [if_pos h1, if_neg (fun e => h (e.symm.trans h1)), if_pos h1]
      · rw [if_neg h1, if_neg h1]
theorem getK_none {x : κ} : ∀ {l : List (κ × Value)}, getK x l = none ↔ ∀ p ∈ l, p.1 ≠ x := by
  intro l
  induction l with
  | nil => simp [getK, look]
  | cons p l ih =>
    rw [getK_cons]
    by_cases h : x = p.1
    · simp [h]
    · rw [if_neg h, ih]
      simp
      exact fun _ e => h e.symm
theorem getK_del {x y : κ} : ∀ {l : List (κ × Value)}, (l.map (·.1)).Nodup → getK y (delK x l) = if y = x then none else getK y l := by
  intro l
  induction l with
  | nil => intro _; unfold delK; simp [getK, look]
  | cons p l ih =>
    intro hn
    have hn' := List.nodup_cons.1 hn
    unfold delK
    split
    · rename_i h
      rw [getK_cons]
      by_cases h1 : y = x
      · rw [if_pos h1, getK_none]
        intro q hq e
        exact hn'.1 (List.mem_map.2 ⟨q, hq, by rw [e, h1, h]⟩)
      · rw [if_neg h1, if_neg (fun e => h1 (e.trans h.symm))]
    · rename_i h
      rw [getK_cons, getK_cons, ih hn'.2]
      by_cases h1 : y = p.1
      · rw [if_pos h1, if_neg (fun e => h (e.symm.trans h1)), if_pos h1]
      · rw [if_neg h1, if_neg h1]
theorem getK_mem {x : κ} {v : Value} : ∀ {l : List (κ × Value)}, (l.map (·.1)).Nodup → (getK x l = some v ↔ (x, v) ∈ l) := by
  intro l
  induction l with
  | nil => simp [getK, look]
  | cons p l ih =>
    intro hn
    have hn' := List.nodup_cons.1 hn
    rw [getK_cons]
    by_cases h : x = p.1
    · rw [if_pos h]
      constructor
      · intro e; injection e with e; subst e; rw [h]; exact List.mem_cons_self ..
      · intro e
        rcases List.mem_cons.1 e with e | e
        · rw [← e]
        · exact absurd (List.mem_map.2 ⟨_, e, h⟩) hn'.1
    · rw [if_neg h, ih hn'.2]
      constructor
      · exact List.mem_cons_of_mem _
      · intro e
        rcases List.mem_cons.1 e with e | e
        · exact absurd (congrArg (·.1) e) h
        · exact e
theorem MapIs.nodup {w : World} {b : Nat} {l : List (κ × Value)} (h : MapIs E w b l) : (l.map (·.1)).Nodup := by
  obtain ⟨es, c, _, h2, h3⟩ := h
  have h4 : ((pairs es.toList).map (·.1)).Nodup := by
    have e : (pairs es.toList).map (·.1) = es.toList.map (·.key) := by unfold pairs; rw [List.map_map]; rfl
    rw [e]; exact h3.2.2
  rw [h2] at h4
  have e : (encs E l).map (·.1) = (l.map (·.1)).map E.enc := by unfold encs; rw [List.map_map, List.map_map]; rfl
  rw [e] at h4
  rw [List.nodup_iff_pairwise_ne] at h4 ⊢
  exact (List.pairwise_map.1 h4).imp fun h e => h (by rw [e])
/-- 'delete(m, k)' -/
theorem MapIs.delete' {w : World} {b : Nat} {l : List (κ × Value)} {t e kt : TypeId} (h : MapIs E w b l) (ht : P.underlying t = some (.map k e)) (ty : TypeId) (x : κ) :
    ∃ w', (Builtin.delete_ #[t, kt] ty #[.map (some b), E.enc x]).run P w = .ok (.tuple #[]) w' ∧ MapIs E w' b (delK x l) ∧ w.grownBy w' (some b) ∧ w'.heap.size = w.heap.size := by
  have hlt := h.lt
  obtain ⟨es, c, h, h2, hst⟩ := h
  simp only [Builtin.delete_, Sem.run_bind, run_underlying ht, Result.andThen_ok, MapKept.run_getObj_map h, E.check, findKey_ok E x w es.toList l h2, List.getElem?_toArray, List.getElem?_cons_zero, List.getElem?_cons_succ]
  cases hl : look x l 0 with
  | none =>
    refine ⟨_, by simp only [Sem.run_bind, MapKept.run_setObj_map _ h, Result.andThen_ok, Sem.run_pure], ⟨_, _, heap_set_eq w b _ hlt, ?_, hst⟩, grown_set w b _, by simp⟩
    rw [(look_none (v := .nilIface) hl).2]
    exact h2
  | some r =>
    obtain ⟨j, v0⟩ := r
    obtain ⟨_, h1, _, h3⟩ := look_some (v := .nilIface) hl
    simp only [Nat.sub_zero] at h1 h3
    refine ⟨_, by simp only [Sem.run_bind, MapKept.run_setObj_map _ h, Result.andThen_ok, Sem.run_pure]; rfl, ⟨_, _, heap_set_eq w b _ hlt, ?_, MapKept.stamped_erase hst _⟩, grown_set w b _, by simp⟩
    rw [h3]
    have hj : j < es.size := by
      have h4 := (List.getElem?_eq_some_iff.1 h1).1
      have h5 := congrArg List.length h2
      simp [pairs, encs] at h5
      omega
    simp only [pairs, encs] at h2 ⊢
    unfold Array.eraseIdxIfInBounds
    rw [dif_pos hj, Array.toList_eraseIdx, ← map_eraseIdx', h2, map_eraseIdx']
where
  map_eraseIdx' {α β : Type} (f : α → β) : ∀ (l : List α) (j : Nat), (l.map f).eraseIdx j = (l.eraseIdx j).map f := by
    intro l
    induction l with
    | nil => intro j; rfl
    | cons a l ih =>
      intro j
      cases j with
      | zero => rfl
      | succ j => simp [ih]

/-- block b is a map that has at each key what D says -/
def MapF (E : KeyEnc P k κ) (w : World) (b : Nat) (D : κ → Option Value) : Prop := ∃ l, MapIs E w b l ∧ ∀ x, getK x l = D x
variable {w w' : World} {b : Nat} {D D' : κ → Option Value} {t e kt : TypeId}
theorem MapF.lt (h : MapF E w b D) : b < w.heap.size := by obtain ⟨l, h, _⟩ := h; exact h.lt
theorem MapF.keep (h : MapF E w b D) (hb : w'.heap[b]? = w.heap[b]?) : MapF E w' b D := by obtain ⟨l, h, h2⟩ := h; exact ⟨l, h.keep hb, h2⟩
theorem MapF.congr (h : MapF E w b D) (hd : ∀ x, D x = D' x) : MapF E w b D' := by obtain ⟨l, h, h2⟩ := h; exact ⟨l, h, fun x => (h2 x).trans (hd x)⟩
theorem MapF.upd {M : Nat → Prop} (h : MapF E w b D) (hb : Upd M w w') (hn : ¬ M b) : MapF E w' b D := h.keep (hb.block b h.lt hn)
theorem MapF.below (h : MapF E w b D) (hb : Below w.heap.size w w') : MapF E w' b D := h.keep (hb.block b h.lt)
theorem MapF.new (w : World) : MapF E (w.alloc (.map #[] 0)) w.heap.size fun _ => none := ⟨[], .new w, fun _ => rfl⟩
theorem MapF.ne_blk {g : Nat} {t : TypeId} {cs : Array Value} (h : MapF E w b D) (hb : Blk w g t cs) : b ≠ g := by obtain ⟨l, h, _⟩ := h; exact h.ne_blk hb
theorem MapF.lookup (h : MapF E w b D) (ht : P.underlying t = some (.map k e)) {z : Value} (hz : ∀ w, (zeroValue e).run P w = .ok z w) (x : κ) :
    (Instr.lookup t (.map (some b)) (E.enc x) false).run P w = .ok ((D x).getD z) w := by
  obtain ⟨l, h, h2⟩ := h
  rw [h.lookup ht hz x, h2]
theorem MapF.update (h : MapF E w b D) (ht : P.underlying t = some (.map k e)) (x : κ) (v : Value) :
    ∃ w', (Instr.mapUpdate t (.map (some b)) (E.enc x) v).run P w = .ok () w' ∧ MapF E w' b (fun y => if y = x then some v else D y) ∧ w.grownBy w' (some b) ∧ w'.heap.size = w.heap.size := by
  obtain ⟨l, h, h2⟩ := h
  obtain ⟨w', h3, h4, h5, h6⟩ := h.update ht x v
  exact ⟨w', h3, ⟨_, h4, fun y => by rw [getK_set, h2]⟩, h5, h6⟩
theorem MapF.delete (h : MapF E w b D) (ht : P.underlying t = some (.map k e)) (ty : TypeId) (x : κ) :
    ∃ w', (Builtin.delete_ #[t, kt] ty #[.map (some b), E.enc x]).run P w = .ok (.tuple #[]) w' ∧ MapF E w' b (fun y => if y = x then none else D y) ∧ w.grownBy w' (some b) ∧ w'.heap.size = w.heap.size := by
  obtain ⟨l, h, h2⟩ := h
  obtain ⟨w', h3, h4, h5, h6⟩ := h.delete' (kt := kt) ht ty x
  exact ⟨w', h3, ⟨_, h4, fun y => by rw [getK_del h.nodup, h2]⟩, h5, h6⟩
theorem MapF.len (h : MapF E w b D) (ht : P.underlying t = some (.map k e)) (ty : TypeId) (ks : List κ) (hn : ks.Nodup) (hk : ∀ x, x ∈ ks ↔ (D x).isSome = true) :
    (Builtin.len_ #[t] ty #[.map (some b)]).run P w = .ok (.int .i64 ks.length) w := by
  obtain ⟨l, h, h2⟩ := h
  rw [h.len ht ty]
  have hp : (l.map (·.1)).Perm ks := (List.perm_ext_iff_of_nodup h.nodup hn).2 fun x => by
    rw [hk, ← h2]
    constructor
    · intro hx
      obtain ⟨p, hp, rfl⟩ := List.mem_map.1 hx
      rw [(getK_mem h.nodup).2 (show (p.1, p.2) ∈ l from hp)]; rfl
    · intro hx
      obtain ⟨v, hv⟩ := Option.isSome_iff_exists.1 hx
      exact List.mem_map.2 ⟨_, (getK_mem h.nodup).1 hv, rfl⟩
  have := hp.length_eq
  rw [List.length_map] at this
  rw [this]

/-! a range over a map -/
/-- what has come -/
def doneOf (es : Array MapEntry) (seen : Array Nat) : List (Value × Value) := pairs (es.toList.filter fun e => seen.contains e.born)
theorem done_none (es : Array MapEntry) : doneOf es #[] = [] := by unfold doneOf; simp [pairs]
theorem done_all {es : Array MapEntry} {seen : Array Nat} (h : (leftOf es seen).size = 0) : doneOf es seen = pairs es.toList := by
  unfold doneOf
  rw [List.filter_eq_self.2 (all_seen es seen h)]
theorem done_push_list {p : Nat → Bool} {e : MapEntry} : ∀ {l : List MapEntry}, (l.map (·.born)).Nodup → e ∈ l → p e.born = false → (l.filter fun x => p x.born || x.born == e.born).Perm (e :: l.filter fun x => p x.born) := by
  intro l
  induction l with
  | nil => intro _ h; cases h
  | cons a l ih =>
    intro hn he hp
    have hn' := List.nodup_cons.1 hn
    by_cases hb : a.born = e.born
    · have hae : a = e := by
        rcases List.mem_cons.1 he with h | h
        · exact h.symm
        · exact absurd (List.mem_map.2 ⟨e, h, hb.symm⟩) hn'.1
      subst hae
      have e1 : (l.filter fun x => p x.born || x.born == a.born) = l.filter fun x => p x.born := by
        apply List.filter_congr
        intro x hx
        have : x.born ≠ a.born := fun h => hn'.1 (List.mem_map.2 ⟨x, hx, h⟩)
        simp [this]
      rw [List.filter_cons_of_pos (by simp), List.filter_cons_of_neg (by simp [hp]), e1]
    · have he' : e ∈ l := by
        rcases List.mem_cons.1 he with h | h
        · exact absurd (by rw [h]) hb
        · exact h
      have := ih hn'.2 he' hp
      by_cases hpa : p a.born = true
      · rw [List.filter_cons_of_pos (by simp [hpa]), List.filter_cons_of_pos (p := fun x : MapEntry => p x.born) hpa]
        exact (this.cons a).trans (List.Perm.swap ..)
      · rw [List.filter_cons_of_neg (by simp [hpa, hb]), List.filter_cons_of_neg (p := fun x : MapEntry => p x.born) hpa]
        exact this
theorem done_push {es : Array MapEntry} {seen : Array Nat} {e : MapEntry} (hst : (es.toList.map (·.born)).Nodup) (he : e ∈ es.toList) (hn : seen.contains e.born = false) : (doneOf es (seen.push e.born)).Perm ((e.key, e.val) :: doneOf es seen) := by
  unfold doneOf
  have h := done_push_list (p := fun b => seen.contains b) hst he hn
  have e1 : (es.toList.filter fun x => (seen.push e.born).contains x.born) = es.toList.filter fun x => seen.contains x.born || x.born == e.born := List.filter_congr fun x _ => contains_push _ _ _
  rw [e1]
  exact (h.map fun e => (e.key, e.val))
theorem seen_of {w : World} {r : Nat} {m : Option Nat} {n : Nat} {seen : Array Nat} {c : Nat} (h : w.heap[r]? = some (.mapIter m n seen c)) : w.iterSeen r = seen := by
  unfold World.iterSeen; rw [h]
theorem upd_grown {M : Nat → Prop} {w w' : World} {row : Option Nat} (hg : w.grownBy w' row) (hr : ∀ k, row = some k → M k) : Upd M w w' := (Upd.refl M w).grown hg fun k hk _ => hr k hk
/-- one step of a range over a map: nothing is left, or one entry that had not come -/
theorem range_step {wr : World} {r bm clock c0 : Nat} {seen : Array Nat} {es : Array MapEntry} (hr : wr.heap[r]? = some (.mapIter (some bm) clock seen c0)) (hesr : wr.heap[bm]? = some (.map es clock)) (hst : MapKept.Stamped es clock) (hc0 : clock ≤ c0) :
    ((leftOf es seen).size = 0 ∧ ∀ ty, (Instr.next (.pointer (some ⟨r, 0, none⟩)) false ty).run P wr = .ok (.tuple #[.bool false]) wr) ∨
    ∃ e wn, e ∈ es.toList ∧ seen.contains e.born = false ∧ (leftOf es (seen.push e.born)).size < (leftOf es seen).size ∧ Upd (fun j => j = r) wr wn ∧ wn.heap.size = wr.heap.size ∧ wn.heap[r]? = some (.mapIter (some bm) clock (seen.push e.born) clock) ∧ wn.heap[bm]? = some (.map es clock) ∧
      (∀ ty, (Instr.next (.pointer (some ⟨r, 0, none⟩)) false ty).run P wr = .ok (.tuple #[.bool true, e.key, e.val]) wn) ∧ (Instr.entry (.pointer (some ⟨r, 0, none⟩))).run P wn = .ok (.tuple #[e.key, e.val]) wn := by
  have law := fun ty => run_next_at (P := P) wr ty r bm clock c0 seen es clock hr hesr hst.1 hc0
  rcases law 0 with ⟨h0, hrun⟩ | ⟨e, he, w1, hw1, hrun⟩
  · exact .inl ⟨h0, fun _ => hrun⟩
  · right
    have hrl : r < wr.heap.size := (Array.getElem?_eq_some_iff.1 hr).1
    have hw1h : w1.heap = wr.heap := by rcases hw1 with rfl | rfl <;> rfl
    have hne : bm ≠ r := by rintro rfl; rw [hr] at hesr; cases hesr
    have hun : Upd (fun j => j = r) wr (Go.ChangeMaps.setBlock w1 r (.mapIter (some bm) clock (seen.push e.born) clock)) := by
      have hb : Upd (fun j => j = r) wr w1 := by
        rcases hw1 with rfl | rfl
        · exact Upd.refl _ _
        · exact (Upd.refl _ _).drew
      exact hb.grown (grown_set w1 r _) fun k hk _ => by injection hk with hk; exact hk.symm
    have hrn : (Go.ChangeMaps.setBlock w1 r (.mapIter (some bm) clock (seen.push e.born) clock)).heap[r]? = some (.mapIter (some bm) clock (seen.push e.born) clock) := heap_set_eq w1 _ _ (by rw [hw1h]; exact hrl)
    have hbn := (hun.block _ (Array.getElem?_eq_some_iff.1 hesr).1 hne).trans hesr
    refine ⟨e, _, (mem_left he).1, (mem_left he).2, left_shrinks es seen e he, hun, ?_, hrn, hbn, fun _ => hrun, run_entry_at (P := P) _ r bm clock seen es clock e hrn hbn (mem_left he).1 hst.2.1⟩
    show (w1.heap.setIfInBounds _ _).size = _
    rw [hw1h]; simp
/-- what has come of a map that holds l -/
theorem done_list {w : World} {b : Nat} {l : List (κ × Value)} {es : Array MapEntry} {clock : Nat} (hpr : pairs es.toList = encs E l) {e : MapEntry} (he : e ∈ es.toList) : ∃ p ∈ l, e.key = E.enc p.1 ∧ e.val = p.2 := by
  have hy : (e.key, e.val) ∈ encs E l := by rw [← hpr]; exact List.mem_map.2 ⟨e, he, rfl⟩
  obtain ⟨p, hp, e2⟩ := List.mem_map.1 hy
  injection e2 with e3 e4
  exact ⟨p, hp, e3.symm, e4.symm⟩
theorem encs_inj {l m : List (κ × Value)} : ∀ (w : World), (encs E l).Perm (encs E m) → l.Perm m := by
  intro w h
  unfold encs at h
  have hinj : Function.Injective (fun p : κ × Value => (E.enc p.1, p.2)) := fun p q e => by
    obtain ⟨p1, p2⟩ := p; obtain ⟨q1, q2⟩ := q
    injection e with e1 e2
    simp only at e1 e2
    rw [E.inj w e1, e2]
  exact perm_of_map hinj h
where
  perm_of_map {α β : Type} {f : α → β} (hf : Function.Injective f) : ∀ {l m : List α}, (l.map f).Perm (m.map f) → l.Perm m := by
    intro l
    induction l with
    | nil => intro m h; have := h.length_eq; simp at this; rw [List.eq_nil_of_length_eq_zero this.symm]
    | cons a l ih =>
      intro m h
      have ha : f a ∈ m.map f := h.subset (List.mem_cons_self ..)
      obtain ⟨a', ha', e⟩ := List.mem_map.1 ha
      obtain rfl := hf e
      obtain ⟨m1, m2, rfl⟩ := List.append_of_mem ha'
      have h2 : (l.map f).Perm ((m1 ++ m2).map f) := by
        have h3 : ((m1 ++ a' :: m2).map f).Perm (f a' :: (m1 ++ m2).map f) := by
          simp only [List.map_append, List.map_cons]
          exact List.perm_middle
        exact (h.trans h3).cons_inv
      exact ((ih h2).cons a').trans List.perm_middle.symm
end
end Go.Proofs.YtphglnenafdkaaaGreatDoor


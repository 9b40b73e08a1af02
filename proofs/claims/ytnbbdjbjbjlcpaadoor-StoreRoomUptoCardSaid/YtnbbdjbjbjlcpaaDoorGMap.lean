/- Maps as lists of keys and values. -/
import Derived.Test.YtnbbdjbjbjlcpaaDoorBase
import Derived.Test.YtnbbdjbjbjlcpaaDoorRows
import Derived.Laws.StructEq
import Derived.Maps.Own
import Derived.Maps.RangeRun
namespace Go.Proofs.YtnbbdjbjbjlcpaaDoor
open Go.RowKit

/-- how the keys of a map's key type lie in memory -/
structure KeyEnc (P : Program) (k : TypeId) (κ : Type) [DecidableEq κ] where
  enc : κ → Value
  desc : TypeDesc
  under : P.underlying k = some desc
  eq : ∀ (a b : κ) (w : World), (Op.equal k (enc a) (enc b)).run P w = .ok (decide (a = b)) w
  check : ∀ (em : Bool) (a : κ) (w : World), (Instr.checkKey em 10000 k (enc a)).run P w = .ok () w
  now : ∀ a b : κ, Instr.sameNow desc (enc a) (enc b) = none ∨ Instr.sameNow desc (enc a) (enc b) = some (decide (a = b))
  bits : ∀ a : κ, Instr.sameBits 10000 (enc a) (enc a) = true

section
variable {P : Program} {k : TypeId} {κ : Type} [DecidableEq κ] (E : KeyEnc P k κ)

/-- the first entry of a key: its place and value -/
def look (x : κ) : List (κ × Value) → Nat → Option (Nat × Value)
  | [], _ => none
  | p :: l, i => if x = p.1 then some (i, p.2) else look x l (i + 1)
def getK (x : κ) (l : List (κ × Value)) : Option Value := (look x l 0).map (·.2)
def setK (x : κ) (v : Value) : List (κ × Value) → List (κ × Value)
  | [] => [(x, v)]
  | p :: l => if x = p.1 then (x, v) :: l else p :: setK x v l
def delK (x : κ) : List (κ × Value) → List (κ × Value)
  | [] => []
  | p :: l => if x = p.1 then l else p :: delK x l

def pairs (es : List MapEntry) : List (Value × Value) := es.map fun e => (e.key, e.val)
def encs (l : List (κ × Value)) : List (Value × Value) := l.map fun p => (E.enc p.1, p.2)

theorem findNow_ok (x : κ) : ∀ (es : List MapEntry) (l : List (κ × Value)) (i : Nat), pairs es = encs E l → ∀ r, Instr.findNow E.desc (E.enc x) es i = some r → r = look x l i := by
  intro es
  induction es with
  | nil =>
    intro l i h r hr
    cases l with
    | nil => simp [Instr.findNow] at hr; simp [look, hr]
    | cons p l => simp [pairs, encs] at h
  | cons e es ih =>
    intro l i h r hr
    cases l with
    | nil => simp [pairs, encs] at h
    | cons p l =>
      simp only [pairs, encs, List.map_cons, List.cons.injEq, Prod.mk.injEq] at h
      obtain ⟨⟨hk, hv⟩, ht⟩ := h
      simp only [Instr.findNow, hk] at hr
      rcases E.now x p.1 with hn | hn
      · rw [hn] at hr; simp at hr
      · rw [hn] at hr
        by_cases hx : x = p.1
        · subst hx
          simp at hr
          simp [look, ← hr, hv]
        · simp only [hx, decide_false] at hr
          simp only [look, if_neg hx]
          exact ih l (i + 1) ht r hr
theorem findAsking_ok (x : κ) (w : World) : ∀ (es : List MapEntry) (l : List (κ × Value)) (i : Nat), pairs es = encs E l → (Instr.findAsking k (E.enc x) es i).run P w = .ok (look x l i) w := by
  intro es
  induction es with
  | nil =>
    intro l i h
    cases l with
    | nil => simp [Instr.findAsking, look]
    | cons p l => simp [pairs, encs] at h
  | cons e es ih =>
    intro l i h
    cases l with
    | nil => simp [pairs, encs] at h
    | cons p l =>
      simp only [pairs, encs, List.map_cons, List.cons.injEq, Prod.mk.injEq] at h
      obtain ⟨⟨hk, hv⟩, ht⟩ := h
      simp only [Instr.findAsking, Sem.run_bind, hk, E.eq, Result.andThen_ok]
      by_cases hx : x = p.1
      · subst hx; simp [look, hv]
      · simp only [hx, decide_false, look]
        simpa using ih l (i + 1) ht
theorem findKey_ok (x : κ) (w : World) (es : List MapEntry) (l : List (κ × Value)) (h : pairs es = encs E l) : (Instr.findKey k (E.enc x) es).run P w = .ok (look x l 0) w := by
  simp only [Instr.findKey, Sem.run_bind, run_underlying E.under, Result.andThen_ok]
  cases hf : Instr.findNow E.desc (E.enc x) es 0 with
  | none => exact findAsking_ok E x w es l 0 h
  | some r => rw [findNow_ok E x es l 0 h r hf]; simp

/-- block b is a map that holds just l -/
def MapIs (w : World) (b : Nat) (l : List (κ × Value)) : Prop := ∃ es clock, w.heap[b]? = some (.map es clock) ∧ pairs es.toList = encs E l ∧ MapKept.Stamped es clock

variable {E}
theorem MapIs.lt {w : World} {b : Nat} {l : List (κ × Value)} (h : MapIs E w b l) : b < w.heap.size := by
  obtain ⟨es, c, h, _⟩ := h
  exact (Array.getElem?_eq_some_iff.1 h).1
theorem MapIs.keep {w w' : World} {b : Nat} {l : List (κ × Value)} (h : MapIs E w b l) (hb : w'.heap[b]? = w.heap[b]?) : MapIs E w' b l := by
  obtain ⟨es, c, h, h2⟩ := h
  exact ⟨es, c, hb.trans h, h2⟩
theorem MapIs.alloc {w : World} {b : Nat} {l : List (κ × Value)} (h : MapIs E w b l) (o : Obj) : MapIs E (w.alloc o) b l := h.keep (Below.heap_alloc w o b h.lt)
theorem MapIs.setCell {w : World} {b : Nat} {l : List (κ × Value)} (h : MapIs E w b l) (p : Addr) (u : Value) (hp : b ≠ p.block) : MapIs E (w.setCell p u) b l := h.keep (Below.heap_setCell w p u b hp)
theorem MapIs.below {w w' : World} {b : Nat} {l : List (κ × Value)} (h : MapIs E w b l) (hb : Below w.heap.size w w') : MapIs E w' b l := h.keep (hb.block b h.lt)
theorem MapIs.upd {w w' : World} {b : Nat} {l : List (κ × Value)} {M : Nat → Prop} (h : MapIs E w b l) (hb : Upd M w w') (hn : ¬ M b) : MapIs E w' b l := h.keep (hb.block b h.lt hn)
theorem MapIs.new (w : World) : MapIs E (w.alloc (.map #[] 0)) w.heap.size [] := ⟨#[], 0, heap_alloc_new w _, rfl, MapKept.stamped_empty _⟩
theorem MapIs.new' (w : World) {g : Nat} (hg : g = w.heap.size) : MapIs E (w.alloc (.map #[] 0)) g [] := by subst hg; exact .new w
/-- a map and a row of cells are two -/
theorem MapIs.ne_blk {w : World} {b g : Nat} {l : List (κ × Value)} {t : TypeId} {cs : Array Value} (h : MapIs E w b l) (hb : Blk w g t cs) : b ≠ g := by
  rintro rfl
  obtain ⟨es, c, h, _⟩ := h
  unfold Blk at hb
  rw [h] at hb
  cases hb

theorem MapIs.size {w : World} {b : Nat} {l : List (κ × Value)} (h : MapIs E w b l) : ∃ es clock, w.heap[b]? = some (.map es clock) ∧ es.size = l.length := by
  obtain ⟨es, c, h, h2, _⟩ := h
  refine ⟨es, c, h, ?_⟩
  have := congrArg List.length h2
  simpa [pairs, encs] using this

/-- 'v, ok := m[k]' -/
theorem MapIs.lookup_ok {w : World} {b : Nat} {l : List (κ × Value)} {t e : TypeId} (h : MapIs E w b l) (ht : P.underlying t = some (.map k e)) {z : Value} (hz : ∀ w, (zeroValue e).run P w = .ok z w) (x : κ) :
    (Instr.lookup t (.map (some b)) (E.enc x) true).run P w = .ok (.tuple #[(getK x l).getD z, .bool (getK x l).isSome]) w := by
  obtain ⟨es, c, h, h2, _⟩ := h
  simp only [Instr.lookup, Sem.run_bind, run_underlying ht, Result.andThen_ok, MapKept.run_getObj_map h, Sem.run_pure, E.check, findKey_ok E x w es.toList l h2]
  cases hl : look x l 0 with
  | none => simp [getK, hl, hz]
  | some r => simp [getK, hl]
/-- 'm[k]' -/
theorem MapIs.lookup {w : World} {b : Nat} {l : List (κ × Value)} {t e : TypeId} (h : MapIs E w b l) (ht : P.underlying t = some (.map k e)) {z : Value} (hz : ∀ w, (zeroValue e).run P w = .ok z w) (x : κ) :
    (Instr.lookup t (.map (some b)) (E.enc x) false).run P w = .ok ((getK x l).getD z) w := by
  obtain ⟨es, c, h, h2, _⟩ := h
  simp only [Instr.lookup, Sem.run_bind, run_underlying ht, Result.andThen_ok, MapKept.run_getObj_map h, Sem.run_pure, E.check, findKey_ok E x w es.toList l h2]
  cases hl : look x l 0 with
  | none => simp [getK, hl, hz]
  | some r => simp [getK, hl]
theorem look_none {x : κ} {v : Value} : ∀ {l : List (κ × Value)} {i : Nat}, look x l i = none → setK x v l = l ++ [(x, v)] ∧ delK x l = l := by
  intro l
  induction l with
  | nil => intro i _; exact ⟨rfl, rfl⟩
  | cons p l ih =>
    intro i h
    by_cases hx : x = p.1
    · simp [look, hx] at h
    · simp only [look, if_neg hx] at h
      obtain ⟨h1, h2⟩ := ih h
      simp [setK, delK, hx, h1, h2]
theorem look_some {x : κ} {v : Value} : ∀ {l : List (κ × Value)} {i j : Nat} {v0 : Value}, look x l i = some (j, v0) → i ≤ j ∧ l[j - i]? = some (x, v0) ∧ setK x v l = l.modify (j - i) (fun _ => (x, v)) ∧ delK x l = l.eraseIdx (j - i) := by
  intro l
  induction l with
  | nil => intro i j v0 h; simp [look] at h
  | cons p l ih =>
    intro i j v0 h
    by_cases hx : x = p.1
    · simp only [look, if_pos hx, Option.some.injEq, Prod.mk.injEq] at h
      obtain ⟨rfl, rfl⟩ := h
      subst hx
      simp [setK, delK]
    · simp only [look, if_neg hx] at h
      obtain ⟨h0, h1, h2, h3⟩ := ih h
      have e : j - i = (j - (i + 1)) + 1 := by omega
      refine ⟨by omega, ?_, ?_, ?_⟩
      · rw [e]; simpa using h1
      · rw [e]; simp [setK, hx, h2]
      · rw [e]; simp [delK, hx, h3]

theorem map_eraseIdx {α β : Type} (f : α → β) : ∀ (l : List α) (j : Nat), (l.eraseIdx j).map f = (l.map f).eraseIdx j := by
  intro l
  induction l with
  | nil => intro j; rfl
  | cons a l ih =>
    intro j
    cases j with
    | zero => rfl
    | succ j => simp [ih]
theorem heap_set_ne (w : World) (b : Nat) (o : Obj) (i : Nat) (hi : i ≠ b) : ({ w with heap := w.heap.setIfInBounds b o } : World).heap[i]? = w.heap[i]? := by
  show (w.heap.setIfInBounds b o)[i]? = _
  rw [Array.getElem?_setIfInBounds_ne (Ne.symm hi)]
theorem heap_set_eq (w : World) (b : Nat) (o : Obj) (hb : b < w.heap.size) : ({ w with heap := w.heap.setIfInBounds b o } : World).heap[b]? = some o := by
  show (w.heap.setIfInBounds b o)[b]? = _
  rw [Array.getElem?_setIfInBounds_self_of_lt hb]
theorem grown_set (w : World) (b : Nat) (o : Obj) : w.grownBy { w with heap := w.heap.setIfInBounds b o } (some b) :=
  ⟨rfl, rfl, rfl, by simp, fun k _ hn => heap_set_ne w b o k (fun e => hn (by rw [e]))⟩

/-- 'm[k] = v' -/
theorem look_none_key {x : κ} : ∀ {l : List (κ × Value)} {i : Nat}, look x l i = none → ∀ p ∈ l, p.1 ≠ x := by
  intro l
  induction l with
  | nil => intro i _ p hp; cases hp
  | cons q l ih =>
    intro i h p hp
    unfold look at h
    by_cases e : x = q.1
    · rw [if_pos e] at h; cases h
    · rw [if_neg e] at h
      rcases List.mem_cons.1 hp with rfl | hp
      · exact fun h => e h.symm
      · exact ih h p hp
theorem KeyEnc.inj (E : KeyEnc P k κ) (w : World) {a b : κ} (h : E.enc a = E.enc b) : a = b := by
  have h1 := E.eq a b w
  have h2 := E.eq b b w
  rw [h, h2] at h1
  injection h1 with h1 _
  simpa using h1
theorem MapIs.update {w : World} {b : Nat} {l : List (κ × Value)} {t e : TypeId} (h : MapIs E w b l) (ht : P.underlying t = some (.map k e)) (x : κ) (v : Value) :
    ∃ w', (Instr.mapUpdate t (.map (some b)) (E.enc x) v).run P w = .ok () w' ∧ MapIs E w' b (setK x v l) ∧ w.grownBy w' (some b) ∧ w'.heap.size = w.heap.size := by
  have hlt := h.lt
  obtain ⟨es, c, h, h2, hst⟩ := h
  simp only [Instr.mapUpdate, Sem.run_bind, run_underlying ht, Result.andThen_ok, MapKept.run_getObj_map h, E.check, findKey_ok E x w es.toList l h2]
  cases hl : look x l 0 with
  | none =>
    refine ⟨_, MapKept.run_setObj_map _ h, ⟨_, _, heap_set_eq w b _ hlt, ?_, MapKept.stamped_push hst fun y hy e => ?_⟩, grown_set w b _, by simp⟩
    · rw [(look_none (v := v) hl).1]
      simp [pairs, encs] at h2 ⊢
      exact h2
    · have hy2 : (y.key, y.val) ∈ encs E l := by rw [← h2]; exact List.mem_map.2 ⟨y, hy, rfl⟩
      obtain ⟨p, hp, e2⟩ := List.mem_map.1 hy2
      have e3 : E.enc p.1 = y.key := by injection e2
      exact look_none_key hl p hp (E.inj w (e3.trans e))
  | some r =>
    obtain ⟨j, v0⟩ := r
    obtain ⟨_, h1, h3, _⟩ := look_some (v := v) hl
    simp only [Nat.sub_zero] at h1 h3
    have hk : (((es[j]?).map (·.key)).getD (E.enc x)) = E.enc x := by
      have := congrArg (fun q => (q[j]?).map (·.1)) h2
      simp [pairs, encs, h1] at this
      cases hj : es[j]? with
      | none => simp
      | some y => simp [hj] at this; simp [this]
    simp only [hk, Instr.keyThatStays, E.bits, if_true, Sem.run_pure, Sem.run_bind, Result.andThen_ok]
    refine ⟨_, MapKept.run_setObj_map _ h, ⟨_, _, heap_set_eq w b _ hlt, ?_, MapKept.stamped_modify hst _ _ (fun _ _ => rfl) fun y hy hj => ?_⟩, grown_set w b _, by simp⟩
    rotate_left
    · have := congrArg (fun q => (q[j]?).map (·.1)) h2
      simp [pairs, encs, h1, hj] at this
      exact this.symm
    rw [h3]
    simp only [pairs, encs, Array.toList_modify] at h2 ⊢
    apply List.ext_getElem?
    intro i
    have h2i := congrArg (fun q => q[i]?) h2
    simp only [List.getElem?_map, List.getElem?_modify] at h2i ⊢
    by_cases hi : j = i
    · subst hi
      simp only [if_true] at *
      cases hj : es.toList[j]? <;> cases hj2 : l[j]? <;> simp_all
    · simp only [if_neg hi] at *
      simpa using h2i
/-- 'len(m)' -/
theorem MapIs.len {w : World} {b : Nat} {l : List (κ × Value)} {t e : TypeId} (h : MapIs E w b l) (ht : P.underlying t = some (.map k e)) (ty : TypeId) :
    (Builtin.len_ #[t] ty #[.map (some b)]).run P w = .ok (.int .i64 l.length) w := by
  obtain ⟨es, c, h, hs⟩ := h.size
  simp [Builtin.len_, run_underlying ht, MapKept.run_getObj_map h, goInt, hs]
end

end Go.Proofs.YtnbbdjbjbjlcpaaDoor

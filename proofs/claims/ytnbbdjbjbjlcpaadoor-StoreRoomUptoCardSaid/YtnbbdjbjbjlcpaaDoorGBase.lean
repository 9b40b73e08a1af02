/- Rows of one's own, maps as lists of keys and values: what holds of any of them. -/
import Derived.Test.YtnbbdjbjbjlcpaaDoorApp
import Derived.Test.YtnbbdjbjbjlcpaaDoorGMap
import Derived.Laws.StructEq
import Derived.Deep.DeepMust
import Derived.Deep.RegionLaw
import Derived.Deep.RegionHeld3
import Derived.Deep.DeepCutAuto
import Derived.Deep.CutBlock
import Derived.BigRegion
import Derived.StillTailTactics
namespace Go.Proofs.YtnbbdjbjbjlcpaaDoor
open Go.RowKit
set_option linter.unusedVariables false
set_option linter.unusedSimpArgs false

theorem own_below {w w' : World} {base : Nat} {e : TypeId} {size n : Nat} {v : Value} {xs : List Value} (h : w.ownsRow base e size v n xs) (hb : Below w.heap.size w w') : w'.ownsRow base e size v n xs := by
  refine ⟨h.1, ?_⟩
  rcases h.2 with hn | ⟨g, cap, cur, rfl, hg, hh, rest⟩
  · exact .inl hn
  · exact .inr ⟨g, cap, cur, rfl, hg, (hb.block g (Array.getElem?_eq_some_iff.1 hh).1).trans hh, rest⟩
theorem own_base {w : World} {base base' : Nat} {e : TypeId} {size n : Nat} {v : Value} {xs : List Value} (hb : base' ≤ base) (h : w.ownsRow base e size v n xs) : w.ownsRow base' e size v n xs := by
  refine ⟨h.1, ?_⟩
  rcases h.2 with hn | ⟨g, cap, cur, rfl, hg, rest⟩
  · exact .inl hn
  · exact .inr ⟨g, cap, cur, rfl, by omega, rest⟩
/-- a copy's append: what was there before the new row was laid is as it was -/
theorem below_of_copy {W w1 : World} {o : Obj} (hg : (W.alloc o).grownBy w1 (some W.heap.size)) : Below W.heap.size W w1 :=
  ((Below.refl _ _).alloc (Nat.le_refl _) o).grown hg (by simp) fun k hk => by injection hk with hk; omega
theorem own_empty (W : World) (e : TypeId) (size : Nat) : (W.alloc (.cells #[] e)).ownsRow W.heap.size e size (.slice (some ⟨W.heap.size, 0, none⟩) 0 0) 0 [] := World.ownsRow_made W #[] 0 (Nat.le_refl _) (by simp [maxLen]) (by simp)

theorem own_empty' (W : World) (e : TypeId) (size : Nat) (g : Nat) (hg : g = W.heap.size) : (W.alloc (.cells #[] e)).ownsRow g e size (.slice (some ⟨g, 0, none⟩) 0 0) 0 [] := by
  subst hg; exact own_empty W e size
theorem below_of_copy' {W w1 : World} {o : Obj} {g : Nat} (hg : (W.alloc o).grownBy w1 (Value.slice (some ⟨g, 0, none⟩) 0 0).ownBlock) (hW : g = W.heap.size) : Below W.heap.size W w1 := by
  subst hW; exact below_of_copy hg
/-- 'append(T{}, src...)': a copy in a row of its own -/
theorem wpList_copy_rd {P : Program} (W : World) {ops : Array Oper} {rest : List Oper} {o : Oper} {a : Act} {Q : Exit → Act → World → Prop} (hgd : o.guard = none) (s x : Operand) (t : TypeId)
    (ho : o.op = .call { callee := .builtin .append, args := #[s, x], argTypes := #[t, t] })
    (e : TypeId) (i : TypeInfo) (z : Value) (size bytes : Nat) (ht : P.underlying t = some (.slice e)) (hi : P.info? e = some i) (hz : i.zero = some z)
    (hsize : i.size = size) (hby : i.bytes = bytes) (hzs : z.cells.size = size) (hsz : 0 < size)
    (g : Nat) (hs : a.eval s = .slice (some ⟨g, 0, none⟩) 0 0) (hg : g = W.heap.size)
    (S : Nat → Prop) (A : Option Addr) (m c : Nat) (news : List Value) (hx : a.eval x = .slice A m c) (hr : Rd S W size A m news) (h1 : ∀ u ∈ news, u.oneCell' = true)
    (h63 : m ≤ maxLen) (hbytes : m * bytes ≤ 140737488355328)
    (h : ∀ A' c' w', w'.ownsRow W.heap.size e size (.slice A' m c') m news → Below W.heap.size W w' → wpList P ops Q rest (a.put o.dst (.slice A' m c')) w') : wpList P ops Q (o :: rest) a (W.alloc (.cells #[] e)) := by
  subst hg
  refine wpList_append_rd _ hgd s x t ho W.heap.size e i z size bytes ht hi hz hsize hby hzs hsz (.slice (some ⟨W.heap.size, 0, none⟩) 0 0) 0 [] hs (own_empty W e size) S A m c news hx (hr.alloc _) h1 (by omega) (by simpa using hbytes) (by simp) ?_
  intro v' w' h2 h3 _
  simp only [Nat.zero_add, List.nil_append] at h2
  obtain ⟨A', c', rfl, _, _⟩ := own_form h2
  exact h A' c' w' h2 (below_of_copy h3)

theorem Rd.of_own' {w : World} {base : Nat} {e : TypeId} {size n c : Nat} {A : Option Addr} {xs : List Value} (h : w.ownsRow base e size (.slice A n c) n xs) : Rd (fun b => base ≤ b) w size A n xs :=
  (Rd.of_own h).more fun b hb _ => (h.lt b hb.symm).1
theorem Rd.setCell {S : Nat → Prop} {w : World} {size n : Nat} {A : Option Addr} {xs : List Value} (h : Rd S w size A n xs) {p : Addr} (hp : ¬ S p.block) (u : Value) : Rd S (w.setCell p u) size A n xs :=
  h.keep fun b hb _ => Below.heap_setCell w p u b (by rintro rfl; exact hp hb)
theorem Rd.new (w : World) (e : TypeId) (size n : Nat) (cs : Array Value) (g : Nat) (hg : g = w.heap.size) (hn : cs.size = n * size) : Rd (fun b => b = g) (w.alloc (.cells cs e)) size (some ⟨g, 0, none⟩) n cs.toList := by
  subst hg
  refine ⟨by simpa using hn, fun _ => ⟨_, 0, rfl, rfl, by simp, fun j u hu => ?_⟩⟩
  rw [Nat.zero_add, (Blk.new w e cs).cell j]
  simpa using hu

theorem own_type_ne {w : World} {base base' : Nat} {e e' : TypeId} {size size' n n' : Nat} {v v' : Value} {xs xs' : List Value} (h : w.ownsRow base e size v n xs) (h' : w.ownsRow base' e' size' v' n' xs') (hne : e ≠ e') : v.ownBlock = none ∨ v.ownBlock ≠ v'.ownBlock := by
  rcases h.2 with ⟨rfl, _⟩ | ⟨g, cap, cur, rfl, _, hh, _⟩
  · left; rfl
  · right
    rcases h'.2 with ⟨rfl, _⟩ | ⟨g', cap', cur', rfl, _, hh', _⟩
    · simp [Value.ownBlock]
    · simp only [Value.ownBlock, ne_eq, Option.some.injEq]
      rintro rfl
      rw [hh] at hh'
      injection hh' with hh'
      injection hh' with _ ht
      exact hne ht
def OwnS (S : Nat → Prop) (w : World) (e : TypeId) (size : Nat) (v : Value) (n : Nat) (xs : List Value) : Prop := w.ownsRow 0 e size v n xs ∧ ∀ b, v.ownBlock = some b → S b
section
variable {S S' : Nat → Prop} {w w' : World} {e : TypeId} {size n : Nat} {v : Value} {xs : List Value}
theorem OwnS.keep (h : OwnS S w e size v n xs) (hk : ∀ b, S b → b < w.heap.size → w'.heap[b]? = w.heap[b]?) : OwnS S w' e size v n xs := by
  refine ⟨⟨h.1.1, ?_⟩, h.2⟩
  rcases h.1.2 with hn | ⟨g, cap, cur, rfl, hg, hh, rest⟩
  · exact .inl hn
  · exact .inr ⟨g, cap, cur, rfl, hg, (hk g (h.2 g rfl) (Array.getElem?_eq_some_iff.1 hh).1).trans hh, rest⟩
theorem OwnS.of_own {base : Nat} (h : w.ownsRow base e size v n xs) : OwnS (fun b => base ≤ b ∧ b < w.heap.size) w e size v n xs := ⟨own_base (Nat.zero_le _) h, fun b hb => h.lt b hb⟩
theorem OwnS.more (h : OwnS S w e size v n xs) (hS : ∀ b, S b → b < w.heap.size → S' b) : OwnS S' w e size v n xs := ⟨h.1, fun b hb => hS b (h.2 b hb) (h.1.lt b hb).2⟩
theorem OwnS.rd {A : Option Addr} {c : Nat} (h : OwnS S w e size (.slice A n c) n xs) : Rd S w size A n xs := (Rd.of_own h.1).more fun b hb _ => h.2 b hb.symm
end
theorem Upd.of_below' {w w' : World} (h : Below w.heap.size w w') (M : Nat → Prop) : Upd M w w' := Upd.of_below h fun k hk hB => absurd hk (by omega)
theorem below_two {w : World} (o o' : Obj) : Below w.heap.size w ((w.alloc o).alloc o') := ((Below.refl _ _).alloc (Nat.le_refl _) o).alloc (by simp) o'

theorem OwnS.keepT {S : Nat → Prop} {w w' : World} {e : TypeId} {size n : Nat} {v : Value} {xs : List Value} (h : OwnS S w e size v n xs) (hk : ∀ b cs, Blk w b e cs → w'.heap[b]? = w.heap[b]?) : OwnS S w' e size v n xs := by
  refine ⟨⟨h.1.1, ?_⟩, h.2⟩
  rcases h.1.2 with hn | ⟨g, cap, cur, rfl, hg, hh, rest⟩
  · exact .inl hn
  · exact .inr ⟨g, cap, cur, rfl, hg, (hk g cur hh).trans hh, rest⟩
theorem own_formS {w : World} {base : Nat} {e : TypeId} {size n : Nat} {A : Option Addr} {c : Nat} {xs : List Value} (h : w.ownsRow base e size (.slice A n c) n xs) (hn : 0 < n) : ∃ g cur, A = some ⟨g, 0, none⟩ ∧ Blk w g e cur := by
  rcases h.2 with ⟨h0, h1⟩ | ⟨g, cap, cur, hv, _, hb, _⟩
  · omega
  · simp only [Value.slice.injEq] at hv
    exact ⟨g, cur, hv.1, hb⟩

theorem own_upd {M : Nat → Prop} {w w' : World} {e : TypeId} {size n c : Nat} {gr : Nat} {xs : List Value} (h : w.ownsRow 0 e size (.slice (some ⟨gr, 0, none⟩) n c) n xs) (hu : Upd M w w') (hM : ¬ M gr) : w'.ownsRow 0 e size (.slice (some ⟨gr, 0, none⟩) n c) n xs := by
  refine ⟨h.1, ?_⟩
  rcases h.2 with ⟨h0, _⟩ | ⟨g, cap, cur, hv, hg, hh, rest⟩
  · cases h0
  · simp only [Value.slice.injEq, Option.some.injEq, Addr.mk.injEq, true_and, and_true] at hv
    obtain ⟨rfl, rfl⟩ := hv
    have hl : gr < w.heap.size := (Array.getElem?_eq_some_iff.1 hh).1
    exact .inr ⟨gr, c, cur, rfl, hg, (hu.block gr hl hM).trans hh, rest⟩
theorem own_updB {M : Nat → Prop} {w w' : World} {base : Nat} {e : TypeId} {size n : Nat} {v : Value} {xs : List Value} (h : w.ownsRow base e size v n xs) (hu : Upd M w w') (hM : ∀ k, base ≤ k → k < w.heap.size → ¬ M k) : w'.ownsRow base e size v n xs := by
  refine ⟨h.1, ?_⟩
  rcases h.2 with hn | ⟨g, cap, cur, rfl, hg, hh, rest⟩
  · exact .inl hn
  · have hl : g < w.heap.size := (Array.getElem?_eq_some_iff.1 hh).1
    exact .inr ⟨g, cap, cur, rfl, hg, (hu.block g hl (hM g hg hl)).trans hh, rest⟩
theorem int_eq (a b : Int) (w : World) : (Op.equal 3 (.int .i64 a) (.int .i64 b)).run Tryd.prog w = .ok (decide (a = b)) w := by
  have ht : Tryd.prog.underlying 3 = some (.int .i64) := Tryd.underlying3
  unfold Op.equal Op.maxDepth
  go_simp
  first | done | (by_cases h : a = b <;> simp [h])
theorem int_check (em : Bool) (a : Int) (w : World) : (Instr.checkKey em 10000 3 (.int .i64 a)).run Tryd.prog w = .ok () w := by
  kernel_rfl
def intE : KeyEnc Tryd.prog 3 Int where
  enc := .int .i64
  desc := _
  under := Tryd.underlying3
  eq := int_eq
  check := int_check
  now := fun a b => .inr (by by_cases h : a = b <;> simp [Instr.sameNow, h])
  bits := fun a => by
    rw [show (10000 : Nat) = 9998 + 1 + 1 from rfl]
    simp [Instr.sameBits]

/-- the value at a key -/
def getA {κ α : Type} [DecidableEq κ] (k : κ) : List (κ × α) → Option α
  | [] => none
  | p :: l => if k = p.1 then some p.2 else getA k l
def setA {κ α : Type} [DecidableEq κ] (k : κ) (v : α) : List (κ × α) → List (κ × α)
  | [] => [(k, v)]
  | p :: l => if k = p.1 then (k, v) :: l else p :: setA k v l
def delA {κ α : Type} [DecidableEq κ] (k : κ) : List (κ × α) → List (κ × α)
  | [] => []
  | p :: l => if k = p.1 then l else p :: delA k l
theorem look_map {κ α : Type} [DecidableEq κ] (f : α → Value) (k : κ) : ∀ (l : List (κ × α)) (i : Nat), (look k (l.map fun p => (p.1, f p.2)) i).map (·.2) = (getA k l).map f := by
  intro l
  induction l with
  | nil => intro i; rfl
  | cons p l ih =>
    intro i
    by_cases h : k = p.1
    · simp [look, getA, h]
    · simp [look, getA, h, ih]
theorem getK_map {κ α : Type} [DecidableEq κ] (f : α → Value) (k : κ) (l : List (κ × α)) : getK k (l.map fun p => (p.1, f p.2)) = (getA k l).map f := look_map f k l 0
theorem setK_map {κ α : Type} [DecidableEq κ] (f : α → Value) (k : κ) (v : α) (l : List (κ × α)) : setK k (f v) (l.map fun p => (p.1, f p.2)) = (setA k v l).map fun p => (p.1, f p.2) := by
  induction l with
  | nil => rfl
  | cons p l ih =>
    by_cases h : k = p.1
    · simp [setK, setA, h]
    · simp [setK, setA, h, ih]
theorem delK_map {κ α : Type} [DecidableEq κ] (f : α → Value) (k : κ) (l : List (κ × α)) : delK k (l.map fun p => (p.1, f p.2)) = (delA k l).map fun p => (p.1, f p.2) := by
  induction l with
  | nil => rfl
  | cons p l ih =>
    by_cases h : k = p.1
    · simp [delK, delA, h]
    · simp [delK, delA, h, ih]
section
variable {κ α : Type} [DecidableEq κ]
theorem getA_mem {k : κ} {l : List (κ × α)} {v : α} (h : getA k l = some v) : (k, v) ∈ l := by
  induction l with
  | nil => cases h
  | cons p l ih =>
    by_cases e : k = p.1
    · simp only [getA, e, if_true, Option.some.injEq] at h
      subst h; subst e; exact List.mem_cons_self
    · simp only [getA, e, if_false] at h
      exact List.mem_cons_of_mem _ (ih h)
theorem getA_set (k j : κ) (v : α) (l : List (κ × α)) : getA j (setA k v l) = if j = k then some v else getA j l := by
  induction l with
  | nil => by_cases h : j = k <;> simp [setA, getA, h]
  | cons p l ih =>
    by_cases h : k = p.1
    · by_cases e : j = k
      · subst e; simp [setA, getA, h]
      · have : ¬ j = p.1 := fun x => e (x.trans h.symm)
        simp [setA, getA, h, e, this]
    · by_cases e : j = p.1
      · have : ¬ j = k := fun x => h (x.symm.trans e)
        simp [setA, getA, h, e]
        intro x; exact absurd x.symm h
      · simp [setA, getA, h, e, ih]
theorem setA_mem {k : κ} {v : α} {l : List (κ × α)} {p : κ × α} (h : p ∈ setA k v l) : p = (k, v) ∨ p ∈ l := by
  induction l with
  | nil => exact .inl (by simpa [setA] using h)
  | cons q l ih =>
    by_cases e : k = q.1
    · simp only [setA, e, if_true] at h
      rcases List.mem_cons.1 h with h | h
      · exact .inl (by rw [h, e])
      · exact .inr (List.mem_cons_of_mem _ h)
    · simp only [setA, e, if_false] at h
      rcases List.mem_cons.1 h with h | h
      · exact .inr (h ▸ List.mem_cons_self)
      · rcases ih h with h | h
        · exact .inl h
        · exact .inr (List.mem_cons_of_mem _ h)
/-- keys stand once -/
def Once (l : List (κ × α)) : Prop := (l.map (·.1)).Nodup
theorem Once.set {k : κ} {v : α} {l : List (κ × α)} (h : Once l) : Once (setA k v l) := by
  unfold Once at *
  induction l with
  | nil => simp [setA]
  | cons p l ih =>
    simp only [List.map_cons, List.nodup_cons] at h
    by_cases e : k = p.1
    · simp only [setA, e, if_true, List.map_cons, List.nodup_cons]; exact h
    · simp only [setA, e, if_false, List.map_cons, List.nodup_cons]
      refine ⟨fun hm => ?_, ih h.2⟩
      obtain ⟨q, hq, he⟩ := List.mem_map.1 hm
      rcases setA_mem hq with rfl | hq
      · exact e he
      · exact h.1 (List.mem_map.2 ⟨q, hq, he⟩)
theorem Once.del {k : κ} {l : List (κ × α)} (h : Once l) : Once (delA k l) ∧ ∀ j, getA j (delA k l) = if j = k then none else getA j l := by
  unfold Once at *
  induction l with
  | nil => exact ⟨h, fun j => by simp [delA, getA]⟩
  | cons p l ih =>
    simp only [List.map_cons, List.nodup_cons] at h
    have hn : ∀ (l : List (κ × α)), p.1 ∉ l.map (·.1) → getA p.1 l = none := by
      intro l hl
      cases hg : getA p.1 l with
      | none => rfl
      | some v => exact absurd (List.mem_map.2 ⟨_, getA_mem hg, rfl⟩) hl
    by_cases e : k = p.1
    · subst e
      simp only [delA, if_true]
      refine ⟨h.2, fun j => ?_⟩
      by_cases hj : j = p.1
      · subst hj; simp [hn l h.1]
      · simp [getA, hj]
    · obtain ⟨i1, i2⟩ := ih h.2
      have hsub : ∀ q, q ∈ delA k l → q ∈ l := by
        intro q
        clear ih h hn i1 i2
        induction l with
        | nil => intro h; cases h
        | cons r l ih =>
          intro hq
          by_cases e : k = r.1
          · simp only [delA, e, if_true] at hq; exact List.mem_cons_of_mem _ hq
          · simp only [delA, e, if_false] at hq
            rcases List.mem_cons.1 hq with h | h
            · exact h ▸ List.mem_cons_self
            · exact List.mem_cons_of_mem _ (ih h)
      simp only [delA, e, if_false, List.map_cons, List.nodup_cons]
      refine ⟨⟨fun hm => ?_, i1⟩, fun j => ?_⟩
      · obtain ⟨q, hq, he⟩ := List.mem_map.1 hm
        exact h.1 (List.mem_map.2 ⟨q, hsub q hq, he⟩)
      · by_cases hj : j = p.1
        · subst hj
          have : ¬ p.1 = k := fun x => e x.symm
          simp [getA, this]
        · simp [getA, hj, i2]
end

theorem zero_int (w : World) : (zeroValue 3).run Tryd.prog w = .ok (.int .i64 0) w := by kernel_rfl
section
variable {κ α : Type} [DecidableEq κ]
theorem setA_mem' {k : κ} {v : α} {l : List (κ × α)} (ho : Once l) {p : κ × α} (h : p ∈ setA k v l) : p = (k, v) ∨ p ∈ l ∧ p.1 ≠ k := by
  unfold Once at ho
  induction l with
  | nil => exact .inl (by simpa [setA] using h)
  | cons q l ih =>
    simp only [List.map_cons, List.nodup_cons] at ho
    by_cases e : k = q.1
    · simp only [setA, e, if_true] at h
      rcases List.mem_cons.1 h with h | h
      · exact .inl (by rw [h, e])
      · exact .inr ⟨List.mem_cons_of_mem _ h, fun he => ho.1 (List.mem_map.2 ⟨p, h, he.trans e⟩)⟩
    · simp only [setA, e, if_false] at h
      rcases List.mem_cons.1 h with h | h
      · exact .inr ⟨h ▸ List.mem_cons_self, fun he => e (h ▸ he.symm)⟩
      · rcases ih ho.2 h with h | h
        · exact .inl h
        · exact .inr ⟨List.mem_cons_of_mem _ h.1, h.2⟩
theorem setA_pairwise {k : κ} {v : α} {R : κ × α → κ × α → Prop} : ∀ {l : List (κ × α)}, Once l → l.Pairwise R → (∀ p ∈ l, p.1 ≠ k → R (k, v) p ∧ R p (k, v)) → (setA k v l).Pairwise R := by
  intro l
  induction l with
  | nil => intro _ _ _; simp [setA]
  | cons q l ih =>
    intro ho hp hR
    have ho' := ho
    unfold Once at ho
    simp only [List.map_cons, List.nodup_cons] at ho
    obtain ⟨hp1, hp2⟩ := List.pairwise_cons.1 hp
    by_cases e : k = q.1
    · simp only [setA, e, if_true]
      refine List.pairwise_cons.2 ⟨fun p hpl => ?_, hp2⟩
      exact e ▸ (hR p (List.mem_cons_of_mem _ hpl) fun he => ho.1 (List.mem_map.2 ⟨p, hpl, he.trans e⟩)).1
    · simp only [setA, e, if_false]
      refine List.pairwise_cons.2 ⟨fun p hpl => ?_, ih ho.2 hp2 fun p hpl hne => hR p (List.mem_cons_of_mem _ hpl) hne⟩
      rcases setA_mem hpl with rfl | h
      · exact (hR q List.mem_cons_self fun he => e he.symm).2
      · exact hp1 p h
end
theorem OwnS.more' {S S' : Nat → Prop} {w : World} {e : TypeId} {size n : Nat} {v : Value} {xs : List Value} (h : OwnS S w e size v n xs) (hS : ∀ b, S b → S' b) : OwnS S' w e size v n xs := ⟨h.1, fun b hb => hS b (h.2 b hb)⟩
section
theorem step_append_of {P : Program} {ops : Array Oper} {o : Oper} {a : Act} {w : World} {K : Act → World → Prop} {Q : Exit → Act → World → Prop} {E : Prop} (hgd : o.guard = none) (s x : Operand) (t : TypeId)
    (ho : o.op = .call { callee := .builtin .append, args := #[s, x], argTypes := #[t, t] })
    (v1 v2 : Value) (hs : a.eval s = v1) (hx : a.eval x = v2) (v' : Value) (w' : World) {ty0 : TypeId} (hrun0 : (Builtin.append_ #[t, t] ty0 #[v1, v2]).run P w = .ok v' w')
    (h : K (a.put o.dst v') w') : if Region.wanted o (yielded ops a.tmps) = true then Oper.wp P o a w K Q else E := by
  have hw : Region.wanted o (yielded ops a.tmps) = true := by simp [Region.wanted, hgd]
  have hrun : (Builtin.append_ #[t, t] o.type #[v1, v2]).run P w = .ok v' w' := hrun0
  rw [if_pos hw]
  unfold Oper.wp execOp
  simp only [ho, resolve, invoke, builtin, Sem.run_bind, Sem.run_pure, Result.andThen_ok, List.map_toArray, List.map_cons, List.map_nil, hs, hx, hrun]
  exact h
end
section
variable {P : Program} (w : World)
theorem step_append_rd {ops : Array Oper} {o : Oper} {a : Act} {K : Act → World → Prop} {Q : Exit → Act → World → Prop} {E : Prop} (hgd : o.guard = none) (s x : Operand) (t : TypeId)
    (ho : o.op = .call { callee := .builtin .append, args := #[s, x], argTypes := #[t, t] })
    (base : Nat) (e : TypeId) (i : TypeInfo) (z : Value) (size bytes : Nat) (ht : P.underlying t = some (.slice e)) (hi : P.info? e = some i) (hz : i.zero = some z)
    (hsize : i.size = size) (hby : i.bytes = bytes) (hzs : z.cells.size = size) (hsz : 0 < size)
    (v : Value) (n : Nat) (xs : List Value) (hs : a.eval s = v) (hown : w.ownsRow base e size v n xs)
    (S : Nat → Prop) (A : Option Addr) (m c : Nat) (news : List Value) (hx : a.eval x = .slice A m c) (hr : Rd S w size A m news) (h1 : ∀ u ∈ news, u.oneCell' = true)
    (h63 : n + m ≤ maxLen) (hbytes : (n + m) * bytes ≤ 140737488355328) (hbase : base ≤ w.heap.size) (N : Nat) (hN : n + m = N) (ys : List Value) (hys : xs ++ news = ys)
    (h : ∀ A' c' w', w'.ownsRow base e size (.slice A' N c') N ys → w.grownBy w' v.ownBlock → ((Value.slice A' N c').ownBlock = v.ownBlock ∨ (Value.slice A' N c').ownBlock = some w.heap.size) → K (a.put o.dst (.slice A' N c')) w') :
    if Region.wanted o (yielded ops a.tmps) = true then Oper.wp P o a w K Q else E := by
  have hw : Region.wanted o (yielded ops a.tmps) = true := by simp [Region.wanted, hgd]
  rw [if_pos hw]
  exact wp_append_rd w s x t ho base e i z size bytes ht hi hz hsize hby hzs hsz v n xs hs hown S A m c news hx hr h1 h63 hbytes hbase (fun v' w' h2 h3 h4 => by
    subst hN; subst hys
    obtain ⟨A', c', rfl, _, _⟩ := own_form h2
    exact h A' c' w' h2 h3 h4)
end


theorem wpList_append_of {P : Program} {ops : Array Oper} {rest : List Oper} {o : Oper} {a : Act} {w : World} {Q : Exit → Act → World → Prop} (hgd : o.guard = none) (s x : Operand) (t : TypeId)
    (ho : o.op = .call { callee := .builtin .append, args := #[s, x], argTypes := #[t, t] })
    (v1 v2 : Value) (hs : a.eval s = v1) (hx : a.eval x = v2) (v' : Value) (w' : World) (hrun : (Builtin.append_ #[t, t] o.type #[v1, v2]).run P w = .ok v' w')
    (h : wpList P ops Q rest (a.put o.dst v') w') : wpList P ops Q (o :: rest) a w :=
  wpList_plain hgd fun K hK => by
    unfold Oper.wp execOp
    simp only [ho, resolve, invoke, builtin, Sem.run_bind, Sem.run_pure, Result.andThen_ok, List.map_toArray, List.map_cons, List.map_nil, hs, hx, hrun]
    exact hK _ _ h


end Go.Proofs.YtnbbdjbjbjlcpaaDoor

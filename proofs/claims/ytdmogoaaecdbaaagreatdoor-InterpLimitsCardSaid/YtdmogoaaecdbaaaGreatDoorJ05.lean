/- Texts of the proof, joined: SMap, App, GBase, KHelp, KValid, KOps, KOps2, KOps3, KForm. -/
import Derived.Test.YtdmogoaaecdbaaaGreatDoorJ04
import Derived.Maps.RangeRun
import Derived.Test.YtdmogoaaecdbaaaGreatDoorJ01
import Derived.Test.YtdmogoaaecdbaaaGreatDoorRows
import Derived.Maps.AppendAt
import Derived.RegionTactic
import Derived.OwnWalk
import Derived.Laws.StructEq
import Derived.Deep.DeepMust
import Derived.Deep.RegionLaw
import Derived.Deep.RegionHeld3
import Derived.Deep.DeepCutAuto
import Derived.Deep.CutBlock
import Derived.BigRegion
import Derived.StillTailTactics
import Derived.Test.YtdmogoaaecdbaaaGreatDoorJ02
import Derived.Deep.WholeRow
import Derived.Laws.Rows
namespace Go.Proofs.YtdmogoaaecdbaaaGreatDoor
open Go.RowKit
set_option linter.unusedVariables false
set_option linter.unusedSimpArgs false

section
variable {P : Program} {k : TypeId} {κ : Type} [DecidableEq κ] {E : KeyEnc P k κ}
theorem look_shift (x : κ) : ∀ (l : List (κ × Value)) (i : Nat), (look x l i).map (·.2) = (look x l 0).map (·.2) := by
  intro l
  induction l with
  | nil => intro i; rfl
  | cons p l ih =>
    intro i
    unfold look
    split
    · rfl
    · rw [ih (i + 1), ih (0 + 1)]
theorem getK_cons (x : κ) (p : κ × Value) (l : List (κ × Value)) : getK x (p :: l) = if x = p.1 then some p.2 else getK x l := by
  unfold getK
  rw [look]
  split
  · rfl
  · rw [look_shift]
theorem getK_set {x y : κ} {v : Value} : ∀ {l : List (κ × Value)}, getK y (setK x v l) = if y = x then some v else getK y l := by
  intro l
  induction l with
  | nil => unfold setK; rw [getK_cons]
  | cons p l ih =>
    unfold setK
    split
    · rename_i h
      rw [getK_cons, getK_cons]
      simp only
      split
      · rfl
      · rename_i h2; rw [if_neg (fun e => h2 (e.trans h.symm))]
    · rename_i h
      rw [getK_cons, getK_cons, ih]
      by_cases h1 : y = p.1
      · rw [if_pos h1, if_neg (fun e => h (e.symm.trans h1)), if_pos h1]
      · rw [if_neg h1, if_neg h1]
theorem getK_mem {x : κ} {v : Value} : ∀ {l : List (κ × Value)}, (l.map (·.1)).Nodup → (getK x l = some v ↔ (x, v) ∈ l) := by
  intro l
  induction l with
  | nil => simp [getK, look]
  | cons p l ih =>
    intro hn
    have hn' := List.nodup_cons.1 hn
    rw [getK_cons]
    by_cases h : x = p.1
    · rw [if_pos h]
      constructor
      · intro e; injection e with e; subst e; rw [h]; exact List.mem_cons_self ..
      · intro e
        rcases List.mem_cons.1 e with e | e
        · rw [← e]
        · exact absurd (List.mem_map.2 ⟨_, e, h⟩) hn'.1
    · rw [if_neg h, ih hn'.2]
      constructor
      · exact List.mem_cons_of_mem _
      · intro e
        rcases List.mem_cons.1 e with e | e
        · exact absurd (congrArg (·.1) e) h
        · exact e
theorem MapIs.nodup {w : World} {b : Nat} {l : List (κ × Value)} (h : MapIs E w b l) : (l.map (·.1)).Nodup := by
  obtain ⟨es, c, _, h2, h3⟩ := h
  have h4 : ((pairs es.toList).map (·.1)).Nodup := by
    have e : (pairs es.toList).map (·.1) = es.toList.map (·.key) := by unfold pairs; rw [List.map_map]; rfl
    rw [e]; exact h3.2.2
  rw [h2] at h4
  have e : (encs E l).map (·.1) = (l.map (·.1)).map E.enc := by unfold encs; rw [List.map_map, List.map_map]; rfl
  rw [e] at h4
  rw [List.nodup_iff_pairwise_ne] at h4 ⊢
  exact (List.pairwise_map.1 h4).imp fun h e => h (by rw [e])
/-- block b is a map that has at each key what D says -/
def MapF (E : KeyEnc P k κ) (w : World) (b : Nat) (D : κ → Option Value) : Prop := ∃ l, MapIs E w b l ∧ ∀ x, getK x l = D x
variable {w w' : World} {b : Nat} {D D' : κ → Option Value} {t e kt : TypeId}
theorem MapF.lt (h : MapF E w b D) : b < w.heap.size := by obtain ⟨l, h, _⟩ := h; exact h.lt
theorem MapF.keep (h : MapF E w b D) (hb : w'.heap[b]? = w.heap[b]?) : MapF E w' b D := by obtain ⟨l, h, h2⟩ := h; exact ⟨l, h.keep hb, h2⟩
theorem MapF.congr (h : MapF E w b D) (hd : ∀ x, D x = D' x) : MapF E w b D' := by obtain ⟨l, h, h2⟩ := h; exact ⟨l, h, fun x => (h2 x).trans (hd x)⟩
theorem MapF.upd {M : Nat → Prop} (h : MapF E w b D) (hb : Upd M w w') (hn : ¬ M b) : MapF E w' b D := h.keep (hb.block b h.lt hn)
theorem MapF.below (h : MapF E w b D) (hb : Below w.heap.size w w') : MapF E w' b D := h.keep (hb.block b h.lt)
theorem MapF.new (w : World) : MapF E (w.alloc (.map #[] 0)) w.heap.size fun _ => none := ⟨[], .new w, fun _ => rfl⟩
theorem MapF.ne_blk {g : Nat} {t : TypeId} {cs : Array Value} (h : MapF E w b D) (hb : Blk w g t cs) : b ≠ g := by obtain ⟨l, h, _⟩ := h; exact h.ne_blk hb
theorem MapF.lookup (h : MapF E w b D) (ht : P.underlying t = some (.map k e)) {z : Value} (hz : ∀ w, (zeroValue e).run P w = .ok z w) (x : κ) :
    (Instr.lookup t (.map (some b)) (E.enc x) false).run P w = .ok ((D x).getD z) w := by
  obtain ⟨l, h, h2⟩ := h
  rw [h.lookup ht hz x, h2]
theorem MapF.update (h : MapF E w b D) (ht : P.underlying t = some (.map k e)) (x : κ) (v : Value) :
    ∃ w', (Instr.mapUpdate t (.map (some b)) (E.enc x) v).run P w = .ok () w' ∧ MapF E w' b (fun y => if y = x then some v else D y) ∧ w.grownBy w' (some b) ∧ w'.heap.size = w.heap.size := by
  obtain ⟨l, h, h2⟩ := h
  obtain ⟨w', h3, h4, h5, h6⟩ := h.update ht x v
  exact ⟨w', h3, ⟨_, h4, fun y => by rw [getK_set, h2]⟩, h5, h6⟩
theorem MapF.len (h : MapF E w b D) (ht : P.underlying t = some (.map k e)) (ty : TypeId) (ks : List κ) (hn : ks.Nodup) (hk : ∀ x, x ∈ ks ↔ (D x).isSome = true) :
    (Builtin.len_ #[t] ty #[.map (some b)]).run P w = .ok (.int .i64 ks.length) w := by
  obtain ⟨l, h, h2⟩ := h
  rw [h.len ht ty]
  have hp : (l.map (·.1)).Perm ks := (List.perm_ext_iff_of_nodup h.nodup hn).2 fun x => by
    rw [hk, ← h2]
    constructor
    · intro hx
      obtain ⟨p, hp, rfl⟩ := List.mem_map.1 hx
      rw [(getK_mem h.nodup).2 (show (p.1, p.2) ∈ l from hp)]; rfl
    · intro hx
      obtain ⟨v, hv⟩ := Option.isSome_iff_exists.1 hx
      exact List.mem_map.2 ⟨_, (getK_mem h.nodup).1 hv, rfl⟩
  have := hp.length_eq
  rw [List.length_map] at this
  rw [this]

/-! a range over a map -/
/-- what has come -/
def doneOf (es : Array MapEntry) (seen : Array Nat) : List (Value × Value) := pairs (es.toList.filter fun e => seen.contains e.born)
theorem done_none (es : Array MapEntry) : doneOf es #[] = [] := by unfold doneOf; simp [pairs]
theorem done_all {es : Array MapEntry} {seen : Array Nat} (h : (leftOf es seen).size = 0) : doneOf es seen = pairs es.toList := by
  unfold doneOf
  rw [List.filter_eq_self.2 (all_seen es seen h)]
theorem done_push_list {p : Nat → Bool} {e : MapEntry} : ∀ {l : List MapEntry}, (l.map (·.born)).Nodup → e ∈ l → p e.born = false → (l.filter fun x => p x.born || x.born == e.born).Perm (e :: l.filter fun x => p x.born) := by
  intro l
  induction l with
  | nil => intro _ h; cases h
  | cons a l ih =>
    intro hn he hp
    have hn' := List.nodup_cons.1 hn
    by_cases hb : a.born = e.born
    · have hae : a = e := by
        rcases List.mem_cons.1 he with h | h
        · exact h.symm
        · exact absurd (List.mem_map.2 ⟨e, h, hb.symm⟩) hn'.1
      subst hae
      have e1 : (l.filter fun x => p x.born || x.born == a.born) = l.filter fun x => p x.born := by
        apply List.filter_congr
        intro x hx
        have : x.born ≠ a.born := fun h => hn'.1 (List.mem_map.2 ⟨x, hx, h⟩)
        simp [this]
      rw [List.filter_cons_of_pos (by simp), List.filter_cons_of_neg (by simp [hp]), e1]
    · have he' : e ∈ l := by
        rcases List.mem_cons.1 he with h | h
        · exact absurd (by rw [h]) hb
        · exact h
      have := ih hn'.2 he' hp
      by_cases hpa : p a.born = true
      · rw [List.filter_cons_of_pos (by simp [hpa]), List.filter_cons_of_pos (p := fun x : MapEntry => p x.born) hpa]
        exact (this.cons a).trans (List.Perm.swap ..)
      · rw [List.filter_cons_of_neg (by simp [hpa, hb]), List.filter_cons_of_neg (p := fun x : MapEntry => p x.born) hpa]
        exact this
theorem done_push {es : Array MapEntry} {seen : Array Nat} {e : MapEntry} (hst : (es.toList.map (·.born)).Nodup) (he : e ∈ es.toList) (hn : seen.contains e.born = false) : (doneOf es (seen.push e.born)).Perm ((e.key, e.val) :: doneOf es seen) := by
  unfold doneOf
  have h := done_push_list (p := fun b => seen.contains b) hst he hn
  have e1 : (es.toList.filter fun x => (seen.push e.born).contains x.born) = es.toList.filter fun x => seen.contains x.born || x.born == e.born := List.filter_congr fun x _ => contains_push _ _ _
  rw [e1]
  exact (h.map fun e => (e.key, e.val))
theorem seen_of {w : World} {r : Nat} {m : Option Nat} {n : Nat} {seen : Array Nat} {c : Nat} (h : w.heap[r]? = some (.mapIter m n seen c)) : w.iterSeen r = seen := by
  unfold World.iterSeen; rw [h]
/-- one step of a range over a map: nothing is left, or one entry that had not come -/
theorem range_step {wr : World} {r bm clock c0 : Nat} {seen : Array Nat} {es : Array MapEntry} (hr : wr.heap[r]? = some (.mapIter (some bm) clock seen c0)) (hesr : wr.heap[bm]? = some (.map es clock)) (hst : MapKept.Stamped es clock) (hc0 : clock ≤ c0) :
    ((leftOf es seen).size = 0 ∧ ∀ ty, (Instr.next (.pointer (some ⟨r, 0, none⟩)) false ty).run P wr = .ok (.tuple #[.bool false]) wr) ∨
    ∃ e wn, e ∈ es.toList ∧ seen.contains e.born = false ∧ (leftOf es (seen.push e.born)).size < (leftOf es seen).size ∧ Upd (fun j => j = r) wr wn ∧ wn.heap.size = wr.heap.size ∧ wn.heap[r]? = some (.mapIter (some bm) clock (seen.push e.born) clock) ∧ wn.heap[bm]? = some (.map es clock) ∧
      (∀ ty, (Instr.next (.pointer (some ⟨r, 0, none⟩)) false ty).run P wr = .ok (.tuple #[.bool true, e.key, e.val]) wn) ∧ (Instr.entry (.pointer (some ⟨r, 0, none⟩))).run P wn = .ok (.tuple #[e.key, e.val]) wn := by
  have law := fun ty => run_next_at (P := P) wr ty r bm clock c0 seen es clock hr hesr hst.1 hc0
  rcases law 0 with ⟨h0, hrun⟩ | ⟨e, he, w1, hw1, hrun⟩
  · exact .inl ⟨h0, fun _ => hrun⟩
  · right
    have hrl : r < wr.heap.size := (Array.getElem?_eq_some_iff.1 hr).1
    have hw1h : w1.heap = wr.heap := by rcases hw1 with rfl | rfl <;> rfl
    have hne : bm ≠ r := by rintro rfl; rw [hr] at hesr; cases hesr
    have hun : Upd (fun j => j = r) wr (Go.ChangeMaps.setBlock w1 r (.mapIter (some bm) clock (seen.push e.born) clock)) := by
      have hb : Upd (fun j => j = r) wr w1 := by
        rcases hw1 with rfl | rfl
        · exact Upd.refl _ _
        · exact (Upd.refl _ _).drew
      exact hb.grown (grown_set w1 r _) fun k hk _ => by injection hk with hk; exact hk.symm
    have hrn : (Go.ChangeMaps.setBlock w1 r (.mapIter (some bm) clock (seen.push e.born) clock)).heap[r]? = some (.mapIter (some bm) clock (seen.push e.born) clock) := heap_set_eq w1 _ _ (by rw [hw1h]; exact hrl)
    have hbn := (hun.block _ (Array.getElem?_eq_some_iff.1 hesr).1 hne).trans hesr
    refine ⟨e, _, (mem_left he).1, (mem_left he).2, left_shrinks es seen e he, hun, ?_, hrn, hbn, fun _ => hrun, run_entry_at (P := P) _ r bm clock seen es clock e hrn hbn (mem_left he).1 hst.2.1⟩
    show (w1.heap.setIfInBounds _ _).size = _
    rw [hw1h]; simp
/-- what has come of a map that holds l -/
theorem done_list {w : World} {b : Nat} {l : List (κ × Value)} {es : Array MapEntry} {clock : Nat} (hpr : pairs es.toList = encs E l) {e : MapEntry} (he : e ∈ es.toList) : ∃ p ∈ l, e.key = E.enc p.1 ∧ e.val = p.2 := by
  have hy : (e.key, e.val) ∈ encs E l := by rw [← hpr]; exact List.mem_map.2 ⟨e, he, rfl⟩
  obtain ⟨p, hp, e2⟩ := List.mem_map.1 hy
  injection e2 with e3 e4
  exact ⟨p, hp, e3.symm, e4.symm⟩
theorem encs_inj {l m : List (κ × Value)} : ∀ (w : World), (encs E l).Perm (encs E m) → l.Perm m := by
  intro w h
  unfold encs at h
  have hinj : Function.Injective (fun p : κ × Value => (E.enc p.1, p.2)) := fun p q e => by
    obtain ⟨p1, p2⟩ := p; obtain ⟨q1, q2⟩ := q
    injection e with e1 e2
    simp only at e1 e2
    rw [E.inj w e1, e2]
  exact perm_of_map hinj h
where
  perm_of_map {α β : Type} {f : α → β} (hf : Function.Injective f) : ∀ {l m : List α}, (l.map f).Perm (m.map f) → l.Perm m := by
    intro l
    induction l with
    | nil => intro m h; have := h.length_eq; simp at this; rw [List.eq_nil_of_length_eq_zero this.symm]
    | cons a l ih =>
      intro m h
      have ha : f a ∈ m.map f := h.subset (List.mem_cons_self ..)
      obtain ⟨a', ha', e⟩ := List.mem_map.1 ha
      obtain rfl := hf e
      obtain ⟨m1, m2, rfl⟩ := List.append_of_mem ha'
      have h2 : (l.map f).Perm ((m1 ++ m2).map f) := by
        have h3 : ((m1 ++ a' :: m2).map f).Perm (f a' :: (m1 ++ m2).map f) := by
          simp only [List.map_append, List.map_cons]
          exact List.perm_middle
        exact (h.trans h3).cons_inv
      exact ((ih h2).cons a').trans List.perm_middle.symm
end
end Go.Proofs.YtdmogoaaecdbaaaGreatDoor

namespace Go.Proofs.YtdmogoaaecdbaaaGreatDoor
open Go.RowKit

theorem add_zero (b o j : Nat) : (Addr.mk b o none).add j = ⟨b, o + j, none⟩ := Addr.add_lit b o j

section
variable {P : Program} (w : World)
theorem run_append_nothing (base : Nat) (t ty e : TypeId) (i : TypeInfo) (size : Nat) (ht : P.underlying t = some (.slice e)) (hi : P.info? e = some i) (_hsize : i.size = size)
    (v : Value) (n : Nat) (xs : List Value) (hown : w.ownsRow base e size v n xs) (A : Option Addr) (c : Nat) : (Builtin.append_ #[t, t] ty #[v, .slice A 0 c]).run P w = .ok v w := by
  have hf : ∀ A : Option Addr, (Builtin.firstCells i.size 0 (.slice A 0 c)).run P w = .ok #[] w := by
    intro A; cases A <;> simp [Builtin.firstCells, loadCells, loadCellsFrom]
  rcases hown.2 with ⟨rfl, rfl⟩ | ⟨g, cap, cur, rfl, _, _, hnc, _⟩
  · simp [Builtin.append_, run_underlying ht, sizeOf, typeInfo, hi, Builtin.lenOf, hf]
  · simp [Builtin.append_, run_underlying ht, sizeOf, typeInfo, hi, Builtin.lenOf, hf, hnc, storeCells]

theorem run_append_rd (base : Nat) (t ty e : TypeId) (i : TypeInfo) (z : Value) (size bytes : Nat) (ht : P.underlying t = some (.slice e)) (hi : P.info? e = some i) (hz : i.zero = some z)
    (hsize : i.size = size) (hby : i.bytes = bytes) (hzs : z.cells.size = size) (hsz : 0 < size)
    (v : Value) (n : Nat) (xs : List Value) (hown : w.ownsRow base e size v n xs)
    (S : Nat → Prop) (A : Option Addr) (m c : Nat) (news : List Value) (hr : Rd S w size A m news) (h1 : ∀ u ∈ news, u.oneCell' = true)
    (h63 : n + m ≤ maxLen) (hbytes : (n + m) * bytes ≤ 140737488355328) (hbase : base ≤ w.heap.size) :
    ∃ v' w', (Builtin.append_ #[t, t] ty #[v, .slice A m c]).run P w = .ok v' w' ∧ w'.ownsRow base e size v' (n + m) (xs ++ news) ∧ w.grownBy w' v.ownBlock ∧
      (v'.ownBlock = v.ownBlock ∨ v'.ownBlock = some w.heap.size) := by
  rcases Nat.eq_zero_or_pos m with h0 | h0
  · subst h0
    have hn : news = [] := List.eq_nil_of_length_eq_zero (by simpa using hr.1)
    subst hn
    exact ⟨v, w, run_append_nothing w base t ty e i size ht hi hsize v n xs hown A c, by simpa using hown, World.grownBy.refl w _, .inl rfl⟩
  · obtain ⟨b, o, rfl, _, _, hc⟩ := hr.2 h0
    obtain ⟨v', w', hrun, h2, h3, _, h5⟩ := run_append_own_at (P := P) w base t ty e i z size bytes ht hi hz hsize hby hzs hsz v n xs hown ⟨b, o, none⟩ m c news hr.1 (fun j u hu => by rw [add_zero]; exact hc j u hu) h1 h63 hbytes hbase
    exact ⟨v', w', hrun, h2, h3, h5⟩

theorem wp_append_rd {o : Oper} {a : Act} {K : Act → World → Prop} {Q : Exit → Act → World → Prop} (s x : Operand) (t : TypeId)
    (ho : o.op = .call { callee := .builtin .append, args := #[s, x], argTypes := #[t, t] })
    (base : Nat) (e : TypeId) (i : TypeInfo) (z : Value) (size bytes : Nat) (ht : P.underlying t = some (.slice e)) (hi : P.info? e = some i) (hz : i.zero = some z)
    (hsize : i.size = size) (hby : i.bytes = bytes) (hzs : z.cells.size = size) (hsz : 0 < size)
    (v : Value) (n : Nat) (xs : List Value) (hs : a.eval s = v) (hown : w.ownsRow base e size v n xs)
    (S : Nat → Prop) (A : Option Addr) (m c : Nat) (news : List Value) (hx : a.eval x = .slice A m c) (hr : Rd S w size A m news) (h1 : ∀ u ∈ news, u.oneCell' = true)
    (h63 : n + m ≤ maxLen) (hbytes : (n + m) * bytes ≤ 140737488355328) (hbase : base ≤ w.heap.size)
    (h : ∀ v' w', w'.ownsRow base e size v' (n + m) (xs ++ news) → w.grownBy w' v.ownBlock → (v'.ownBlock = v.ownBlock ∨ v'.ownBlock = some w.heap.size) → K (a.put o.dst v') w') : o.wp P a w K Q := by
  obtain ⟨v', w', hrun, h2, h3, h4⟩ := run_append_rd (P := P) w base t o.type e i z size bytes ht hi hz hsize hby hzs hsz v n xs hown S A m c news hr h1 h63 hbytes hbase
  unfold Oper.wp execOp
  simp only [ho, resolve, invoke, builtin, Sem.run_bind, Sem.run_pure, Result.andThen_ok, List.map_toArray, List.map_cons, List.map_nil, hs, hx, hrun]
  exact h v' w' h2 h3 h4

theorem wpList_append_rd {ops : Array Oper} {rest : List Oper} {o : Oper} {a : Act} {Q : Exit → Act → World → Prop} (hgd : o.guard = none) (s x : Operand) (t : TypeId)
    (ho : o.op = .call { callee := .builtin .append, args := #[s, x], argTypes := #[t, t] })
    (base : Nat) (e : TypeId) (i : TypeInfo) (z : Value) (size bytes : Nat) (ht : P.underlying t = some (.slice e)) (hi : P.info? e = some i) (hz : i.zero = some z)
    (hsize : i.size = size) (hby : i.bytes = bytes) (hzs : z.cells.size = size) (hsz : 0 < size)
    (v : Value) (n : Nat) (xs : List Value) (hs : a.eval s = v) (hown : w.ownsRow base e size v n xs)
    (S : Nat → Prop) (A : Option Addr) (m c : Nat) (news : List Value) (hx : a.eval x = .slice A m c) (hr : Rd S w size A m news) (h1 : ∀ u ∈ news, u.oneCell' = true)
    (h63 : n + m ≤ maxLen) (hbytes : (n + m) * bytes ≤ 140737488355328) (hbase : base ≤ w.heap.size)
    (h : ∀ v' w', w'.ownsRow base e size v' (n + m) (xs ++ news) → w.grownBy w' v.ownBlock → (v'.ownBlock = v.ownBlock ∨ v'.ownBlock = some w.heap.size) → wpList P ops Q rest (a.put o.dst v') w') : wpList P ops Q (o :: rest) a w :=
  wpList_plain hgd fun _ hK => wp_append_rd w s x t ho base e i z size bytes ht hi hz hsize hby hzs hsz v n xs hs hown S A m c news hx hr h1 h63 hbytes hbase fun v' w' h2 h3 h4 => hK _ _ (h v' w' h2 h3 h4)
end

/-- an owned row reads -/
theorem Rd.of_own {w : World} {base : Nat} {e : TypeId} {size n c : Nat} {A : Option Addr} {xs : List Value} (h : w.ownsRow base e size (.slice A n c) n xs) : Rd (fun b => some b = (Value.slice A n c).ownBlock) w size A n xs := by
  refine ⟨h.1, fun hn => ?_⟩
  obtain ⟨g, cap, hv, _, hlt⟩ := h.form hn
  have hA : A = some ⟨g, 0, none⟩ := by injection hv
  subst hA
  exact ⟨g, 0, rfl, rfl, hlt, fun j u hu => by have := h.cells (g := g) rfl j u hu; rwa [add_zero] at this⟩
theorem own_form {w : World} {base : Nat} {e : TypeId} {size n : Nat} {v : Value} {xs : List Value} (h : w.ownsRow base e size v n xs) : ∃ A c, v = .slice A n c ∧ n ≤ c ∧ c ≤ maxLen := by
  rcases h.2 with ⟨rfl, rfl⟩ | ⟨g, cap, cur, rfl, _, _, h1, h2, _⟩
  · exact ⟨_, _, rfl, Nat.le_refl _, by simp [maxLen]⟩
  · exact ⟨_, _, rfl, h1, h2⟩

end Go.Proofs.YtdmogoaaecdbaaaGreatDoor

namespace Go.Proofs.YtdmogoaaecdbaaaGreatDoor
open Go.RowKit
set_option linter.unusedVariables false
set_option linter.unusedSimpArgs false

theorem own_below {w w' : World} {base : Nat} {e : TypeId} {size n : Nat} {v : Value} {xs : List Value} (h : w.ownsRow base e size v n xs) (hb : Below w.heap.size w w') : w'.ownsRow base e size v n xs := by
  refine ⟨h.1, ?_⟩
  rcases h.2 with hn | ⟨g, cap, cur, rfl, hg, hh, rest⟩
  · exact .inl hn
  · exact .inr ⟨g, cap, cur, rfl, hg, (hb.block g (Array.getElem?_eq_some_iff.1 hh).1).trans hh, rest⟩
theorem own_base {w : World} {base base' : Nat} {e : TypeId} {size n : Nat} {v : Value} {xs : List Value} (hb : base' ≤ base) (h : w.ownsRow base e size v n xs) : w.ownsRow base' e size v n xs := by
  refine ⟨h.1, ?_⟩
  rcases h.2 with hn | ⟨g, cap, cur, rfl, hg, rest⟩
  · exact .inl hn
  · exact .inr ⟨g, cap, cur, rfl, by omega, rest⟩
/-- a copy's append: what was there before the new row was laid is as it was -/
theorem below_of_copy {W w1 : World} {o : Obj} (hg : (W.alloc o).grownBy w1 (some W.heap.size)) : Below W.heap.size W w1 :=
  ((Below.refl _ _).alloc (Nat.le_refl _) o).grown hg (by simp) fun k hk => by injection hk with hk; omega
theorem own_empty (W : World) (e : TypeId) (size : Nat) : (W.alloc (.cells #[] e)).ownsRow W.heap.size e size (.slice (some ⟨W.heap.size, 0, none⟩) 0 0) 0 [] := World.ownsRow_made W #[] 0 (Nat.le_refl _) (by simp [maxLen]) (by simp)

/-- 'append(T{}, src...)': a copy in a row of its own -/
theorem wpList_copy_rd {P : Program} (W : World) {ops : Array Oper} {rest : List Oper} {o : Oper} {a : Act} {Q : Exit → Act → World → Prop} (hgd : o.guard = none) (s x : Operand) (t : TypeId)
    (ho : o.op = .call { callee := .builtin .append, args := #[s, x], argTypes := #[t, t] })
    (e : TypeId) (i : TypeInfo) (z : Value) (size bytes : Nat) (ht : P.underlying t = some (.slice e)) (hi : P.info? e = some i) (hz : i.zero = some z)
    (hsize : i.size = size) (hby : i.bytes = bytes) (hzs : z.cells.size = size) (hsz : 0 < size)
    (g : Nat) (hs : a.eval s = .slice (some ⟨g, 0, none⟩) 0 0) (hg : g = W.heap.size)
    (S : Nat → Prop) (A : Option Addr) (m c : Nat) (news : List Value) (hx : a.eval x = .slice A m c) (hr : Rd S W size A m news) (h1 : ∀ u ∈ news, u.oneCell' = true)
    (h63 : m ≤ maxLen) (hbytes : m * bytes ≤ 140737488355328)
    (h : ∀ A' c' w', w'.ownsRow W.heap.size e size (.slice A' m c') m news → Below W.heap.size W w' → wpList P ops Q rest (a.put o.dst (.slice A' m c')) w') : wpList P ops Q (o :: rest) a (W.alloc (.cells #[] e)) := by
  subst hg
  refine wpList_append_rd _ hgd s x t ho W.heap.size e i z size bytes ht hi hz hsize hby hzs hsz (.slice (some ⟨W.heap.size, 0, none⟩) 0 0) 0 [] hs (own_empty W e size) S A m c news hx (hr.alloc _) h1 (by omega) (by simpa using hbytes) (by simp) ?_
  intro v' w' h2 h3 _
  simp only [Nat.zero_add, List.nil_append] at h2
  obtain ⟨A', c', rfl, _, _⟩ := own_form h2
  exact h A' c' w' h2 (below_of_copy h3)

theorem Rd.of_own' {w : World} {base : Nat} {e : TypeId} {size n c : Nat} {A : Option Addr} {xs : List Value} (h : w.ownsRow base e size (.slice A n c) n xs) : Rd (fun b => base ≤ b) w size A n xs :=
  (Rd.of_own h).more fun b hb _ => (h.lt b hb.symm).1
theorem Rd.new (w : World) (e : TypeId) (size n : Nat) (cs : Array Value) (g : Nat) (hg : g = w.heap.size) (hn : cs.size = n * size) : Rd (fun b => b = g) (w.alloc (.cells cs e)) size (some ⟨g, 0, none⟩) n cs.toList := by
  subst hg
  refine ⟨by simpa using hn, fun _ => ⟨_, 0, rfl, rfl, by simp, fun j u hu => ?_⟩⟩
  rw [Nat.zero_add, (Blk.new w e cs).cell j]
  simpa using hu

def OwnS (S : Nat → Prop) (w : World) (e : TypeId) (size : Nat) (v : Value) (n : Nat) (xs : List Value) : Prop := w.ownsRow 0 e size v n xs ∧ ∀ b, v.ownBlock = some b → S b
section
variable {S S' : Nat → Prop} {w w' : World} {e : TypeId} {size n : Nat} {v : Value} {xs : List Value}
theorem OwnS.keep (h : OwnS S w e size v n xs) (hk : ∀ b, S b → b < w.heap.size → w'.heap[b]? = w.heap[b]?) : OwnS S w' e size v n xs := by
  refine ⟨⟨h.1.1, ?_⟩, h.2⟩
  rcases h.1.2 with hn | ⟨g, cap, cur, rfl, hg, hh, rest⟩
  · exact .inl hn
  · exact .inr ⟨g, cap, cur, rfl, hg, (hk g (h.2 g rfl) (Array.getElem?_eq_some_iff.1 hh).1).trans hh, rest⟩
theorem OwnS.more (h : OwnS S w e size v n xs) (hS : ∀ b, S b → b < w.heap.size → S' b) : OwnS S' w e size v n xs := ⟨h.1, fun b hb => hS b (h.2 b hb) (h.1.lt b hb).2⟩
theorem OwnS.rd {A : Option Addr} {c : Nat} (h : OwnS S w e size (.slice A n c) n xs) : Rd S w size A n xs := (Rd.of_own h.1).more fun b hb _ => h.2 b hb.symm
end
theorem Upd.of_below' {w w' : World} (h : Below w.heap.size w w') (M : Nat → Prop) : Upd M w w' := Upd.of_below h fun k hk hB => absurd hk (by omega)
theorem below_two {w : World} (o o' : Obj) : Below w.heap.size w ((w.alloc o).alloc o') := ((Below.refl _ _).alloc (Nat.le_refl _) o).alloc (by simp) o'

theorem OwnS.keepT {S : Nat → Prop} {w w' : World} {e : TypeId} {size n : Nat} {v : Value} {xs : List Value} (h : OwnS S w e size v n xs) (hk : ∀ b cs, Blk w b e cs → w'.heap[b]? = w.heap[b]?) : OwnS S w' e size v n xs := by
  refine ⟨⟨h.1.1, ?_⟩, h.2⟩
  rcases h.1.2 with hn | ⟨g, cap, cur, rfl, hg, hh, rest⟩
  · exact .inl hn
  · exact .inr ⟨g, cap, cur, rfl, hg, (hk g cur hh).trans hh, rest⟩
theorem own_updB {M : Nat → Prop} {w w' : World} {base : Nat} {e : TypeId} {size n : Nat} {v : Value} {xs : List Value} (h : w.ownsRow base e size v n xs) (hu : Upd M w w') (hM : ∀ k, base ≤ k → k < w.heap.size → ¬ M k) : w'.ownsRow base e size v n xs := by
  refine ⟨h.1, ?_⟩
  rcases h.2 with hn | ⟨g, cap, cur, rfl, hg, hh, rest⟩
  · exact .inl hn
  · have hl : g < w.heap.size := (Array.getElem?_eq_some_iff.1 hh).1
    exact .inr ⟨g, cap, cur, rfl, hg, (hu.block g hl (hM g hg hl)).trans hh, rest⟩
section
variable {κ α : Type} [DecidableEq κ]
end

section
variable {κ α : Type} [DecidableEq κ]
end
section
end
section
variable {P : Program} (w : World)
theorem step_append_rd {ops : Array Oper} {o : Oper} {a : Act} {K : Act → World → Prop} {Q : Exit → Act → World → Prop} {E : Prop} (hgd : o.guard = none) (s x : Operand) (t : TypeId)
    (ho : o.op = .call { callee := .builtin .append, args := #[s, x], argTypes := #[t, t] })
    (base : Nat) (e : TypeId) (i : TypeInfo) (z : Value) (size bytes : Nat) (ht : P.underlying t = some (.slice e)) (hi : P.info? e = some i) (hz : i.zero = some z)
    (hsize : i.size = size) (hby : i.bytes = bytes) (hzs : z.cells.size = size) (hsz : 0 < size)
    (v : Value) (n : Nat) (xs : List Value) (hs : a.eval s = v) (hown : w.ownsRow base e size v n xs)
    (S : Nat → Prop) (A : Option Addr) (m c : Nat) (news : List Value) (hx : a.eval x = .slice A m c) (hr : Rd S w size A m news) (h1 : ∀ u ∈ news, u.oneCell' = true)
    (h63 : n + m ≤ maxLen) (hbytes : (n + m) * bytes ≤ 140737488355328) (hbase : base ≤ w.heap.size) (N : Nat) (hN : n + m = N) (ys : List Value) (hys : xs ++ news = ys)
    (h : ∀ A' c' w', w'.ownsRow base e size (.slice A' N c') N ys → w.grownBy w' v.ownBlock → ((Value.slice A' N c').ownBlock = v.ownBlock ∨ (Value.slice A' N c').ownBlock = some w.heap.size) → K (a.put o.dst (.slice A' N c')) w') :
    if Region.wanted o (yielded ops a.tmps) = true then Oper.wp P o a w K Q else E := by
  have hw : Region.wanted o (yielded ops a.tmps) = true := by simp [Region.wanted, hgd]
  rw [if_pos hw]
  exact wp_append_rd w s x t ho base e i z size bytes ht hi hz hsize hby hzs hsz v n xs hs hown S A m c news hx hr h1 h63 hbytes hbase (fun v' w' h2 h3 h4 => by
    subst hN; subst hys
    obtain ⟨A', c', rfl, _, _⟩ := own_form h2
    exact h A' c' w' h2 h3 h4)
end


end Go.Proofs.YtdmogoaaecdbaaaGreatDoor

namespace Go.Proofs.YtdmogoaaecdbaaaGreatDoor
open Go.RowKit
set_option linter.unusedVariables false
set_option linter.unusedSimpArgs false

theorem bytes_dec (a b : ByteArray) : (a.toList == b.toList) = decide (a = b) := by
  by_cases h : a = b
  · subst h; simp
  · rw [decide_eq_false h]
    exact Bool.eq_false_iff.2 fun e => h (ba_inj (by simpa using e))
def Vl.cells (v : Vl) : List Value := [.int .i64 v.k, .int .i64 v.n, .string v.s]
def Is.cells (i : Is) : List Value := [.int .i64 i.op, .int .i64 i.n]
def vcells (l : List Vl) : List Value := l.flatMap Vl.cells
def icells (l : List Is) : List Value := l.flatMap Is.cells
theorem flat_at {α : Type} (f : α → List Value) (sz : Nat) (hf : ∀ a, (f a).length = sz) (l : List α) (k j : Nat) (h : k < l.length) (hj : j < sz) : (l.flatMap f)[k * sz + j]? = (f l[k])[j]? := by
  induction l generalizing k with
  | nil => simp at h
  | cons x l ih =>
    rw [List.flatMap_cons]
    cases k with
    | zero => rw [List.getElem?_append_left (by rw [hf]; omega)]; simp
    | succ k =>
      rw [List.getElem?_append_right (by rw [hf, Nat.succ_mul]; omega), hf, show (k + 1) * sz + j - sz = k * sz + j by rw [Nat.succ_mul]; omega, ih k (by simpa using h)]
      simp
theorem flat_length {α : Type} (f : α → List Value) (sz : Nat) (hf : ∀ a, (f a).length = sz) (l : List α) : (l.flatMap f).length = l.length * sz := by
  induction l with
  | nil => simp
  | cons x l ih => rw [List.flatMap_cons, List.length_append, ih, hf, List.length_cons, Nat.succ_mul]; omega
theorem Rd.val_at {S : Nat → Prop} {w : World} {A : Option Addr} {l : List Vl} {k : Nat} (h : Rd S w 3 A l.length (vcells l)) (hk : k < l.length) : ∃ b o, A = some ⟨b, o, none⟩ ∧ b < w.heap.size ∧ w.cell? ⟨b, o + k * 3, none⟩ = some (.int .i64 l[k].k) ∧ w.cell? ⟨b, o + k * 3 + 1, none⟩ = some (.int .i64 l[k].n) ∧ w.cell? ⟨b, o + k * 3 + 2, none⟩ = some (.string l[k].s) := by
  obtain ⟨b, o, e, hS, hl, hc⟩ := Rd.at_ h hk
  have g := fun j (hj : j < 3) u (hu : (Vl.cells l[k])[j]? = some u) => hc (k * 3 + j) u (by rw [vcells, flat_at Vl.cells 3 (fun _ => rfl) l k j hk hj]; exact hu)
  simp only [← Nat.add_assoc] at g
  exact ⟨b, o, e, hl, g 0 (by omega) _ rfl, g 1 (by omega) _ rfl, g 2 (by omega) _ rfl⟩
theorem Rd.ins_at {S : Nat → Prop} {w : World} {A : Option Addr} {l : List Is} {k : Nat} (h : Rd S w 2 A l.length (icells l)) (hk : k < l.length) : ∃ b o, A = some ⟨b, o, none⟩ ∧ b < w.heap.size ∧ w.cell? ⟨b, o + k * 2, none⟩ = some (.int .i64 l[k].op) ∧ w.cell? ⟨b, o + k * 2 + 1, none⟩ = some (.int .i64 l[k].n) := by
  obtain ⟨b, o, e, hS, hl, hc⟩ := Rd.at_ h hk
  have g := fun j (hj : j < 2) u (hu : (Is.cells l[k])[j]? = some u) => hc (k * 2 + j) u (by rw [icells, flat_at Is.cells 2 (fun _ => rfl) l k j hk hj]; exact hu)
  simp only [← Nat.add_assoc] at g
  exact ⟨b, o, e, hl, g 0 (by omega) _ rfl, g 1 (by omega) _ rfl⟩
end Go.Proofs.YtdmogoaaecdbaaaGreatDoor

namespace Go.Proofs.YtdmogoaaecdbaaaGreatDoor
open Go.RowKit
set_option linter.unusedVariables false
set_option linter.unusedSimpArgs false

theorem plain_any (c : Nat) (w : World) : Calls Tryz.prog 137 #[.int .u8 c] w fun e w' => e = .returned (.bool (decide (32 ≤ c) && decide (c ≤ 126))) ∧ w' = w := by
  by_cases h : 32 ≤ c
  · have t1 : decide ((32 : Int) ≤ (c : Int)) = true := decide_eq_true (by omega)
    have hc : Hid ((decide (32 ≤ c) && decide (c ≤ 126)) = decide ((c : Int) ≤ 126)) := hid (by rw [decide_eq_true h, Bool.true_and]; exact decide_eq_decide.2 (by omega))
    clear h
    go_enter Tryz.func137, Tryz.ntmps137
    go_wp2_with fail
    go_ret
    exact ⟨by rw [hc.out]; first | rfl | simp, rfl⟩
  · have t1 : decide ((32 : Int) ≤ (c : Int)) = false := decide_eq_false (by omega)
    have hc : Hid ((decide (32 ≤ c) && decide (c ≤ 126)) = false) := hid (by rw [decide_eq_false h, Bool.false_and])
    clear h
    go_enter Tryz.func137, Tryz.ntmps137
    go_wp2_with fail
    go_ret
    exact ⟨by rw [hc.out]; rfl, rfl⟩
theorem rmay_any (c : Nat) (w : World) : Calls Tryz.prog 50 #[.int .u8 c] w fun e w' => e = .returned (.bool (decide (32 ≤ c) && decide (c ≤ 126))) ∧ w' = w := by
  by_cases h : 32 ≤ c
  · have t1 : decide ((32 : Int) ≤ (c : Int)) = true := decide_eq_true (by omega)
    have hc : Hid ((decide (32 ≤ c) && decide (c ≤ 126)) = decide ((c : Int) ≤ 126)) := hid (by rw [decide_eq_true h, Bool.true_and]; exact decide_eq_decide.2 (by omega))
    clear h
    go_enter Tryz.func50, Tryz.ntmps50
    go_wp2_with fail
    go_ret
    exact ⟨by rw [hc.out]; first | rfl | simp, rfl⟩
  · have t1 : decide ((32 : Int) ≤ (c : Int)) = false := decide_eq_false (by omega)
    have hc : Hid ((decide (32 ≤ c) && decide (c ≤ 126)) = false) := hid (by rw [decide_eq_false h, Bool.false_and])
    clear h
    go_enter Tryz.func50, Tryz.ntmps50
    go_wp2_with fail
    go_ret
    exact ⟨by rw [hc.out]; rfl, rfl⟩

theorem okT_at {s : ByteArray} {k : Nat} (h : k < s.size) (hb : okB (s.data[k]'h) = false) : okT s = false := by
  unfold okT
  rw [List.all_eq_false]
  exact ⟨s.data[k]'h, by rw [Array.mem_toList_iff]; exact Array.getElem_mem h, by rw [hb]; decide⟩
theorem okT_all {s : ByteArray} (h : ∀ k (hk : k < s.size), okB (s.data[k]'hk) = true) : okT s = true := by
  unfold okT
  rw [List.all_eq_true]
  intro c hc
  rw [Array.mem_toList_iff] at hc
  obtain ⟨k, hk, rfl⟩ := Array.mem_iff_getElem.1 hc
  exact h k hk
theorem mayB {F : FuncId} {s : ByteArray} {k : Nat} {w : World} {b : Bool} (hk : k < s.size) (hc : okB (s.data[k]'hk) = b) (h : Calls Tryz.prog F #[.int .u8 ((s[k]'hk).toNat : Nat)] w fun e w' => e = .returned (.bool (decide (32 ≤ (s[k]'hk).toNat) && decide ((s[k]'hk).toNat ≤ 126))) ∧ w' = w) :
    Calls Tryz.prog F #[.int .u8 ((s[k]'hk).toNat : Nat)] w fun e w' => e = .returned (.bool b) ∧ w' = w := by
  rwa [show (decide (32 ≤ (s[k]'hk).toNat) && decide ((s[k]'hk).toNat ≤ 126)) = b from hc] at h
set_option maxRecDepth 100000 in
theorem printable_any (s : ByteArray) (w : World) (hs : s.size ≤ 9223372036854775806) : Calls Tryz.prog 100 #[.string s] w fun e w' => e = .returned (.bool (okT s)) ∧ w' = w := by
  go_enter Tryz.func100, Tryz.ntmps100
  go_wp2_with fail
  go_loopw [6] (fun v wr => ∃ k : Nat, v = .int .i64 k ∧ k ≤ s.size ∧ wr = w ∧ ∀ j (hj : j < s.size), j < k → okB (s.data[j]'hj) = true) (fun v _ => s.size - (intOf v).toNat)
  case atStart => exact ⟨0, rfl, Nat.zero_le _, rfl, fun j _ h => by omega⟩
  case round =>
    obtain ⟨k, rfl, hk, rfl, ha0⟩ := hrel
    have ha := hid ha0
    clear ha0
    by_cases hlt : k < s.size
    · have i1 : (k : Int) < (s.size : Int) := by omega
      have hs9 : (s.size : Int) ≤ 9223372036854775806 := by omega
      cases hc : okB (s.data[k]'hlt) with
      | true =>
        have hpl := hid (mayB hlt hc (plain_any _ wr))
        have hc := hid hc
        go_wp2_with fail
        refine hpl.out.mono ?_
        rintro e w2 ⟨rfl, rfl⟩
        go_wp2_with fail
        go_roundw
        case rel => exact ⟨k + 1, by go_num, hlt, by first | rfl | trivial, fun j hj hjk => by
          by_cases e : j = k
          · subst e; exact hc.out
          · exact ha.out j hj (by omega)⟩
        case measure => simp [intOf]; omega
      | false =>
        have hpl := hid (mayB hlt hc (plain_any _ wr))
        have hfin : Hid (okT s = false) := hid (okT_at hlt hc)
        clear hc
        go_wp2_with fail
        refine hpl.out.mono ?_
        rintro e w2 ⟨rfl, rfl⟩
        go_wp2_with fail
        go_ret
        exact ⟨by rw [hfin.out]; rfl, by first | rfl | trivial⟩
    · obtain rfl : k = s.size := by omega
      have hfin : Hid (okT s = true) := hid (okT_all fun j hj => ha.out j hj hj)
      go_wp2_with fail
      go_ret
      exact ⟨by rw [hfin.out]; rfl, by first | rfl | trivial⟩
theorem run_eqVal (a b : Vl) (w : World) :
    (Op.equalIn 10000 55 (.agg #[.int .i64 a.k, .int .i64 a.n, .string a.s]) (.agg #[.int .i64 b.k, .int .i64 b.n, .string b.s])).run Tryz.prog w = .ok (decide (a = b)) w := by
  have ht : Tryz.prog.underlying 55 = some (.struct (Tryz.prog.fieldsOf 55)) := by kernel_rfl
  have hp : Tryz.prog.stoodInHeld 55 = false := by kernel_rfl
  rw [run_equalIn_agg w 9999 _ _ _ ht hp]
  have e : decide (a = b) = (a.k == b.k && (a.n == b.n && (a.s.toList == b.s.toList))) := by
    rw [bytes_dec, Bool.eq_iff_iff]
    simp only [decide_eq_true_eq, Bool.and_eq_true, beq_iff_eq]
    exact ⟨fun e => by subst e; simp, fun ⟨h1, h2, h3⟩ => by cases a; cases b; simp_all⟩
  rw [e]
  clear ht hp e
  simp only [Program.fieldsOf, Tryz.underlying55]
  go_simp
  by_cases h1 : a.k = b.k <;> by_cases h2 : a.n = b.n <;> by_cases h3 : a.s.toList = b.s.toList <;> simp [h1, h2, h3]
theorem guardVal : Tryz.prog.eqGuardType Tryz.prog.depth 55 = false := by kernel_rfl
theorem eql_zero (k n : Int) (s : ByteArray) (w : World) : (binOp .eql 55 (.agg #[.int .i64 k, .int .i64 n, .string s]) (.agg #[.int .i64 0, .int .i64 0, .string ⟨#[]⟩])).run Tryz.prog w = .ok (.bool (decide ((⟨k, n, s⟩ : Vl) = vl0))) w := by
  have h := run_eqVal ⟨k, n, s⟩ vl0 w
  have e : vl0 = ⟨0, 0, ⟨#[]⟩⟩ := rfl
  rw [e] at h ⊢
  simp only at h
  rw [run_eql_struct, h]
  simp only [Result.andThen]
theorem ok_none (n : Int) (s : ByteArray) : Vl.ok ⟨0, n, s⟩ = decide ((⟨0, n, s⟩ : Vl) = vl0) := by
  unfold Vl.ok vl0
  rw [if_pos rfl, Bool.eq_iff_iff]
  simp
theorem str_nil {s : ByteArray} (h : s ≠ ⟨#[]⟩) : (s.toList == (⟨#[]⟩ : ByteArray).toList) = false ∧ (s.toList == []) = false ∧ ¬ s.toList = [] := by
  have h1 : (s.toList == (⟨#[]⟩ : ByteArray).toList) = false := by rw [bytes_dec]; exact decide_eq_false h
  have h2 : (⟨#[]⟩ : ByteArray).toList = [] := by rw [ByteArray.toList_eq]
  rw [h2] at h1
  exact ⟨by rw [h2]; exact h1, h1, by simpa using h1⟩
set_option maxRecDepth 100000 in
theorem valid_any (v : Vl) (w : World) (hs : v.s.size ≤ 9223372036854775806) : Calls Tryz.prog 70 #[.agg #[.int .i64 v.k, .int .i64 v.n, .string v.s]] w fun e w' => e = .returned (.bool v.ok) ∧ Below w.heap.size w w' := by
  obtain ⟨k, n, s⟩ := v
  have hgd := guardVal
  simp only at hs
  have hB : Hid (Below w.heap.size w (w.alloc (.cells #[.int .i64 k, .int .i64 n, .string s] 55))) := hid ((Below.refl _ _).alloc (Nat.le_refl _) _)
  have kb := Blk.new w 55 #[.int .i64 k, .int .i64 n, .string s]
  have x0 := kb.cell 0
  have x1 := kb.cell 1
  have x2 := kb.cell 2
  simp only [List.getElem?_toArray, List.getElem?_cons_zero, List.getElem?_cons_succ] at x0 x1 x2
  have hs9 := hid hs
  clear kb hs
  by_cases hk0 : k = 0
  · subst hk0
    have hz := eql_zero 0 n s
    have hok := hid (ok_none n s)
    generalize decide ((⟨0, n, s⟩ : Vl) = vl0) = b at *
    go_enter Tryz.func70, Tryz.ntmps70
    go_upto_region 1 with fail
    generalize w.alloc (.cells #[.int .i64 0, .int .i64 n, .string s] 55) = w1 at *
    go_wp2_with fail
    go_ret
    exact ⟨by rw [hok.out]; rfl, hB.out⟩
  have n0 : (k == 0) = false := by simpa using hk0
  by_cases hk1 : k = 1
  · subst hk1
    by_cases he : s = ⟨#[]⟩
    · subst he
      have hok : Hid (Vl.ok ⟨1, n, ⟨#[]⟩⟩ = true) := hid rfl
      go_enter Tryz.func70, Tryz.ntmps70
      go_upto_region 1 with fail
      generalize w.alloc (.cells #[.int .i64 1, .int .i64 n, .string ⟨#[]⟩] 55) = w1 at *
      go_wp2_with fail
      go_ret
      exact ⟨by rw [hok.out]; rfl, hB.out⟩
    · have hok : Hid (Vl.ok ⟨1, n, s⟩ = false) := hid (by unfold Vl.ok; simp only; rw [if_neg (by decide)]; simp only [if_true]; exact decide_eq_false he)
      obtain ⟨e1, e2, e3⟩ := str_nil he
      go_enter Tryz.func70, Tryz.ntmps70
      go_upto_region 1 with fail
      generalize w.alloc (.cells #[.int .i64 1, .int .i64 n, .string s] 55) = w1 at *
      go_wp2_with fail
      go_ret
      exact ⟨by rw [hok.out]; rfl, hB.out⟩
  have n1 : (k == 1) = false := by simpa using hk1
  by_cases hk2 : k = 2
  · subst hk2
    have hok : Hid (Vl.ok ⟨2, n, s⟩ = (decide (n = 0) && (decide (s.size ≤ 64) && okT s))) := hid rfl
    clear hk0 hk1 n0 n1
    by_cases hn : n = 0
    · subst hn
      by_cases hz : s.size ≤ 64
      · have z1 : decide ((s.size : Int) ≤ 64) = true := decide_eq_true (by omega)
        have z2 : decide (s.size ≤ 64) = true := decide_eq_true hz
        have hpr := hid fun w => printable_any s w (by omega)
        have hf : Hid (Vl.ok ⟨2, 0, s⟩ = okT s) := hid (by rw [hok.out, z2]; simp)
        clear hz
        go_enter Tryz.func70, Tryz.ntmps70
        go_upto_region 1 with fail
        generalize w.alloc (.cells #[.int .i64 2, .int .i64 0, .string s] 55) = w1 at *
        go_wp2_with fail
        refine (hpr.out _).mono ?_
        rintro e w2 ⟨rfl, rfl⟩
        go_wp2_with fail
        go_ret
        exact ⟨by rw [hf.out]; rfl, hB.out⟩
      · have z1 : decide ((s.size : Int) ≤ 64) = false := decide_eq_false (by omega)
        have z2 : decide (s.size ≤ 64) = false := decide_eq_false hz
        have hf : Hid (Vl.ok ⟨2, 0, s⟩ = false) := hid (by rw [hok.out, z2]; simp)
        clear hz
        go_enter Tryz.func70, Tryz.ntmps70
        go_upto_region 1 with fail
        generalize w.alloc (.cells #[.int .i64 2, .int .i64 0, .string s] 55) = w1 at *
        go_wp2_with fail
        go_ret
        exact ⟨by rw [hf.out]; rfl, hB.out⟩
    · have n1 : (n == 0) = false := by simpa using hn
      have hf : Hid (Vl.ok ⟨2, n, s⟩ = false) := hid (by rw [hok.out, decide_eq_false hn]; rfl)
      clear hn
      go_enter Tryz.func70, Tryz.ntmps70
      go_upto_region 1 with fail
      generalize w.alloc (.cells #[.int .i64 2, .int .i64 n, .string s] 55) = w1 at *
      go_wp2_with fail
      go_ret
      exact ⟨by rw [hf.out]; rfl, hB.out⟩
  have n2 : (k == 2) = false := by simpa using hk2
  have hf : Hid (Vl.ok ⟨k, n, s⟩ = false) := hid (by unfold Vl.ok; simp only; rw [if_neg hk0, if_neg hk1, if_neg hk2])
  clear hk0 hk1 hk2
  go_enter Tryz.func70, Tryz.ntmps70
  go_upto_region 1 with fail
  generalize w.alloc (.cells #[.int .i64 k, .int .i64 n, .string s] 55) = w1 at *
  go_wp2_with fail
  go_ret
  exact ⟨by rw [hf.out]; rfl, hB.out⟩
set_option maxRecDepth 100000 in
theorem rvalid_any (v : Vl) (w : World) (hs : v.s.size ≤ 9223372036854775806) : Calls Tryz.prog 26 #[.agg #[.int .i64 v.k, .int .i64 v.n, .string v.s]] w fun e w' => e = .returned (.bool v.ok) ∧ Below w.heap.size w w' := by
  obtain ⟨k, n, s⟩ := v
  have hgd := guardVal
  simp only at hs
  have hB : Hid (Below w.heap.size w (w.alloc (.cells #[.int .i64 k, .int .i64 n, .string s] 55))) := hid ((Below.refl _ _).alloc (Nat.le_refl _) _)
  have kb := Blk.new w 55 #[.int .i64 k, .int .i64 n, .string s]
  have x0 := kb.cell 0
  have x1 := kb.cell 1
  have x2 := kb.cell 2
  simp only [List.getElem?_toArray, List.getElem?_cons_zero, List.getElem?_cons_succ] at x0 x1 x2
  have hs9 := hid hs
  clear kb hs
  by_cases hk0 : k = 0
  · subst hk0
    by_cases hn : n = 0
    · subst hn
      by_cases he : s = ⟨#[]⟩
      · subst he
        have hok : Hid (Vl.ok ⟨0, 0, ⟨#[]⟩⟩ = true) := hid rfl
        go_enter Tryz.func26, Tryz.ntmps26
        go_upto_region 1 with fail
        generalize w.alloc (.cells #[.int .i64 0, .int .i64 0, .string ⟨#[]⟩] 55) = w1 at *
        go_wp2_with fail
        go_ret
        exact ⟨by rw [hok.out]; rfl, hB.out⟩
      · have hok : Hid (Vl.ok ⟨0, 0, s⟩ = false) := hid (by rw [ok_none]; exact decide_eq_false fun h => he (by unfold vl0 at h; simpa using h))
        obtain ⟨e1, e2, e3⟩ := str_nil he
        go_enter Tryz.func26, Tryz.ntmps26
        go_upto_region 1 with fail
        generalize w.alloc (.cells #[.int .i64 0, .int .i64 0, .string s] 55) = w1 at *
        go_wp2_with fail
        go_ret
        exact ⟨by rw [hok.out]; rfl, hB.out⟩
    · have hok : Hid (Vl.ok ⟨0, n, s⟩ = false) := hid (by rw [ok_none]; exact decide_eq_false fun h => hn (by unfold vl0 at h; simp at h; exact h.1))
      have n1 : (n == 0) = false := by simpa using hn
      clear hn
      go_enter Tryz.func26, Tryz.ntmps26
      go_upto_region 1 with fail
      generalize w.alloc (.cells #[.int .i64 0, .int .i64 n, .string s] 55) = w1 at *
      go_wp2_with fail
      go_ret
      exact ⟨by rw [hok.out]; rfl, hB.out⟩
  have n0 : (k == 0) = false := by simpa using hk0
  by_cases hk1 : k = 1
  · subst hk1
    by_cases he : s = ⟨#[]⟩
    · subst he
      have hok : Hid (Vl.ok ⟨1, n, ⟨#[]⟩⟩ = true) := hid rfl
      go_enter Tryz.func26, Tryz.ntmps26
      go_upto_region 1 with fail
      generalize w.alloc (.cells #[.int .i64 1, .int .i64 n, .string ⟨#[]⟩] 55) = w1 at *
      go_wp2_with fail
      go_ret
      exact ⟨by rw [hok.out]; rfl, hB.out⟩
    · have hok : Hid (Vl.ok ⟨1, n, s⟩ = false) := hid (by unfold Vl.ok; simp only; rw [if_neg (by decide)]; simp only [if_true]; exact decide_eq_false he)
      obtain ⟨e1, e2, e3⟩ := str_nil he
      go_enter Tryz.func26, Tryz.ntmps26
      go_upto_region 1 with fail
      generalize w.alloc (.cells #[.int .i64 1, .int .i64 n, .string s] 55) = w1 at *
      go_wp2_with fail
      go_ret
      exact ⟨by rw [hok.out]; rfl, hB.out⟩
  have n1 : (k == 1) = false := by simpa using hk1
  by_cases hk2 : k = 2
  · subst hk2
    have hok : Hid (Vl.ok ⟨2, n, s⟩ = (decide (n = 0) && (decide (s.size ≤ 64) && okT s))) := hid rfl
    clear hk0 hk1 n0 n1
    go_enter Tryz.func26, Tryz.ntmps26
    go_upto_region 1 with fail
    generalize w.alloc (.cells #[.int .i64 2, .int .i64 n, .string s] 55) = w1 at *
    go_wp2_with fail
    go_loopw [3] (fun v wr => ∃ k : Nat, v = .int .i64 k ∧ k ≤ s.size ∧ wr = w1 ∧ ∀ j (hj : j < s.size), j < k → okB (s.data[j]'hj) = true) (fun v _ => s.size - (intOf v).toNat)
    case atStart => exact ⟨0, rfl, Nat.zero_le _, rfl, fun j _ h => by omega⟩
    case round =>
      obtain ⟨k, rfl, hk, rfl, ha0⟩ := hrel
      have ha := hid ha0
      clear ha0
      by_cases hlt : k < s.size
      · have i1 : (k : Int) < (s.size : Int) := by omega
        have hw : IntKind.i64.wrap ((k : Int) + 1) = (k : Int) + 1 := IntWalk.i64_in _ (by have := hs9.out; omega)
        cases hc : okB (s.data[k]'hlt) with
        | true =>
          have hpl := hid (mayB hlt hc (rmay_any _ wr))
          have hc := hid hc
          go_wp2_with fail
          refine hpl.out.mono ?_
          rintro e w2 ⟨rfl, rfl⟩
          go_wp2_with fail
          go_roundw
          case rel => exact ⟨k + 1, by go_num, hlt, by first | rfl | trivial, fun j hj hjk => by
            by_cases e : j = k
            · subst e; exact hc.out
            · exact ha.out j hj (by omega)⟩
          case measure => simp [intOf]; omega
        | false =>
          have hpl := hid (mayB hlt hc (rmay_any _ wr))
          have hfin : Hid (Vl.ok ⟨2, n, s⟩ = false) := hid (by rw [hok.out, okT_at hlt hc]; simp)
          clear hc
          go_wp2_with fail
          refine hpl.out.mono ?_
          rintro e w2 ⟨rfl, rfl⟩
          go_wp2_with fail
          go_ret
          exact ⟨by rw [hfin.out]; rfl, hB.out⟩
      · obtain rfl : k = s.size := by omega
        have hfin : Hid (okT s = true) := hid (okT_all fun j hj => ha.out j hj hj)
        by_cases hn : n = 0
        · subst hn
          have hf : Hid (Vl.ok ⟨2, 0, s⟩ = decide (s.size ≤ 64)) := hid (by rw [hok.out, hfin.out]; simp)
          have hz : Hid (decide (s.size ≤ 64) = decide ((s.size : Int) ≤ 64)) := hid (decide_eq_decide.2 (by omega))
          go_wp2_with fail
          go_ret
          exact ⟨by rw [hf.out]; first | rfl | (rw [hz.out]; rfl) | simp, hB.out⟩
        · have n1 : (n == 0) = false := by simpa using hn
          have hf : Hid (Vl.ok ⟨2, n, s⟩ = false) := hid (by rw [hok.out, decide_eq_false hn]; rfl)
          clear hn
          go_wp2_with fail
          go_ret
          exact ⟨by rw [hf.out]; rfl, hB.out⟩
  have n2 : (k == 2) = false := by simpa using hk2
  have hf : Hid (Vl.ok ⟨k, n, s⟩ = false) := hid (by unfold Vl.ok; simp only; rw [if_neg hk0, if_neg hk1, if_neg hk2])
  clear hk0 hk1 hk2
  go_enter Tryz.func26, Tryz.ntmps26
  go_upto_region 1 with fail
  generalize w.alloc (.cells #[.int .i64 k, .int .i64 n, .string s] 55) = w1 at *
  go_wp2_with fail
  go_ret
  exact ⟨by rw [hf.out]; rfl, hB.out⟩

end Go.Proofs.YtdmogoaaecdbaaaGreatDoor

namespace Go.Proofs.YtdmogoaaecdbaaaGreatDoor
open Go.RowKit
set_option linter.unusedVariables false
set_option linter.unusedSimpArgs false

def wordsB : List ByteArray := [⟨#[]⟩, ⟨#[99, 111, 110, 115, 116]⟩, ⟨#[97, 114, 103]⟩, ⟨#[100, 117, 112]⟩, ⟨#[100, 114, 111, 112]⟩, ⟨#[115, 119, 97, 112]⟩, ⟨#[111, 118, 101, 114]⟩, ⟨#[97, 100, 100]⟩, ⟨#[115, 117, 98]⟩, ⟨#[109, 117, 108]⟩, ⟨#[100, 105, 118]⟩, ⟨#[109, 111, 100]⟩, ⟨#[110, 101, 103]⟩, ⟨#[101, 113]⟩, ⟨#[108, 116]⟩, ⟨#[110, 111, 116]⟩, ⟨#[97, 110, 100]⟩, ⟨#[111, 114]⟩, ⟨#[106, 117, 109, 112]⟩, ⟨#[106, 117, 109, 112, 122]⟩, ⟨#[108, 111, 97, 100]⟩, ⟨#[104, 97, 115]⟩, ⟨#[115, 116, 111, 114, 101]⟩, ⟨#[100, 101, 108]⟩, ⟨#[99, 97, 116]⟩, ⟨#[116, 101, 120, 116]⟩, ⟨#[110, 117, 109]⟩, ⟨#[108, 101, 110]⟩, ⟨#[105, 115, 110, 111, 110, 101]⟩, ⟨#[101, 109, 105, 116]⟩, ⟨#[97, 98, 111, 114, 116]⟩, ⟨#[114, 101, 116]⟩]
def wordB (op : Nat) : ByteArray := wordsB.getD op ⟨#[]⟩
def wordI (op : Int) : ByteArray := if isOp op = true then wordB op.toNat else ⟨#[]⟩
def opRow (k : Nat) : List Value := if k = 0 then [.string ⟨#[]⟩, .int .i64 0, .int .i64 0, .int .i64 0] else [.string (wordB k), .int .i64 (opd k), .int .i64 (takes k), .int .i64 (lays k)]
def opsL : List Value := (List.range 32).flatMap opRow
theorem store_ops (w : World) (l : List Value) (hl : l = opsL) : (storeCells ⟨w.heap.size, 0, none⟩ l 0).run Tryz.prog (w.alloc (.cells Tryz.zeroCells220 220)) = .ok () (w.alloc (.cells opsL.toArray 220)) := by
  subst hl
  exact run_storeCells_new (P := Tryz.prog) w 220 Tryz.zeroCells220 opsL.toArray (by kernel_rfl) (by kernel_rfl) (by kernel_rfl)
theorem load_ops (w : World) : (Instr.loadAt 220 (.pointer (some ⟨w.heap.size, 0, none⟩))).run Tryz.prog (w.alloc (.cells opsL.toArray 220)) = .ok (.agg opsL.toArray) (w.alloc (.cells opsL.toArray 220)) :=
  run_loadAt_new (P := Tryz.prog) w 220 opsL.toArray 32 180 (by kernel_rfl) (by kernel_rfl)
set_option maxRecDepth 100000 in
set_option maxHeartbeats 4000000 in
theorem operations_any (w : World) : Calls Tryz.prog 165 #[] w fun e w' => e = .returned (.agg opsL.toArray) ∧ Below w.heap.size w w' := by
  have hs := hid (store_ops w)
  have hl := hid (load_ops w)
  have hB : Hid (Below w.heap.size w (w.alloc (.cells opsL.toArray 220))) := hid ((Below.refl _ _).alloc (Nat.le_refl _) _)
  go_enter Tryz.func165, Tryz.ntmps165
  go_wp2_with fail
  rw [hs.out]
  · simp only [Result.andThen]
    rw [Oper.upon_skip]
    go_wp2_with fail
    refine bodyPost_ret (v := .agg opsL.toArray) ?_ rfl ⟨rfl, hB.out⟩
    exact results_cell_row (P := Tryz.prog) rfl _ _ w.heap.size 220 opsL.toArray (0, 0) (.array 32 180) rfl (heap_alloc_last w _) (by kernel_rfl) rfl (by kernel_rfl)
  · kernel_rfl

end Go.Proofs.YtdmogoaaecdbaaaGreatDoor

namespace Go.Proofs.YtdmogoaaecdbaaaGreatDoor
open Go.RowKit
set_option linter.unusedVariables false
set_option linter.unusedSimpArgs false

theorem ofd0 (a : ByteArray) (b c d : Int) (w : World) : (Instr.field 180 (.agg #[.string a, .int .i64 b, .int .i64 c, .int .i64 d]) 0).run Tryz.prog w = .ok (.string a) w := by kernel_rfl
theorem ofd1 (a : ByteArray) (b c d : Int) (w : World) : (Instr.field 180 (.agg #[.string a, .int .i64 b, .int .i64 c, .int .i64 d]) 1).run Tryz.prog w = .ok (.int .i64 b) w := by kernel_rfl
def opV (op : Int) : List Value := [.string (wordI op), .int .i64 (opd op), .int .i64 (takes op), .int .i64 (lays op)]
theorem index_ops : ∀ (k : Nat), k < 32 → ∀ w : World, (Instr.index 220 (.agg opsL.toArray) (.int .i64 k)).run Tryz.prog w = .ok (.agg (opRow k).toArray) w
  | 0, _, w => by kernel_rfl
  | 1, _, w => by kernel_rfl
  | 2, _, w => by kernel_rfl
  | 3, _, w => by kernel_rfl
  | 4, _, w => by kernel_rfl
  | 5, _, w => by kernel_rfl
  | 6, _, w => by kernel_rfl
  | 7, _, w => by kernel_rfl
  | 8, _, w => by kernel_rfl
  | 9, _, w => by kernel_rfl
  | 10, _, w => by kernel_rfl
  | 11, _, w => by kernel_rfl
  | 12, _, w => by kernel_rfl
  | 13, _, w => by kernel_rfl
  | 14, _, w => by kernel_rfl
  | 15, _, w => by kernel_rfl
  | 16, _, w => by kernel_rfl
  | 17, _, w => by kernel_rfl
  | 18, _, w => by kernel_rfl
  | 19, _, w => by kernel_rfl
  | 20, _, w => by kernel_rfl
  | 21, _, w => by kernel_rfl
  | 22, _, w => by kernel_rfl
  | 23, _, w => by kernel_rfl
  | 24, _, w => by kernel_rfl
  | 25, _, w => by kernel_rfl
  | 26, _, w => by kernel_rfl
  | 27, _, w => by kernel_rfl
  | 28, _, w => by kernel_rfl
  | 29, _, w => by kernel_rfl
  | 30, _, w => by kernel_rfl
  | 31, _, w => by kernel_rfl
  | k + 32, h, _ => by omega
theorem opRow_V {k : Nat} (h1 : 1 ≤ k) (h2 : k ≤ 31) : opRow k = opV k := by
  unfold opRow opV wordI isOp
  rw [if_neg (by omega), if_pos (by rw [decide_eq_true (by omega), decide_eq_true (by omega)]; rfl), Int.toNat_natCast]
theorem opd_far {op : Int} (h : op < 1 ∨ 31 < op) : opV op = [.string ⟨#[]⟩, .int .i64 0, .int .i64 0, .int .i64 0] := by
  have h1 : wordI op = ⟨#[]⟩ := by
    unfold wordI isOp
    rw [if_neg]
    simp only [Bool.and_eq_true, decide_eq_true_eq]
    omega
  have h2 : opd op = 0 := by unfold opd; rw [if_neg (by omega), if_neg (by omega), if_neg (by omega), if_neg (by omega)]
  have h3 : takes op = 0 := by unfold takes; rw [if_neg (by omega), if_neg (by omega)]
  have h4 : lays op = 0 := by unfold lays; rw [if_neg (by omega), if_neg (by omega), if_neg (by omega)]
  unfold opV
  rw [h1, h2, h3, h4]
set_option maxRecDepth 100000 in
theorem operationOf_any (op : Int) (w : World) : Calls Tryz.prog 120 #[.int .i64 op] w fun e w' => e = .returned (.agg #[.string (wordI op), .int .i64 (opd op), .int .i64 (takes op), .int .i64 (lays op)]) ∧ Below w.heap.size w w' := by
  have hops := hid operations_any
  by_cases h1 : op < 1
  · have t1 : decide (op < 1) = true := decide_eq_true h1
    have hv := hid (opd_far (op := op) (.inl h1))
    have hB : Hid (Below w.heap.size w (w.alloc (.cells #[.string ⟨#[]⟩, .int .i64 0, .int .i64 0, .int .i64 0] 180))) := hid ((Below.refl _ _).alloc (Nat.le_refl _) _)
    clear h1
    go_enter Tryz.func120, Tryz.ntmps120
    go_wp2_with fail
    refine bodyPost_ret (v := .agg #[.string ⟨#[]⟩, .int .i64 0, .int .i64 0, .int .i64 0]) ?_ rfl ⟨?_, hB.out⟩
    · exact results_cell_row (P := Tryz.prog) rfl _ _ w.heap.size 180 _ (0, 0) _ rfl (heap_alloc_last w _) Tryz.underlying180 rfl (by kernel_rfl)
    · have := hv.out
      unfold opV at this
      simp only [List.cons.injEq] at this
      rw [this.1, this.2.1, this.2.2.1, this.2.2.2.1]
  · by_cases h2 : 31 < op
    · have t1 : decide (op < 1) = false := decide_eq_false h1
      have t2 : decide (31 < op) = true := decide_eq_true h2
      have hv := hid (opd_far (op := op) (.inr h2))
      have hB : Hid (Below w.heap.size w (w.alloc (.cells #[.string ⟨#[]⟩, .int .i64 0, .int .i64 0, .int .i64 0] 180))) := hid ((Below.refl _ _).alloc (Nat.le_refl _) _)
      clear h1 h2
      go_enter Tryz.func120, Tryz.ntmps120
      go_wp2_with fail
      refine bodyPost_ret (v := .agg #[.string ⟨#[]⟩, .int .i64 0, .int .i64 0, .int .i64 0]) ?_ rfl ⟨?_, hB.out⟩
      · exact results_cell_row (P := Tryz.prog) rfl _ _ w.heap.size 180 _ (0, 0) _ rfl (heap_alloc_last w _) Tryz.underlying180 rfl (by kernel_rfl)
      · have := hv.out
        unfold opV at this
        simp only [List.cons.injEq] at this
        rw [this.1, this.2.1, this.2.2.1, this.2.2.2.1]
    · have t1 : decide (op < 1) = false := decide_eq_false h1
      have t2 : decide (31 < op) = false := decide_eq_false h2
      obtain ⟨k, rfl⟩ : ∃ k : Nat, op = (k : Int) := ⟨op.toNat, by omega⟩
      have hix := index_ops k (by omega)
      rw [opRow_V (by omega) (by omega)] at hix
      unfold opV at hix
      generalize opsL.toArray = T at *
      have k0 := Blk.new w 180 #[.string ⟨#[]⟩, .int .i64 0, .int .i64 0, .int .i64 0]
      have hB0 : Below w.heap.size w (w.alloc (.cells #[.string ⟨#[]⟩, .int .i64 0, .int .i64 0, .int .i64 0] 180)) := (Below.refl _ _).alloc (Nat.le_refl _) _
      have kb := hid k0
      have hB := hid hB0
      clear h1 h2 k0 hB0
      go_enter Tryz.func120, Tryz.ntmps120
      go_upto_region 1 with fail
      generalize w.alloc (.cells #[.string ⟨#[]⟩, .int .i64 0, .int .i64 0, .int .i64 0] 180) = w1 at *
      go_wp2_with fail
      refine (hops.out w1).mono ?_
      rintro e w2 ⟨rfl, hb20⟩
      have kb2 := hid (kb.out.below_all hb20)
      have hB2 := hid (hB.out.trans (hb20.mono hB.out.size))
      clear hb20
      have fz : ∀ q, w2.frozen? ⟨w.heap.size, q, none⟩ = false := fun q => kb2.out.frozen q
      have c0 := kb2.out.cell 0
      have c1 := kb2.out.cell 1
      have c2 := kb2.out.cell 2
      have c3 := kb2.out.cell 3
      simp only [List.getElem?_toArray, List.getElem?_cons_zero, List.getElem?_cons_succ] at c0 c1 c2 c3
      go_wp2_with fail
      refine bodyPost_ret (v := .agg #[.string (wordI (k : Int)), .int .i64 (opd (k : Int)), .int .i64 (takes (k : Int)), .int .i64 (lays (k : Int))]) ?_ rfl ⟨rfl, ?_⟩
      · have hk := (((kb2.out.set_ 0 (.string (wordI (k : Int)))).set_ 1 (.int .i64 (opd (k : Int)))).set_ 2 (.int .i64 (takes (k : Int)))).set_ 3 (.int .i64 (lays (k : Int)))
        exact results_cell_row (P := Tryz.prog) rfl _ _ w.heap.size 180 #[.string (wordI (k : Int)), .int .i64 (opd (k : Int)), .int .i64 (takes (k : Int)), .int .i64 (lays (k : Int))] (0, 0) _ rfl hk Tryz.underlying180 rfl (by kernel_rfl)
      · exact (((hB2.out.setCell (p := ⟨w.heap.size, 0, none⟩) (Nat.le_refl _) _).setCell (p := ⟨w.heap.size, 1, none⟩) (Nat.le_refl _) _).setCell (p := ⟨w.heap.size, 2, none⟩) (Nat.le_refl _) _).setCell (p := ⟨w.heap.size, 3, none⟩) (Nat.le_refl _) _
set_option maxRecDepth 100000 in
theorem word_any (op : Int) (w : World) : Calls Tryz.prog 88 #[.int .i64 op] w fun e w' => e = .returned (.string (wordI op)) ∧ Below w.heap.size w w' := by
  have hop := hid (operationOf_any op w)
  have hf := ofd0
  go_enter Tryz.func88, Tryz.ntmps88
  go_wp2_with fail
  refine hop.out.mono ?_
  rintro e w2 ⟨rfl, hb0⟩
  have hb := hid hb0
  clear hb0
  go_wp2_with fail
  go_ret
  exact ⟨rfl, hb.out⟩
set_option maxRecDepth 100000 in
theorem takes_any (op : Int) (w : World) : Calls Tryz.prog 105 #[.int .i64 op] w fun e w' => e = .returned (.tuple #[.int .i64 (takes op), .int .i64 (lays op)]) ∧ Below w.heap.size w w' := by
  have hop := hid (operationOf_any op w)
  go_enter Tryz.func105, Tryz.ntmps105
  go_wp2_with fail
  refine hop.out.mono ?_
  rintro e w2 ⟨rfl, hb0⟩
  have k0 := Blk.new w2 180 #[.string (wordI op), .int .i64 (opd op), .int .i64 (takes op), .int .i64 (lays op)]
  have hb1 : Below w.heap.size w (w2.alloc (.cells #[.string (wordI op), .int .i64 (opd op), .int .i64 (takes op), .int .i64 (lays op)] 180)) := hb0.alloc hb0.size _
  have hb := hid hb1
  clear hb0 hb1
  go_upto_region 2 with fail
  have x2 := k0.cell 2
  have x3 := k0.cell 3
  simp only [List.getElem?_toArray, List.getElem?_cons_zero, List.getElem?_cons_succ] at x2 x3
  generalize w2.alloc (.cells #[.string (wordI op), .int .i64 (opd op), .int .i64 (takes op), .int .i64 (lays op)] 180) = w3 at *
  clear k0
  go_quiet (fail)
  go_wp2_with fail
  go_ret2
  exact ⟨rfl, below_drewN hb.out _⟩

end Go.Proofs.YtdmogoaaecdbaaaGreatDoor

namespace Go.Proofs.YtdmogoaaecdbaaaGreatDoor
open Go.RowKit
set_option linter.unusedVariables false
set_option linter.unusedSimpArgs false

end Go.Proofs.YtdmogoaaecdbaaaGreatDoor

namespace Go.Proofs.YtdmogoaaecdbaaaGreatDoor
open Go.RowKit
set_option linter.unusedVariables false
set_option linter.unusedSimpArgs false

theorem opd_cases (op : Int) : opd op = 1 ∨ opd op = 2 ∨ opd op = 3 ∨ opd op = 0 := by
  unfold opd
  split
  · exact .inl rfl
  · split
    · exact .inr (.inl rfl)
    · split
      · exact .inr (.inr (.inl rfl))
      · split
        · exact .inr (.inr (.inl rfl))
        · exact .inr (.inr (.inr rfl))
theorem wordB_ne : ∀ k : Nat, 1 ≤ k → k ≤ 31 → wordB k ≠ ⟨#[]⟩ := by
  have h : (List.range 32).all (fun k => decide (k = 0) || decide (wordB k ≠ ⟨#[]⟩)) = true := by decide +kernel
  intro k h1 h2
  have := List.all_eq_true.1 h k (List.mem_range.2 (by omega))
  simp only [Bool.or_eq_true, decide_eq_true_eq] at this
  rcases this with e | e
  · omega
  · exact e
theorem wordI_nil {op : Int} (h : isOp op = false) : wordI op = ⟨#[]⟩ := by unfold wordI; rw [if_neg (by rw [h]; decide)]
theorem wordI_some {op : Int} (h : isOp op = true) : wordI op ≠ ⟨#[]⟩ := by
  unfold wordI
  rw [if_pos h]
  unfold isOp at h
  simp only [Bool.and_eq_true, decide_eq_true_eq] at h
  exact wordB_ne _ (by omega) (by omega)
/-! a program in memory -/
structure PrIn (S : Nat → Prop) (w : World) (A1 A2 : Option Addr) (p : Pr) : Prop where
  c : Rd S w 3 A1 p.cs.length (vcells p.cs)
  i : Rd S w 2 A2 p.code.length (icells p.code)
  t : ∀ v ∈ p.cs, v.s.size ≤ 9223372036854775806
  l : p.cs.length ≤ 1000000000 ∧ p.code.length ≤ 1000000000
theorem PrIn.below {S : Nat → Prop} {w w' : World} {A1 A2 : Option Addr} {p : Pr} (h : PrIn S w A1 A2 p) (hb : Below w.heap.size w w') : PrIn S w' A1 A2 p := ⟨h.c.below_all hb, h.i.below_all hb, h.t, h.l⟩
set_option maxRecDepth 100000 in
theorem fits_any (p : Pr) (A1 A2 : Option Addr) (c1 c2 : Nat) (i : Is) (w : World) : Calls Tryz.prog 166 #[.agg #[.int .i64 p.args, .slice A1 p.cs.length c1, .slice A2 p.code.length c2], .agg #[.int .i64 i.op, .int .i64 i.n]] w fun e w' => e = .returned (.bool (decide (0 ≤ i.n ∧ i.n < p.most i.op))) ∧ Below w.heap.size w w' := by
  have hops := hid (operationOf_any i.op)
  have kp := Blk.new w 33 #[.int .i64 p.args, .slice A1 p.cs.length c1, .slice A2 p.code.length c2]
  have hB1 : Below w.heap.size w (w.alloc (.cells #[.int .i64 p.args, .slice A1 p.cs.length c1, .slice A2 p.code.length c2] 33)) := (Below.refl _ _).alloc (Nat.le_refl _) _
  have ki := Blk.new (w.alloc (.cells #[.int .i64 p.args, .slice A1 p.cs.length c1, .slice A2 p.code.length c2] 33)) 69 #[.int .i64 i.op, .int .i64 i.n]
  have hz : (w.alloc (.cells #[.int .i64 p.args, .slice A1 p.cs.length c1, .slice A2 p.code.length c2] 33)).heap.size = w.heap.size + 1 := by simp
  have hB2 : Below w.heap.size w ((w.alloc (.cells #[.int .i64 p.args, .slice A1 p.cs.length c1, .slice A2 p.code.length c2] 33)).alloc (.cells #[.int .i64 i.op, .int .i64 i.n] 69)) := hB1.alloc (by rw [hz]; omega) _
  have kp2 := kp.alloc (.cells #[.int .i64 i.op, .int .i64 i.n] 69)
  rw [hz] at ki
  have hf1 := ofd1
  have KP := hid kp2
  have KI := hid ki
  have HB := hid hB2
  have hmo : Hid (p.most i.op = if opd i.op = 1 then (p.cs.length : Int) else if opd i.op = 2 then p.args else if opd i.op = 3 then p.code.length else 1) := hid rfl
  clear kp ki kp2 hB1 hB2
  go_enter Tryz.func166, Tryz.ntmps166
  go_upto_region 2 with fail
  generalize (w.alloc (.cells #[.int .i64 p.args, .slice A1 p.cs.length c1, .slice A2 p.code.length c2] 33)).alloc (.cells #[.int .i64 i.op, .int .i64 i.n] 69) = w1 at *
  have i0 := KI.out.cell 0
  have i1 := KI.out.cell 1
  simp only [List.getElem?_toArray, List.getElem?_cons_zero, List.getElem?_cons_succ] at i0 i1
  clear hz
  go_wp2_with fail
  refine (hops.out w1).mono ?_
  rintro e w2 ⟨rfl, hb0⟩
  have KP2 := hid (KP.out.below_all hb0)
  have KI2 := hid (KI.out.below_all hb0)
  have HB2 := hid (HB.out.trans (hb0.mono HB.out.size))
  clear hb0 i0 i1
  have i0 := KI2.out.cell 0
  have i1 := KI2.out.cell 1
  simp only [List.getElem?_toArray, List.getElem?_cons_zero, List.getElem?_cons_succ] at i0 i1
  have p0 := KP2.out.cell 0
  have p1 := KP2.out.cell 1
  have p2 := KP2.out.cell 2
  simp only [List.getElem?_toArray, List.getElem?_cons_zero, List.getElem?_cons_succ] at p0 p1 p2
  clear hops
  generalize wordI i.op = wd at *
  generalize takes i.op = tk at *
  generalize lays i.op = ly at *
  rcases opd_cases i.op with h | h | h | h
  · rw [h] at hmo ⊢
    have hm : Hid (p.most i.op = (p.cs.length : Int)) := hid (by rw [hmo.out]; simp)
    clear h hmo
    by_cases h0 : 0 ≤ i.n
    · have t0 : decide (0 ≤ i.n) = true := decide_eq_true h0
      have hr : Hid (decide (0 ≤ i.n ∧ i.n < p.most i.op) = decide (i.n < (p.cs.length : Int))) := hid (by rw [hm.out]; exact decide_eq_decide.2 ⟨fun h => h.2, fun h => ⟨h0, h⟩⟩)
      go_wp2_with fail
      go_ret
      exact ⟨by rw [hr.out]; rfl, HB2.out⟩
    · have t0 : decide (0 ≤ i.n) = false := decide_eq_false h0
      have hr : Hid (decide (0 ≤ i.n ∧ i.n < p.most i.op) = false) := hid (decide_eq_false fun h => h0 h.1)
      go_wp2_with fail
      go_ret
      exact ⟨by rw [hr.out]; rfl, HB2.out⟩
  · rw [h] at hmo ⊢
    have hm : Hid (p.most i.op = p.args) := hid (by rw [hmo.out]; simp)
    clear h hmo
    by_cases h0 : 0 ≤ i.n
    · have t0 : decide (0 ≤ i.n) = true := decide_eq_true h0
      have hr : Hid (decide (0 ≤ i.n ∧ i.n < p.most i.op) = decide (i.n < p.args)) := hid (by rw [hm.out]; exact decide_eq_decide.2 ⟨fun h => h.2, fun h => ⟨h0, h⟩⟩)
      go_wp2_with fail
      go_ret
      exact ⟨by rw [hr.out]; rfl, HB2.out⟩
    · have t0 : decide (0 ≤ i.n) = false := decide_eq_false h0
      have hr : Hid (decide (0 ≤ i.n ∧ i.n < p.most i.op) = false) := hid (decide_eq_false fun h => h0 h.1)
      go_wp2_with fail
      go_ret
      exact ⟨by rw [hr.out]; rfl, HB2.out⟩
  · rw [h] at hmo ⊢
    have hm : Hid (p.most i.op = (p.code.length : Int)) := hid (by rw [hmo.out]; simp)
    clear h hmo
    by_cases h0 : 0 ≤ i.n
    · have t0 : decide (0 ≤ i.n) = true := decide_eq_true h0
      have hr : Hid (decide (0 ≤ i.n ∧ i.n < p.most i.op) = decide (i.n < (p.code.length : Int))) := hid (by rw [hm.out]; exact decide_eq_decide.2 ⟨fun h => h.2, fun h => ⟨h0, h⟩⟩)
      go_wp2_with fail
      go_ret
      exact ⟨by rw [hr.out]; rfl, HB2.out⟩
    · have t0 : decide (0 ≤ i.n) = false := decide_eq_false h0
      have hr : Hid (decide (0 ≤ i.n ∧ i.n < p.most i.op) = false) := hid (decide_eq_false fun h => h0 h.1)
      go_wp2_with fail
      go_ret
      exact ⟨by rw [hr.out]; rfl, HB2.out⟩
  · rw [h] at hmo ⊢
    have hm : Hid (p.most i.op = (1 : Int)) := hid (by rw [hmo.out]; simp)
    clear h hmo
    by_cases h0 : 0 ≤ i.n
    · have t0 : decide (0 ≤ i.n) = true := decide_eq_true h0
      have hr : Hid (decide (0 ≤ i.n ∧ i.n < p.most i.op) = decide (i.n < (1 : Int))) := hid (by rw [hm.out]; exact decide_eq_decide.2 ⟨fun h => h.2, fun h => ⟨h0, h⟩⟩)
      go_wp2_with fail
      go_ret
      exact ⟨by rw [hr.out]; rfl, HB2.out⟩
    · have t0 : decide (0 ≤ i.n) = false := decide_eq_false h0
      have hr : Hid (decide (0 ≤ i.n ∧ i.n < p.most i.op) = false) := hid (decide_eq_false fun h => h0 h.1)
      go_wp2_with fail
      go_ret
      exact ⟨by rw [hr.out]; rfl, HB2.out⟩
end Go.Proofs.YtdmogoaaecdbaaaGreatDoor


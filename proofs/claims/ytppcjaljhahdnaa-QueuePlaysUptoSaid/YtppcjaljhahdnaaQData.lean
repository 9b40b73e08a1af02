/- Values and plans in memory: the data, and what reads of it. -/
import Derived.Test.YtppcjaljhahdnaaApp
import Derived.Laws.StructEq
import Derived.Deep.DeepMust
namespace Go.Proofs.Ytppcjaljhahdnaa
open Go.RowKit
set_option linter.unusedVariables false

/-- are two lists one? (closed to the walk) -/
def eqL {α : Type} [DecidableEq α] (l m : List α) : Bool := decide (l = m)

theorem eqL_len {α : Type} [DecidableEq α] {l m : List α} (h : l.length ≠ m.length) : eqL l m = false := by
  unfold eqL; exact decide_eq_false fun e => h (by rw [e])
theorem eqL_at {α : Type} [DecidableEq α] {l m : List α} {k : Nat} (h1 : k < l.length) (h2 : k < m.length) (h : l[k] ≠ m[k]) : eqL l m = false := by
  unfold eqL; exact decide_eq_false fun e => h (by subst e; rfl)
theorem eqL_all {α : Type} [DecidableEq α] {l m : List α} (hl : l.length = m.length) (h : ∀ j (h1 : j < l.length) (h2 : j < m.length), j < l.length → l[j] = m[j]) : eqL l m = true := by
  unfold eqL; exact decide_eq_true (List.ext_getElem hl fun j h1 h2 => h j h1 h2 h1)
theorem all_step {α : Type} {l m : List α} {k : Nat} (h : ∀ j (h1 : j < l.length) (h2 : j < m.length), j < k → l[j] = m[j]) (h1 : k < l.length) (h2 : k < m.length) (e : l[k] = m[k]) :
    ∀ j (h1 : j < l.length) (h2 : j < m.length), j < k + 1 → l[j] = m[j] := by
  intro j a b hj
  rcases Nat.lt_or_ge j k with g | g
  · exact h j a b g
  · obtain rfl : j = k := by omega
    exact e

/-- a value's three cells -/
structure Val where
  kind : Int
  int : Int
  text : ByteArray
deriving DecidableEq
def Val.cells (v : Val) : List Value := [.int .i64 v.kind, .int .i64 v.int, .string v.text]
def vcells (l : List Val) : List Value := l.flatMap Val.cells
theorem vcells_len (l : List Val) : (vcells l).length = l.length * 3 := by
  induction l with
  | nil => rfl
  | cons x l ih => simp only [vcells, List.flatMap_cons, List.length_append, List.length_cons] at *; rw [ih]; simp [Val.cells]; omega
theorem vcells_at (l : List Val) (k : Nat) (h : k < l.length) : (vcells l)[k * 3]? = some (.int .i64 l[k].kind) ∧ (vcells l)[k * 3 + 1]? = some (.int .i64 l[k].int) ∧ (vcells l)[k * 3 + 2]? = some (.string l[k].text) := by
  induction l generalizing k with
  | nil => simp at h
  | cons x l ih =>
    cases k with
    | zero => simp [vcells, Val.cells]
    | succ k =>
      have := ih k (by simpa using h)
      have e : vcells (x :: l) = .int .i64 x.kind :: .int .i64 x.int :: .string x.text :: vcells l := rfl
      rw [e, show (k + 1) * 3 = k * 3 + 3 by omega]
      simpa [Nat.add_assoc] using this
theorem val_ne {a b : Val} (h : a.kind ≠ b.kind ∨ a.int ≠ b.int ∨ a.text ≠ b.text) : a ≠ b := by
  rintro rfl; simp at h
theorem val_eq {a b : Val} (h1 : a.kind = b.kind) (h2 : a.int = b.int) (h3 : a.text = b.text) : a = b := by
  cases a; cases b; simp_all

structure Pl where
  cl : Int
  tok : Int
  nm : ByteArray
  args : List Val
  how : Int
  rd : List ByteArray
  wr : List ByteArray
deriving DecidableEq
/-- a plan with its slices' addresses and capacities -/
structure RP where
  p : Pl
  A1 : Option Addr
  c1 : Nat
  A2 : Option Addr
  c2 : Nat
  A3 : Option Addr
  c3 : Nat
def RP.cells (r : RP) : List Value := [.int .i64 r.p.cl, .int .u64 r.p.tok, .string r.p.nm, .slice r.A1 r.p.args.length r.c1, .int .i64 r.p.how, .slice r.A2 r.p.rd.length r.c2, .slice r.A3 r.p.wr.length r.c3]
structure RP.ok (S : Nat → Prop) (w : World) (r : RP) : Prop where
  args : Rd S w 3 r.A1 r.p.args.length (vcells r.p.args)
  rd : Rd S w 1 r.A2 r.p.rd.length (r.p.rd.map .string)
  wr : Rd S w 1 r.A3 r.p.wr.length (r.p.wr.map .string)
theorem RP.ok.keep {S : Nat → Prop} {w w' : World} {r : RP} (h : r.ok S w) (hk : ∀ b, S b → b < w.heap.size → w'.heap[b]? = w.heap[b]?) : r.ok S w' := ⟨h.args.keep hk, h.rd.keep hk, h.wr.keep hk⟩
theorem RP.ok.alloc {S : Nat → Prop} {w : World} {r : RP} (h : r.ok S w) (o : Obj) : r.ok S (w.alloc o) := ⟨h.args.alloc o, h.rd.alloc o, h.wr.alloc o⟩
theorem RP.ok.drew {S : Nat → Prop} {w : World} {r : RP} (h : r.ok S w) : r.ok S w.drew := ⟨h.args, h.rd, h.wr⟩
theorem RP.ok.drewN {S : Nat → Prop} {w : World} {r : RP} (h : r.ok S w) (k : Nat) : r.ok S (w.drewN k) := ⟨h.args, h.rd, h.wr⟩
theorem RP.ok.below {S : Nat → Prop} {w w' : World} {r : RP} (h : r.ok S w) (hb : Below w.heap.size w w') : r.ok S w' := h.keep fun b _ hl => hb.block b hl
theorem RP.ok.more {S S' : Nat → Prop} {w : World} {r : RP} (h : r.ok S w) (hS : ∀ b, S b → b < w.heap.size → S' b) : r.ok S' w := ⟨h.args.more hS, h.rd.more hS, h.wr.more hS⟩
/-- no list is longer than a thousand million -/
structure Pl.fits (p : Pl) : Prop where
  args : p.args.length ≤ 1000000000
  rd : p.rd.length ≤ 1000000000
  wr : p.wr.length ≤ 1000000000

def eqP (a b : Pl) : Bool := decide (a = b)
def pcells (rs : List RP) : List Value := rs.flatMap RP.cells
theorem pcells_len (rs : List RP) : (pcells rs).length = rs.length * 7 := by
  induction rs with
  | nil => rfl
  | cons x l ih => simp only [pcells, List.flatMap_cons, List.length_append, List.length_cons] at *; rw [ih]; simp [RP.cells]; omega
theorem pcells_cons (x : RP) (l : List RP) : pcells (x :: l) = x.cells ++ pcells l := rfl
theorem pcells_app (l m : List RP) : pcells (l ++ m) = pcells l ++ pcells m := by simp [pcells]
theorem pcells_at (rs : List RP) (k j : Nat) (h : k < rs.length) (hj : j < 7) : (pcells rs)[k * 7 + j]? = rs[k].cells[j]? := by
  induction rs generalizing k with
  | nil => simp at h
  | cons x l ih =>
    have hx : x.cells.length = 7 := rfl
    rw [pcells_cons]
    cases k with
    | zero => rw [List.getElem?_append_left (by rw [hx]; omega)]; simp
    | succ k =>
      rw [List.getElem?_append_right (by rw [hx]; omega), hx, show (k + 1) * 7 + j - 7 = k * 7 + j by omega, ih k (by simpa using h)]
      simp
theorem pcells_one (rs : List RP) : ∀ u ∈ pcells rs, u.oneCell' = true := by
  intro u hu
  obtain ⟨r, _, hr⟩ := List.mem_flatMap.1 hu
  simp only [RP.cells, List.mem_cons, List.not_mem_nil, or_false] at hr
  rcases hr with h | h | h | h | h | h | h <;> subst h <;> rfl
theorem vcells_one (l : List Val) : ∀ u ∈ vcells l, u.oneCell' = true := by
  intro u hu
  obtain ⟨r, _, hr⟩ := List.mem_flatMap.1 hu
  simp only [Val.cells, List.mem_cons, List.not_mem_nil, or_false] at hr
  rcases hr with h | h | h <;> subst h <;> rfl
theorem str_one (l : List ByteArray) : ∀ u ∈ l.map Value.string, u.oneCell' = true := by
  intro u hu
  obtain ⟨_, _, rfl⟩ := List.mem_map.1 hu
  rfl

/-- a slice of plans -/
structure PlansOk (S : Nat → Prop) (w : World) (A : Option Addr) (rs : List RP) : Prop where
  row : Rd S w 7 A rs.length (pcells rs)
  ok : ∀ r ∈ rs, r.ok S w
section
variable {S S' : Nat → Prop} {w w' : World} {A : Option Addr} {rs : List RP}
theorem PlansOk.keep (h : PlansOk S w A rs) (hk : ∀ b, S b → b < w.heap.size → w'.heap[b]? = w.heap[b]?) : PlansOk S w' A rs := ⟨h.row.keep hk, fun r hr => (h.ok r hr).keep hk⟩
theorem PlansOk.below (h : PlansOk S w A rs) (hb : Below w.heap.size w w') : PlansOk S w' A rs := h.keep fun b _ hl => hb.block b hl
theorem PlansOk.more (h : PlansOk S w A rs) (hS : ∀ b, S b → b < w.heap.size → S' b) : PlansOk S' w A rs := ⟨h.row.more hS, fun r hr => (h.ok r hr).more hS⟩
theorem PlansOk.at_ {k : Nat} (h : PlansOk S w A rs) (hk : k < rs.length) : ∃ b o, A = some ⟨b, o, none⟩ ∧ S b ∧ b < w.heap.size ∧ rs[k].ok S w ∧
    w.cell? ⟨b, o + k * 7, none⟩ = some (.int .i64 rs[k].p.cl) ∧ w.cell? ⟨b, o + k * 7 + 1, none⟩ = some (.int .u64 rs[k].p.tok) ∧ w.cell? ⟨b, o + k * 7 + 2, none⟩ = some (.string rs[k].p.nm) ∧
    w.cell? ⟨b, o + k * 7 + 3, none⟩ = some (.slice rs[k].A1 rs[k].p.args.length rs[k].c1) ∧ w.cell? ⟨b, o + k * 7 + 4, none⟩ = some (.int .i64 rs[k].p.how) ∧
    w.cell? ⟨b, o + k * 7 + 5, none⟩ = some (.slice rs[k].A2 rs[k].p.rd.length rs[k].c2) ∧ w.cell? ⟨b, o + k * 7 + 6, none⟩ = some (.slice rs[k].A3 rs[k].p.wr.length rs[k].c3) := by
  obtain ⟨b, o, e, hS, hl, hc⟩ := h.row.at_ hk
  have g := fun j (hj : j < 7) u (hu : rs[k].cells[j]? = some u) => hc (k * 7 + j) u (by rw [pcells_at rs k j hk hj]; exact hu)
  simp only [← Nat.add_assoc] at g
  exact ⟨b, o, e, hS, hl, h.ok _ (List.getElem_mem hk), g 0 (by omega) _ rfl, g 1 (by omega) _ rfl, g 2 (by omega) _ rfl, g 3 (by omega) _ rfl, g 4 (by omega) _ rfl, g 5 (by omega) _ rfl, g 6 (by omega) _ rfl⟩
end
def plans (rs : List RP) : List Pl := rs.map (·.p)

theorem own_below {w w' : World} {base : Nat} {e : TypeId} {size n : Nat} {v : Value} {xs : List Value} (h : w.ownsRow base e size v n xs) (hb : Below w.heap.size w w') : w'.ownsRow base e size v n xs := by
  refine ⟨h.1, ?_⟩
  rcases h.2 with hn | ⟨g, cap, cur, rfl, hg, hh, rest⟩
  · exact .inl hn
  · exact .inr ⟨g, cap, cur, rfl, hg, (hb.block g (Array.getElem?_eq_some_iff.1 hh).1).trans hh, rest⟩
theorem own_base {w : World} {base base' : Nat} {e : TypeId} {size n : Nat} {v : Value} {xs : List Value} (hb : base' ≤ base) (h : w.ownsRow base e size v n xs) : w.ownsRow base' e size v n xs := by
  refine ⟨h.1, ?_⟩
  rcases h.2 with hn | ⟨g, cap, cur, rfl, hg, rest⟩
  · exact .inl hn
  · exact .inr ⟨g, cap, cur, rfl, by omega, rest⟩
/-- a copy's append: what was there before the new row was laid is as it was -/
theorem below_of_copy {W w1 : World} {o : Obj} (hg : (W.alloc o).grownBy w1 (some W.heap.size)) : Below W.heap.size W w1 :=
  ((Below.refl _ _).alloc (Nat.le_refl _) o).grown hg (by simp) fun k hk => by injection hk with hk; omega
theorem own_empty (W : World) (e : TypeId) (size : Nat) : (W.alloc (.cells #[] e)).ownsRow W.heap.size e size (.slice (some ⟨W.heap.size, 0, none⟩) 0 0) 0 [] := World.ownsRow_made W #[] 0 (Nat.le_refl _) (by simp [maxLen]) (by simp)

theorem own_empty' (W : World) (e : TypeId) (size : Nat) (g : Nat) (hg : g = W.heap.size) : (W.alloc (.cells #[] e)).ownsRow g e size (.slice (some ⟨g, 0, none⟩) 0 0) 0 [] := by
  subst hg; exact own_empty W e size
theorem below_of_copy' {W w1 : World} {o : Obj} {g : Nat} (hg : (W.alloc o).grownBy w1 (Value.slice (some ⟨g, 0, none⟩) 0 0).ownBlock) (hW : g = W.heap.size) : Below W.heap.size W w1 := by
  subst hW; exact below_of_copy hg
/-- 'append(T{}, src...)': a copy in a row of its own -/
theorem wpList_copy_rd {P : Program} (W : World) {ops : Array Oper} {rest : List Oper} {o : Oper} {a : Act} {Q : Exit → Act → World → Prop} (hgd : o.guard = none) (s x : Operand) (t : TypeId)
    (ho : o.op = .call { callee := .builtin .append, args := #[s, x], argTypes := #[t, t] })
    (e : TypeId) (i : TypeInfo) (z : Value) (size bytes : Nat) (ht : P.underlying t = some (.slice e)) (hi : P.info? e = some i) (hz : i.zero = some z)
    (hsize : i.size = size) (hby : i.bytes = bytes) (hzs : z.cells.size = size) (hsz : 0 < size)
    (g : Nat) (hs : a.eval s = .slice (some ⟨g, 0, none⟩) 0 0) (hg : g = W.heap.size)
    (S : Nat → Prop) (A : Option Addr) (m c : Nat) (news : List Value) (hx : a.eval x = .slice A m c) (hr : Rd S W size A m news) (h1 : ∀ u ∈ news, u.oneCell' = true)
    (h63 : m ≤ maxLen) (hbytes : m * bytes ≤ 140737488355328)
    (h : ∀ A' c' w', w'.ownsRow W.heap.size e size (.slice A' m c') m news → Below W.heap.size W w' → wpList P ops Q rest (a.put o.dst (.slice A' m c')) w') : wpList P ops Q (o :: rest) a (W.alloc (.cells #[] e)) := by
  subst hg
  refine wpList_append_rd _ hgd s x t ho W.heap.size e i z size bytes ht hi hz hsize hby hzs hsz (.slice (some ⟨W.heap.size, 0, none⟩) 0 0) 0 [] hs (own_empty W e size) S A m c news hx (hr.alloc _) h1 (by omega) (by simpa using hbytes) (by simp) ?_
  intro v' w' h2 h3 _
  simp only [Nat.zero_add, List.nil_append] at h2
  obtain ⟨A', c', rfl, _, _⟩ := own_form h2
  exact h A' c' w' h2 (below_of_copy h3)

/-- a plan whose three lists are owned from block base on -/
structure RP.own (base : Nat) (w : World) (r : RP) : Prop where
  args : w.ownsRow base 86 3 (.slice r.A1 r.p.args.length r.c1) r.p.args.length (vcells r.p.args)
  rd : w.ownsRow base 9 1 (.slice r.A2 r.p.rd.length r.c2) r.p.rd.length (r.p.rd.map .string)
  wr : w.ownsRow base 9 1 (.slice r.A3 r.p.wr.length r.c3) r.p.wr.length (r.p.wr.map .string)
theorem RP.own.below {base : Nat} {w w' : World} {r : RP} (h : r.own base w) (hb : Below w.heap.size w w') : r.own base w' := ⟨own_below h.args hb, own_below h.rd hb, own_below h.wr hb⟩
theorem RP.own.base {base base' : Nat} {w : World} {r : RP} (h : r.own base w) (hb : base' ≤ base) : r.own base' w := ⟨own_base hb h.args, own_base hb h.rd, own_base hb h.wr⟩
theorem Rd.of_own' {w : World} {base : Nat} {e : TypeId} {size n c : Nat} {A : Option Addr} {xs : List Value} (h : w.ownsRow base e size (.slice A n c) n xs) : Rd (fun b => base ≤ b) w size A n xs :=
  (Rd.of_own h).more fun b hb _ => (h.lt b hb.symm).1
theorem RP.own.ok {base : Nat} {w : World} {r : RP} (h : r.own base w) : r.ok (fun b => base ≤ b) w := ⟨Rd.of_own' h.args, Rd.of_own' h.rd, Rd.of_own' h.wr⟩

theorem Rd.setCell {S : Nat → Prop} {w : World} {size n : Nat} {A : Option Addr} {xs : List Value} (h : Rd S w size A n xs) {p : Addr} (hp : ¬ S p.block) (u : Value) : Rd S (w.setCell p u) size A n xs :=
  h.keep fun b hb _ => Below.heap_setCell w p u b (by rintro rfl; exact hp hb)
theorem RP.ok.setCell {S : Nat → Prop} {w : World} {r : RP} (h : r.ok S w) {p : Addr} (hp : ¬ S p.block) (u : Value) : r.ok S (w.setCell p u) := ⟨h.args.setCell hp u, h.rd.setCell hp u, h.wr.setCell hp u⟩
theorem RP.ok.all {S : Nat → Prop} {w : World} {r : RP} (h : r.ok S w) : r.ok (fun b => b < w.heap.size) w := h.more fun _ _ hl => hl

theorem Rd.new (w : World) (e : TypeId) (size n : Nat) (cs : Array Value) (g : Nat) (hg : g = w.heap.size) (hn : cs.size = n * size) : Rd (fun b => b = g) (w.alloc (.cells cs e)) size (some ⟨g, 0, none⟩) n cs.toList := by
  subst hg
  refine ⟨by simpa using hn, fun _ => ⟨_, 0, rfl, rfl, by simp, fun j u hu => ?_⟩⟩
  rw [Nat.zero_add, (Blk.new w e cs).cell j]
  simpa using hu

theorem own_type_ne {w : World} {base base' : Nat} {e e' : TypeId} {size size' n n' : Nat} {v v' : Value} {xs xs' : List Value} (h : w.ownsRow base e size v n xs) (h' : w.ownsRow base' e' size' v' n' xs') (hne : e ≠ e') : v.ownBlock = none ∨ v.ownBlock ≠ v'.ownBlock := by
  rcases h.2 with ⟨rfl, _⟩ | ⟨g, cap, cur, rfl, _, hh, _⟩
  · left; rfl
  · right
    rcases h'.2 with ⟨rfl, _⟩ | ⟨g', cap', cur', rfl, _, hh', _⟩
    · simp [Value.ownBlock]
    · simp only [Value.ownBlock, ne_eq, Option.some.injEq]
      rintro rfl
      rw [hh] at hh'
      injection hh' with hh'
      injection hh' with _ ht
      exact hne ht
theorem RP.own.alloc {base : Nat} {w : World} {r : RP} (h : r.own base w) (o : Obj) : r.own base (w.alloc o) := ⟨h.args.alloc o, h.rd.alloc o, h.wr.alloc o⟩
theorem RP.own.setBelow {base : Nat} {w : World} {r : RP} (h : r.own base w) {a : Addr} (ha : a.block < base) (u : Value) : r.own base (w.setCell a u) :=
  ⟨ownsRow_setCell_below h.args ha u, ownsRow_setCell_below h.rd ha u, ownsRow_setCell_below h.wr ha u⟩
/-- an append onto a row of plans does not touch a plan's own lists -/
theorem RP.own.kept {base base' : Nat} {w w' : World} {r : RP} {v : Value} {n : Nat} {xs : List Value} (h : r.own base w) (hg : w.grownBy w' v.ownBlock) (hv : w.ownsRow base' 40 7 v n xs) : r.own base w' :=
  ⟨h.args.kept hg (own_type_ne h.args hv (by decide)), h.rd.kept hg (own_type_ne h.rd hv (by decide)), h.wr.kept hg (own_type_ne h.wr hv (by decide))⟩
/-- plans in a row and lists of the call's own -/
structure PlansOwn (base : Nat) (w : World) (A : Option Addr) (c : Nat) (rs : List RP) : Prop where
  row : w.ownsRow base 40 7 (.slice A rs.length c) rs.length (pcells rs)
  ok : ∀ r ∈ rs, r.own base w
theorem PlansOwn.below {base : Nat} {w w' : World} {A : Option Addr} {c : Nat} {rs : List RP} (h : PlansOwn base w A c rs) (hb : Below w.heap.size w w') : PlansOwn base w' A c rs := ⟨own_below h.row hb, fun r hr => (h.ok r hr).below hb⟩
theorem PlansOwn.base {base base' : Nat} {w : World} {A : Option Addr} {c : Nat} {rs : List RP} (hb : base' ≤ base) (h : PlansOwn base w A c rs) : PlansOwn base' w A c rs := ⟨own_base hb h.row, fun r hr => (h.ok r hr).base hb⟩
theorem PlansOwn.ok' {base : Nat} {w : World} {A : Option Addr} {c : Nat} {rs : List RP} (h : PlansOwn base w A c rs) : PlansOk (fun b => base ≤ b) w A rs := ⟨Rd.of_own' h.row, fun r hr => (h.ok r hr).ok⟩

theorem cells_one (r : RP) : ∀ u ∈ r.cells, u.oneCell' = true := by
  intro u hu
  simp only [RP.cells, List.mem_cons, List.not_mem_nil, or_false] at hu
  rcases hu with h | h | h | h | h | h | h <;> subst h <;> rfl
theorem pcells_set (l t : List RP) (r r' : RP) (j : Nat) (v : Value) (h : r.cells.set j v = r'.cells) (hj : j < 7) : (pcells (l ++ r :: t)).set (l.length * 7 + j) v = pcells (l ++ r' :: t) := by
  rw [pcells_app, pcells_app, pcells_cons, pcells_cons, List.set_append_right _ _ (by rw [pcells_len]; omega), pcells_len, Nat.add_sub_cancel_left, List.set_append_left _ _ (by show j < r.cells.length; exact hj), h]
theorem pcells_mid (l t : List RP) (r : RP) (j : Nat) (hj : j < 7) : (pcells (l ++ r :: t))[l.length * 7 + j]? = r.cells[j]? := by
  have := pcells_at (l ++ r :: t) l.length j (by simp) hj
  simpa using this
/-- the row of plans at work: l are done, r is at work, t is to come -/
theorem row_cell {w : World} {base g n c : Nat} {l t : List RP} {r : RP} (h : w.ownsRow base 40 7 (.slice (some ⟨g, 0, none⟩) n c) n (pcells (l ++ r :: t))) (hn : n = (l ++ r :: t).length) (j : Nat) (hj : j < 7) : w.cell? ⟨g, l.length * 7 + j, none⟩ = r.cells[j]? := by
  rw [h.cellAt _ (by subst hn; simp; omega), pcells_mid l t r j hj]
theorem row_set {w : World} {base g n c : Nat} {l t : List RP} {r r' : RP} (h : w.ownsRow base 40 7 (.slice (some ⟨g, 0, none⟩) n c) n (pcells (l ++ r :: t))) (j : Nat) (hj : j < 7) (v : Value) (hr : r.cells.set j v = r'.cells) :
    (w.setCell ⟨g, l.length * 7 + j, none⟩ v).ownsRow base 40 7 (.slice (some ⟨g, 0, none⟩) n c) n (pcells (l ++ r' :: t)) := by
  have := (h.stored (l.length * 7 + j) v).1
  rwa [pcells_set l t r r' j v hr hj] at this
/-- a store into a row of plans does not touch lists of other types -/
theorem own_set_ne {w : World} {base base' g n c : Nat} {xs : List Value} (h : w.ownsRow base 40 7 (.slice (some ⟨g, 0, none⟩) n c) n xs) {e : TypeId} {size m : Nat} {v : Value} {ys : List Value} (h' : w.ownsRow base' e size v m ys) (hne : e ≠ 40) (j : Nat) (u : Value) :
    (w.setCell ⟨g, j, none⟩ u).ownsRow base' e size v m ys :=
  h'.kept (h.stored j u).2 (own_type_ne h' h hne)
theorem RP.own.set_ne {w : World} {base base' g n c : Nat} {xs : List Value} {r : RP} (h : w.ownsRow base 40 7 (.slice (some ⟨g, 0, none⟩) n c) n xs) (h' : r.own base' w) (j : Nat) (u : Value) : r.own base' (w.setCell ⟨g, j, none⟩ u) :=
  ⟨own_set_ne h h'.args (by decide) j u, own_set_ne h h'.rd (by decide) j u, own_set_ne h h'.wr (by decide) j u⟩

def OwnS (S : Nat → Prop) (w : World) (e : TypeId) (size : Nat) (v : Value) (n : Nat) (xs : List Value) : Prop := w.ownsRow 0 e size v n xs ∧ ∀ b, v.ownBlock = some b → S b
section
variable {S S' : Nat → Prop} {w w' : World} {e : TypeId} {size n : Nat} {v : Value} {xs : List Value}
theorem OwnS.keep (h : OwnS S w e size v n xs) (hk : ∀ b, S b → b < w.heap.size → w'.heap[b]? = w.heap[b]?) : OwnS S w' e size v n xs := by
  refine ⟨⟨h.1.1, ?_⟩, h.2⟩
  rcases h.1.2 with hn | ⟨g, cap, cur, rfl, hg, hh, rest⟩
  · exact .inl hn
  · exact .inr ⟨g, cap, cur, rfl, hg, (hk g (h.2 g rfl) (Array.getElem?_eq_some_iff.1 hh).1).trans hh, rest⟩
theorem OwnS.of_own {base : Nat} (h : w.ownsRow base e size v n xs) : OwnS (fun b => base ≤ b ∧ b < w.heap.size) w e size v n xs := ⟨own_base (Nat.zero_le _) h, fun b hb => h.lt b hb⟩
theorem OwnS.more (h : OwnS S w e size v n xs) (hS : ∀ b, S b → b < w.heap.size → S' b) : OwnS S' w e size v n xs := ⟨h.1, fun b hb => hS b (h.2 b hb) (h.1.lt b hb).2⟩
theorem OwnS.rd {A : Option Addr} {c : Nat} (h : OwnS S w e size (.slice A n c) n xs) : Rd S w size A n xs := (Rd.of_own h.1).more fun b hb _ => h.2 b hb.symm
end
structure RP.ownS (S : Nat → Prop) (w : World) (r : RP) : Prop where
  args : OwnS S w 86 3 (.slice r.A1 r.p.args.length r.c1) r.p.args.length (vcells r.p.args)
  rd : OwnS S w 9 1 (.slice r.A2 r.p.rd.length r.c2) r.p.rd.length (r.p.rd.map .string)
  wr : OwnS S w 9 1 (.slice r.A3 r.p.wr.length r.c3) r.p.wr.length (r.p.wr.map .string)
/-- plans in memory of their own: all their blocks in S -/
structure PlansS (S : Nat → Prop) (w : World) (A : Option Addr) (c : Nat) (rs : List RP) : Prop where
  row : OwnS S w 40 7 (.slice A rs.length c) rs.length (pcells rs)
  ok : ∀ r ∈ rs, r.ownS S w
theorem PlansS.keep {S : Nat → Prop} {w w' : World} {A : Option Addr} {c : Nat} {rs : List RP} (h : PlansS S w A c rs) (hk : ∀ b, S b → b < w.heap.size → w'.heap[b]? = w.heap[b]?) : PlansS S w' A c rs :=
  ⟨h.row.keep hk, fun r hr => ⟨(h.ok r hr).args.keep hk, (h.ok r hr).rd.keep hk, (h.ok r hr).wr.keep hk⟩⟩
theorem PlansS.of_own {base : Nat} {w : World} {A : Option Addr} {c : Nat} {rs : List RP} (h : PlansOwn base w A c rs) : PlansS (fun b => base ≤ b ∧ b < w.heap.size) w A c rs :=
  ⟨.of_own h.row, fun r hr => ⟨.of_own (h.ok r hr).args, .of_own (h.ok r hr).rd, .of_own (h.ok r hr).wr⟩⟩
theorem PlansS.ok' {S : Nat → Prop} {w : World} {A : Option Addr} {c : Nat} {rs : List RP} (h : PlansS S w A c rs) : PlansOk S w A rs := ⟨h.row.rd, fun r hr => ⟨(h.ok r hr).args.rd, (h.ok r hr).rd.rd, (h.ok r hr).wr.rd⟩⟩
theorem PlansS.more {S S' : Nat → Prop} {w : World} {A : Option Addr} {c : Nat} {rs : List RP} (h : PlansS S w A c rs) (hS : ∀ b, S b → b < w.heap.size → S' b) : PlansS S' w A c rs :=
  ⟨h.row.more hS, fun r hr => ⟨(h.ok r hr).args.more hS, (h.ok r hr).rd.more hS, (h.ok r hr).wr.more hS⟩⟩

theorem Upd.of_below' {w w' : World} (h : Below w.heap.size w w') (M : Nat → Prop) : Upd M w w' := Upd.of_below h fun k hk hB => absurd hk (by omega)
theorem below_two {w : World} (o o' : Obj) : Below w.heap.size w ((w.alloc o).alloc o') := ((Below.refl _ _).alloc (Nat.le_refl _) o).alloc (by simp) o'

end Go.Proofs.Ytppcjaljhahdnaa

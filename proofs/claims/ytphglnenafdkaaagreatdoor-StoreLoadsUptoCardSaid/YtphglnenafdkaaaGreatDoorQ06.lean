/- Texts of the proof, joined: SData, KHelp, VShelf, SFoot, SOf, SClaimP, STurnP, SClaim, KValid, SMay, SApply. -/
import Derived.Test.YtphglnenafdkaaaGreatDoorQ05
import Derived.Test.YtphglnenafdkaaaGreatDoorQ02
import Derived.Deep.WholeRow
import Derived.Laws.Rows
import Derived.Shelf.Small.Bits
import Derived.Shelf.Small.Strs
import Derived.Shelf.Strconv.Itoa0
import Derived.Shelf.LaysM
import Derived.Shelf.Bytes.Len
import Derived.Shelf.Bytes.TryGrow
import Derived.Shelf.Bytes.GrowSliceCatch
import Derived.Shelf.Bytes.GrowSlice
import Derived.Shelf.Strings.Search1
import Derived.Shelf.Bytes.GrowRow0Kept
import Derived.Shelf.Strings.Search2
import Derived.Shelf.Bytes.GrowRowKept
import Derived.Shelf.Strings.Search3
import Derived.Shelf.Bytes.GrowNilKept
import Derived.Shelf.Strings.Cut
import Derived.Shelf.Bytes.GrowKept
import Derived.Shelf.Strings.Count
import Derived.Shelf.Strings.Shaped
import Derived.Shelf.Bytes.WriteStringKept
import Derived.Shelf.Sort.Plain
import Derived.Shelf.Bytes.ResetKept
import Derived.Shelf.Bytes.BufferK
import Derived.Shelf.Unicode.DecodeSlow
import Derived.Shelf.Slices.In.SortNone
import Derived.Ground.SlgfProg
import Derived.Shelf.SlicesE.IndexFunc
import Derived.Test.YtphglnenafdkaaaGreatDoorProg
import Derived.Lib.Hide
namespace Go.Proofs.YtphglnenafdkaaaGreatDoor
open Go.RowKit
set_option linter.unusedVariables false
set_option linter.unusedSimpArgs false

theorem ba_beq (a b : ByteArray) : (a == b) = decide (a = b) := by
  by_cases h : a = b
  · rw [decide_eq_true h]; exact (MapKept.bytes_beq a b).2 h
  · rw [decide_eq_false h]
    cases e : a == b with
    | false => rfl
    | true => exact absurd ((MapKept.bytes_beq a b).1 e) h
theorem str_eq (a b : ByteArray) (w : World) : (Op.equal 9 (.string a) (.string b)).run Tryz.prog w = .ok (decide (a = b)) w := by
  have ht : Tryz.prog.underlying 9 = some .string := Tryz.underlying9
  have e : (a.toList == b.toList) = decide (a = b) := by
    by_cases h : a = b
    · subst h; simp
    · have : ¬ a.toList = b.toList := fun e => h (ba_inj e)
      simp [h, this]
  unfold Op.equal Op.maxDepth
  go_simp
  try rw [e]
theorem str_check (em : Bool) (a : ByteArray) (w : World) : (Instr.checkKey em 10000 9 (.string a)).run Tryz.prog w = .ok () w := by
  kernel_rfl
def strE : KeyEnc Tryz.prog 9 ByteArray where
  enc := .string
  desc := _
  under := Tryz.underlying9
  eq := str_eq
  check := str_check
  now := fun a b => .inr (by
    unfold Instr.sameNow
    simp only [ba_beq])
  bits := fun a => by
    rw [show (10000 : Nat) = 9998 + 1 + 1 from rfl]
    simp [Instr.sameBits, ba_beq]
/-- what a claims map has -/
def Dc (L : List Kv) (n p : Nat) (k : ByteArray) : Option Value := if hasK k L = true ∧ partK n k = p then some (.int .i64 1) else none
/-- what the values map has -/
def Dv (L : List Kv) (k : ByteArray) : Option Value := if (valK k L).k = 0 then none else some (.agg #[.int .i64 (valK k L).k, .int .i64 (valK k L).n, .string (valK k L).s])
/-- the program's store lies at block g: its partitions' maps, its values' map -/
structure PIn (S : Nat → Prop) (w : World) (g : Nat) (s : St) (cb cc : Nat) (mb : Nat → Nat) (vb : Nat) : Prop where
  blk : Blk w g 76 #[.int .i64 s.room, .slice (some ⟨cb, 0, none⟩) s.parts cc, .map (some vb)]
  row : ∃ cs, Blk w cb 78 cs ∧ ∀ p, p < s.parts → cs[p]? = some (.map (some (mb p)))
  cl : ∀ p, p < s.parts → MapF strE w (mb p) (Dc s.L s.parts p)
  inj : ∀ p q, p < s.parts → q < s.parts → mb p = mb q → p = q
  vals : MapF strE w vb (Dv s.L)
  vne : ∀ p, p < s.parts → mb p ≠ vb
  inS : S g ∧ S cb ∧ S vb ∧ ∀ p, p < s.parts → S (mb p)
  lt : ∀ j, S j → j < w.heap.size
  ok : s.Ok
def PAt (S : Nat → Prop) (w : World) (g : Nat) (s : St) : Prop := ∃ cb cc mb vb, PIn S w g s cb cc mb vb
section
variable {S : Nat → Prop} {w w' : World} {g cb cc vb : Nat} {mb : Nat → Nat} {s : St}
theorem PIn.keep (h : PIn S w g s cb cc mb vb) (hk : ∀ b, S b → w'.heap[b]? = w.heap[b]?) (hs : w.heap.size ≤ w'.heap.size) : PIn S w' g s cb cc mb vb := by
  obtain ⟨cs, h1, h2⟩ := h.row
  exact ⟨(hk _ h.inS.1).trans h.blk, ⟨cs, (hk _ h.inS.2.1).trans h1, h2⟩, fun p hp => (h.cl p hp).keep (hk _ (h.inS.2.2.2 p hp)), h.inj, h.vals.keep (hk _ h.inS.2.2.1), h.vne, h.inS, fun j hj => Nat.lt_of_lt_of_le (h.lt j hj) hs, h.ok⟩
theorem PIn.below (h : PIn S w g s cb cc mb vb) (hb : Below w.heap.size w w') : PIn S w' g s cb cc mb vb := h.keep (fun b hb' => hb.block b (h.lt b hb')) hb.size
theorem PIn.upd {M : Nat → Prop} (h : PIn S w g s cb cc mb vb) (hu : Upd M w w') (hM : ∀ b, S b → ¬ M b) : PIn S w' g s cb cc mb vb := h.keep (fun b hb => hu.block b (h.lt b hb) (hM b hb)) hu.size
theorem PAt.below (h : PAt S w g s) (hb : Below w.heap.size w w') : PAt S w' g s := by obtain ⟨_, _, _, _, h⟩ := h; exact ⟨_, _, _, _, h.below hb⟩
theorem PAt.upd {M : Nat → Prop} (h : PAt S w g s) (hu : Upd M w w') (hM : ∀ b, S b → ¬ M b) : PAt S w' g s := by obtain ⟨_, _, _, _, h⟩ := h; exact ⟨_, _, _, _, h.upd hu hM⟩
theorem PAt.lt (h : PAt S w g s) : ∀ j, S j → j < w.heap.size := by obtain ⟨_, _, _, _, h⟩ := h; exact h.lt
theorem PAt.ok (h : PAt S w g s) : s.Ok := by obtain ⟨_, _, _, _, h⟩ := h; exact h.ok
theorem PAt.inS (h : PAt S w g s) : S g := by obtain ⟨_, _, _, _, h⟩ := h; exact h.inS.1
theorem PIn.cells (h : PIn S w g s cb cc mb vb) : w.cell? ⟨g, 0, none⟩ = some (.int .i64 s.room) ∧ w.cell? ⟨g, 1, none⟩ = some (.slice (some ⟨cb, 0, none⟩) s.parts cc) ∧ w.cell? ⟨g, 2, none⟩ = some (.map (some vb)) := ⟨h.blk.cell 0, h.blk.cell 1, h.blk.cell 2⟩
theorem PIn.rowc (h : PIn S w g s cb cc mb vb) (p : Nat) (hp : p < s.parts) : w.cell? ⟨cb, p, none⟩ = some (.map (some (mb p))) := by
  obtain ⟨cs, h1, h2⟩ := h.row
  exact (h1.cell p).trans (h2 p hp)
theorem PIn.get (h : PIn S w g s cb cc mb vb) (k : ByteArray) : (Instr.lookup 74 (.map (some vb)) (.string k) false).run Tryz.prog w = .ok (.agg #[.int .i64 (valK k s.L).k, .int .i64 (valK k s.L).n, .string (valK k s.L).s]) w := by
  have hz : ∀ w, (zeroValue 38).run Tryz.prog w = .ok (.agg #[.int .i64 0, .int .i64 0, .string ⟨#[]⟩]) w := fun w => by kernel_rfl
  have hl := h.vals.lookup Tryz.underlying74 hz k
  have e : (Dv s.L k).getD (.agg #[.int .i64 0, .int .i64 0, .string ⟨#[]⟩]) = .agg #[.int .i64 (valK k s.L).k, .int .i64 (valK k s.L).n, .string (valK k s.L).s] := by
    unfold Dv
    by_cases h0 : (valK k s.L).k = 0
    · rw [if_pos h0]
      have hv : valK k s.L = vl0 := by
        cases hh : hasK k s.L with
        | false => exact valK_none hh
        | true =>
          obtain ⟨x, hx, hk⟩ := hasK_mem.1 hh
          have h1 := valK_mem h.ok.asc hx
          rw [hk] at h1
          have h2 := h.ok.val x hx
          rw [← h1] at h2
          unfold Vl.ok at h2
          rw [if_pos h0] at h2
          simp at h2
          have e : valK k s.L = ⟨(valK k s.L).k, (valK k s.L).n, (valK k s.L).s⟩ := rfl
          rw [e, h0, h2.1, h2.2]; rfl
      rw [hv]; rfl
    · rw [if_neg h0]; rfl
  rw [e] at hl
  exact hl
theorem PIn.claimed (h : PIn S w g s cb cc mb vb) (k : ByteArray) {p : Nat} (hp : partK s.parts k = p) : (Instr.lookup 78 (.map (some (mb p))) (.string k) false).run Tryz.prog w = .ok (.int .i64 (if hasK k s.L = true then 1 else 0)) w := by
  have hpl : p < s.parts := by rw [← hp]; exact partK_lt k (by have := h.ok.parts; omega)
  have hl := (h.cl p hpl).lookup Tryz.underlying78 zero_int k
  have e : (Dc s.L s.parts p k).getD (.int .i64 0) = .int .i64 (if hasK k s.L = true then 1 else 0) := by
    unfold Dc
    cases hasK k s.L <;> simp [hp]
  rw [e] at hl
  exact hl
/-- how many a partition's map has -/
theorem PIn.size (h : PIn S w g s cb cc mb vb) (p : Nat) (hp : p < s.parts) (ty : TypeId) : (Builtin.len_ #[78] ty #[.map (some (mb p))]).run Tryz.prog w = .ok (.int .i64 (cntP s.parts p s.L)) w := by
  have e := (h.cl p hp).len Tryz.underlying78 ty ((s.L.filter fun x => decide (partK s.parts x.1 = p)).map (·.1)) ((List.filter_sublist.map _).nodup (asc_nodup h.ok.asc)) fun k => by
    unfold Dc
    constructor
    · intro hk
      obtain ⟨x, hx, rfl⟩ := List.mem_map.1 hk
      have := List.mem_filter.1 hx
      rw [if_pos ⟨hasK_mem.2 ⟨x, this.1, rfl⟩, by simpa using this.2⟩]; rfl
    · intro hk
      by_cases hc : hasK k s.L = true ∧ partK s.parts k = p
      · obtain ⟨x, hx, rfl⟩ := hasK_mem.1 hc.1
        exact List.mem_map.2 ⟨x, List.mem_filter.2 ⟨hx, by simp [hc.2]⟩, rfl⟩
      · rw [if_neg hc] at hk; cases hk
  rw [e, List.length_map]
  unfold cntP
  rw [List.countP_eq_length_filter]
end
/-! the document's store -/
def kvCells (L : List Kv) : List Value := L.flatMap fun x => [.string x.1, .int .i64 x.2.k, .int .i64 x.2.n, .string x.2.s]
structure RIn (S : Nat → Prop) (w : World) (r : Nat) (s : St) (A : Option Addr) (c : Nat) : Prop where
  blk : Blk w r 94 #[.int .i64 s.parts, .int .i64 s.room, .slice A s.L.length c]
  rd : Rd (fun b => S b ∧ b ≠ r) w 4 A s.L.length (kvCells s.L)
  frm : (A = none ∧ s.L.length = 0 ∧ c = 0) ∨ ((∃ b o, A = some ⟨b, o, none⟩) ∧ s.L.length ≤ c ∧ c ≤ maxLen)
  inS : S r
  lt : ∀ j, S j → j < w.heap.size
  ok : s.Ok
def RAt (S : Nat → Prop) (w : World) (r : Nat) (s : St) : Prop := ∃ A c, RIn S w r s A c -- 94
/-- what a method of the document's store leaves -/
def RGo (S : Nat → Prop) (w : World) (r : Nat) (s : St) (w' : World) : Prop := ∃ S', RAt S' w' r s ∧ (∀ j, S' j → S j ∨ w.heap.size ≤ j) ∧ Upd S w w' -- 94
section
variable {S : Nat → Prop} {w w' : World} {r c : Nat} {A : Option Addr} {s : St}
theorem RIn.keep (h : RIn S w r s A c) (hk : ∀ b, S b → w'.heap[b]? = w.heap[b]?) (hs : w.heap.size ≤ w'.heap.size) : RIn S w' r s A c := -- 94
  ⟨(hk _ h.inS).trans h.blk, h.rd.keep fun b hb _ => hk b hb.1, h.frm, h.inS, fun j hj => Nat.lt_of_lt_of_le (h.lt j hj) hs, h.ok⟩
theorem RIn.below (h : RIn S w r s A c) (hb : Below w.heap.size w w') : RIn S w' r s A c := h.keep (fun b hb' => hb.block b (h.lt b hb')) hb.size -- 94
theorem RIn.upd {M : Nat → Prop} (h : RIn S w r s A c) (hu : Upd M w w') (hM : ∀ b, S b → ¬ M b) : RIn S w' r s A c := h.keep (fun b hb => hu.block b (h.lt b hb) (hM b hb)) hu.size -- 94
theorem RAt.below (h : RAt S w r s) (hb : Below w.heap.size w w') : RAt S w' r s := by obtain ⟨_, _, h⟩ := h; exact ⟨_, _, h.below hb⟩ -- 94
theorem RAt.upd {M : Nat → Prop} (h : RAt S w r s) (hu : Upd M w w') (hM : ∀ b, S b → ¬ M b) : RAt S w' r s := by obtain ⟨_, _, h⟩ := h; exact ⟨_, _, h.upd hu hM⟩ -- 94
theorem RAt.lt (h : RAt S w r s) : ∀ j, S j → j < w.heap.size := by obtain ⟨_, _, h⟩ := h; exact h.lt -- 94
theorem RAt.ok (h : RAt S w r s) : s.Ok := by obtain ⟨_, _, h⟩ := h; exact h.ok -- 94
theorem RIn.cells (h : RIn S w r s A c) : w.cell? ⟨r, 0, none⟩ = some (.int .i64 s.parts) ∧ w.cell? ⟨r, 1, none⟩ = some (.int .i64 s.room) ∧ w.cell? ⟨r, 2, none⟩ = some (.slice A s.L.length c) := ⟨h.blk.cell 0, h.blk.cell 1, h.blk.cell 2⟩ -- 94
theorem kvCells_len (L : List Kv) : (kvCells L).length = L.length * 4 := by
  unfold kvCells
  induction L with
  | nil => rfl
  | cons x l ih => rw [List.flatMap_cons, List.length_append, ih]; simp; omega
theorem kvCells_at : ∀ {L : List Kv} {i : Nat} {x : Kv}, L[i]? = some x → (kvCells L)[i * 4]? = some (.string x.1) ∧ (kvCells L)[i * 4 + 1]? = some (.int .i64 x.2.k) ∧ (kvCells L)[i * 4 + 2]? = some (.int .i64 x.2.n) ∧ (kvCells L)[i * 4 + 3]? = some (.string x.2.s) := by
  intro L
  induction L with
  | nil => intro i x h; simp at h
  | cons y l ih =>
    intro i x h
    have e : kvCells (y :: l) = .string y.1 :: .int .i64 y.2.k :: .int .i64 y.2.n :: .string y.2.s :: kvCells l := rfl
    rw [e]
    cases i with
    | zero => simp at h; subst h; exact ⟨rfl, rfl, rfl, rfl⟩
    | succ i =>
      simp only [List.getElem?_cons_succ] at h
      obtain ⟨h1, h2, h3, h4⟩ := ih h
      rw [show (i + 1) * 4 = i * 4 + 1 + 1 + 1 + 1 by omega]
      simp only [List.getElem?_cons_succ]
      exact ⟨h1, h2, h3, h4⟩
/-- a row of keys with values, cell by cell -/
theorem rd_kv {S : Nat → Prop} {w : World} {A : Option Addr} {L : List Kv} (h : Rd S w 4 A L.length (kvCells L)) {i : Nat} (hi : i < L.length) : ∃ b o, A = some ⟨b, o, none⟩ ∧ S b ∧ b < w.heap.size ∧ w.cell? ⟨b, o + i * 4, none⟩ = some (.string (L[i]).1) ∧ w.cell? ⟨b, o + i * 4 + 1, none⟩ = some (.int .i64 (L[i]).2.k) ∧ w.cell? ⟨b, o + i * 4 + 2, none⟩ = some (.int .i64 (L[i]).2.n) ∧ w.cell? ⟨b, o + i * 4 + 3, none⟩ = some (.string (L[i]).2.s) := by
  obtain ⟨b, o, rfl, hS, hl, hc⟩ := h.at_ hi
  obtain ⟨h1, h2, h3, h4⟩ := kvCells_at (L := L) (i := i) (x := L[i]) (by simp [hi])
  exact ⟨b, o, rfl, hS, hl, hc _ _ h1, by rw [Nat.add_assoc]; exact hc _ _ h2, by rw [Nat.add_assoc]; exact hc _ _ h3, by rw [Nat.add_assoc]; exact hc _ _ h4⟩
end
end Go.Proofs.YtphglnenafdkaaaGreatDoor

namespace Go.Proofs.YtphglnenafdkaaaGreatDoor
open Go.RowKit
set_option linter.unusedVariables false
set_option linter.unusedSimpArgs false

theorem bytes_dec (a b : ByteArray) : (a.toList == b.toList) = decide (a = b) := by
  by_cases h : a = b
  · subst h; simp
  · rw [decide_eq_false h]
    exact Bool.eq_false_iff.2 fun e => h (ba_inj (by simpa using e))
def Vl.cells (v : Vl) : List Value := [.int .i64 v.k, .int .i64 v.n, .string v.s]
def Is.cells (i : Is) : List Value := [.int .i64 i.op, .int .i64 i.n]
def vcells (l : List Vl) : List Value := l.flatMap Vl.cells
def icells (l : List Is) : List Value := l.flatMap Is.cells
theorem flat_at {α : Type} (f : α → List Value) (sz : Nat) (hf : ∀ a, (f a).length = sz) (l : List α) (k j : Nat) (h : k < l.length) (hj : j < sz) : (l.flatMap f)[k * sz + j]? = (f l[k])[j]? := by
  induction l generalizing k with
  | nil => simp at h
  | cons x l ih =>
    rw [List.flatMap_cons]
    cases k with
    | zero => rw [List.getElem?_append_left (by rw [hf]; omega)]; simp
    | succ k =>
      rw [List.getElem?_append_right (by rw [hf, Nat.succ_mul]; omega), hf, show (k + 1) * sz + j - sz = k * sz + j by rw [Nat.succ_mul]; omega, ih k (by simpa using h)]
      simp
theorem flat_length {α : Type} (f : α → List Value) (sz : Nat) (hf : ∀ a, (f a).length = sz) (l : List α) : (l.flatMap f).length = l.length * sz := by
  induction l with
  | nil => simp
  | cons x l ih => rw [List.flatMap_cons, List.length_append, ih, hf, List.length_cons, Nat.succ_mul]; omega
theorem Rd.val_at {S : Nat → Prop} {w : World} {A : Option Addr} {l : List Vl} {k : Nat} (h : Rd S w 3 A l.length (vcells l)) (hk : k < l.length) : ∃ b o, A = some ⟨b, o, none⟩ ∧ b < w.heap.size ∧ w.cell? ⟨b, o + k * 3, none⟩ = some (.int .i64 l[k].k) ∧ w.cell? ⟨b, o + k * 3 + 1, none⟩ = some (.int .i64 l[k].n) ∧ w.cell? ⟨b, o + k * 3 + 2, none⟩ = some (.string l[k].s) := by
  obtain ⟨b, o, e, hS, hl, hc⟩ := Rd.at_ h hk
  have g := fun j (hj : j < 3) u (hu : (Vl.cells l[k])[j]? = some u) => hc (k * 3 + j) u (by rw [vcells, flat_at Vl.cells 3 (fun _ => rfl) l k j hk hj]; exact hu)
  simp only [← Nat.add_assoc] at g
  exact ⟨b, o, e, hl, g 0 (by omega) _ rfl, g 1 (by omega) _ rfl, g 2 (by omega) _ rfl⟩
theorem Rd.ins_at {S : Nat → Prop} {w : World} {A : Option Addr} {l : List Is} {k : Nat} (h : Rd S w 2 A l.length (icells l)) (hk : k < l.length) : ∃ b o, A = some ⟨b, o, none⟩ ∧ b < w.heap.size ∧ w.cell? ⟨b, o + k * 2, none⟩ = some (.int .i64 l[k].op) ∧ w.cell? ⟨b, o + k * 2 + 1, none⟩ = some (.int .i64 l[k].n) := by
  obtain ⟨b, o, e, hS, hl, hc⟩ := Rd.at_ h hk
  have g := fun j (hj : j < 2) u (hu : (Is.cells l[k])[j]? = some u) => hc (k * 2 + j) u (by rw [icells, flat_at Is.cells 2 (fun _ => rfl) l k j hk hj]; exact hu)
  simp only [← Nat.add_assoc] at g
  exact ⟨b, o, e, hl, g 0 (by omega) _ rfl, g 1 (by omega) _ rfl⟩
end Go.Proofs.YtphglnenafdkaaaGreatDoor

namespace Go.Proofs.YtphglnenafdkaaaGreatDoor
open Go.Shelf
def lays106_ren : Go.Shelf.Ren := ⟨fun | 106 => 77 | 213 => 95 | 265 => 134 | n => n, fun | 9 => 9 | 3 => 3 | n => n, fun | n => n⟩
theorem lays106 : Go.Proofs.Lays.n106 Tryz.prog lays106_ren := {
  mixed := by kernel_rfl
  f106 := Tryz.func77.trans (congrArg some (by kernel_rfl))
  f213 := Tryz.func95.trans (congrArg some (by kernel_rfl))
  f265 := Tryz.func134.trans (congrArg some (by kernel_rfl))
  t3 := Tryz.underlying3
  a3 := Tryz.isAgg3
  z3 := Tryz.sizeOf3
  v3 := Tryz.zeroValue3
  t9 := Tryz.underlying9
  a9 := Tryz.isAgg9
  z9 := Tryz.sizeOf9
  v9 := Tryz.zeroValue9 }
def lays137_ren : Go.Shelf.Ren := ⟨fun | 137 => 64 | 217 => 85 | 266 => 109 | n => n, fun | 9 => 9 | 5 => 5 | 3 => 3 | n => n, fun | n => n⟩
theorem lays137 : Go.Proofs.Lays.n137 Tryz.prog lays137_ren := {
  mixed := by kernel_rfl
  f137 := Tryz.func64.trans (congrArg some (by kernel_rfl))
  f217 := Tryz.func85.trans (congrArg some (by kernel_rfl))
  f266 := Tryz.func109.trans (congrArg some (by kernel_rfl))
  t3 := Tryz.underlying3
  a3 := Tryz.isAgg3
  z3 := Tryz.sizeOf3
  v3 := Tryz.zeroValue3
  t5 := Tryz.underlying5
  a5 := Tryz.isAgg5
  z5 := Tryz.sizeOf5
  v5 := Tryz.zeroValue5
  t9 := Tryz.underlying9
  a9 := Tryz.isAgg9
  z9 := Tryz.sizeOf9
  v9 := Tryz.zeroValue9 }
open Go.RowKit in
/-- strings.Compare: "Compare returns an integer comparing two strings lexicographically. The result will be 0 if a == b, -1 if a < b, and +1 if a > b.": IT RETURNS 'Lib.compareBytes a b'; the world is as it was. (LAID: no walk: one application.) -/
theorem strings_Compare (a b : ByteArray) (w : World) :
    Calls Tryz.prog 77 #[.string a, .string b] w fun e w' => e = .returned (.int .i64 (Lib.compareBytes a.data.toList b.data.toList)) ∧ w' = w := Any.strings_Compare lays106 a b w
open Go.RowKit in
/-- strings.IndexByte: "IndexByte returns the index of the first instance of c in s, or -1 if c is not present in s.": IT RETURNS 'Lib.indexByte s c'; the world is as it was. (LAID: no walk: one application.) -/
theorem strings_IndexByte (s : ByteArray) (c : Int) (w : World) :
    Calls Tryz.prog 64 #[.string s, .int .u8 c] w fun e w' => e = .returned (.int .i64 (Lib.indexByte s.data.toList c.toNat.toUInt8)) ∧ w' = w := Any.strings_IndexByte lays137 s c w
end Go.Proofs.YtphglnenafdkaaaGreatDoor

namespace Go.Proofs.YtphglnenafdkaaaGreatDoor
open Go.RowKit
set_option linter.unusedVariables false
set_option linter.unusedSimpArgs false

def keyBs : ByteArray := ⟨#[97, 98, 99, 100, 101, 102, 103, 104, 105, 106, 107, 108, 109, 110, 111, 112, 113, 114, 115, 116, 117, 118, 119, 120, 121, 122, 48, 49, 50, 51, 52, 53, 54, 55, 56, 57, 47, 58, 46, 95, 45]⟩
theorem keyB_all : ∀ n : Fin 256, decide (Lib.indexByte keyBs.data.toList (UInt8.ofNat n.val) < 0) = !keyB (UInt8.ofNat n.val) := by decide +kernel
theorem keyB_index (c : UInt8) : decide (Lib.indexByte keyBs.data.toList c < 0) = !keyB c := by
  have := keyB_all ⟨c.toNat, c.toNat_lt⟩
  simpa using this
theorem index_any (c : UInt8) (w : World) : Calls Tryz.prog 64 #[.string keyBs, .int .u8 (c.toNat : Nat)] w fun e w' => (∃ v : Int, e = .returned (.int .i64 v) ∧ decide (v < 0) = !keyB c) ∧ w' = w := by
  refine (strings_IndexByte keyBs (c.toNat : Nat) w).mono ?_
  rintro e w' ⟨rfl, rfl⟩
  exact ⟨⟨_, rfl, by simpa using keyB_index c⟩, rfl⟩
theorem all_at {s : ByteArray} {k : Nat} (h : k < s.size) (hb : keyB (s.data[k]'h) = false) : s.toList.all keyB = false := by
  rw [List.all_eq_false, ByteArray.toList_eq]
  exact ⟨s.data[k]'h, by rw [Array.mem_toList_iff]; exact Array.getElem_mem h, by rw [hb]; decide⟩
theorem all_all {s : ByteArray} (h : ∀ k (hk : k < s.size), keyB (s.data[k]'hk) = true) : s.toList.all keyB = true := by
  rw [List.all_eq_true, ByteArray.toList_eq]
  intro c hc
  rw [Array.mem_toList_iff] at hc
  obtain ⟨k, hk, rfl⟩ := Array.mem_iff_getElem.1 hc
  exact h k hk
theorem validK_no {s : ByteArray} (h : s.toList.all keyB = false) : validK s = false := by unfold validK; rw [h]; rfl
theorem validK_yes {s : ByteArray} (h : s.toList.all keyB = true) : validK s = (decide (1 ≤ s.size) && decide (s.size ≤ 32)) := by unfold validK; rw [h]; simp
theorem hash_at : ∀ {l : List UInt8} {h k : Nat} (hk : k < l.length), hashL h (l.take (k + 1)) = (hashL h (l.take k) ^^^ (l[k]).toNat) * 1099511628211 % 18446744073709551616 := by
  intro l
  induction l with
  | nil => intro h k hk; simp at hk
  | cons c r ih =>
    intro h k hk
    cases k with
    | zero => simp [hashL]
    | succ k =>
      simp only [List.take_succ_cons, hashL, List.getElem_cons_succ]
      exact ih (by simpa using hk)
theorem hashL_lt : ∀ (l : List UInt8) (h : Nat), h < 18446744073709551616 → hashL h l < 18446744073709551616 := by
  intro l
  induction l with
  | nil => intro h hh; exact hh
  | cons c r ih => intro h hh; exact ih _ (Nat.mod_lt _ (by decide))
theorem hash0_lt (k : ByteArray) : hash0 k < 18446744073709551616 := hashL_lt _ _ (by decide)
theorem wrap_u64_mod (n : Nat) : IntKind.u64.wrap (n : Int) = ((n % 18446744073709551616 : Nat) : Int) := by
  simp [IntKind.wrap, IntKind.bits, IntKind.signed]
theorem wrap_u64_lt {n : Nat} (h : n < 18446744073709551616) : IntKind.u64.wrap (n : Int) = (n : Int) := by
  rw [wrap_u64_mod, Nat.mod_eq_of_lt h]
theorem wrap_i64_lt {n : Nat} (h : n < 9223372036854775808) : IntKind.i64.wrap (n : Int) = (n : Int) := by
  rw [IntKind.wrap_i64]; omega
theorem bits_xor_u64 (a b : Nat) (ha : a < 18446744073709551616) (hb : b < 18446744073709551616) : bits BinOp.xor IntKind.u64 (a : Int) (b : Int) = ((a ^^^ b : Nat) : Int) := by
  have hx : a ^^^ b < 2 ^ 64 := Nat.xor_lt_two_pow (by omega) (by omega)
  have h1 : (BitVec.ofInt 64 (a : Int)).toNat = a := by
    rw [BitVec.ofInt_natCast, BitVec.toNat_ofNat]; exact Nat.mod_eq_of_lt (by omega)
  have h2 : (BitVec.ofInt 64 (b : Int)).toNat = b := by
    rw [BitVec.ofInt_natCast, BitVec.toNat_ofNat]; exact Nat.mod_eq_of_lt (by omega)
  show IntKind.u64.wrap ((BitVec.ofInt 64 (a : Int) ^^^ BitVec.ofInt 64 (b : Int)).toNat : Int) = _
  rw [BitVec.toNat_xor, h1, h2, IntKind.wrap_u64]
  omega
set_option maxRecDepth 100000 in
set_option maxHeartbeats 1000000 in
theorem validk_any (s : ByteArray) (w : World) (hs : s.size ≤ 9223372036854775806) : Calls Tryz.prog 36 #[.string s] w fun e w' => e = .returned (.bool (validK s)) ∧ w' = w := by
  go_enter Tryz.func36, Tryz.ntmps36
  go_wp2_with fail
  go_loopw [6] (fun v wr => ∃ k : Nat, v = .int .i64 k ∧ k ≤ s.size ∧ wr = w ∧ ∀ j (hj : j < s.size), j < k → keyB (s.data[j]'hj) = true) (fun v _ => s.size - (intOf v).toNat)
  case atStart => exact ⟨0, rfl, Nat.zero_le _, rfl, fun j _ h => by omega⟩
  case round =>
    obtain ⟨k, rfl, hk, rfl, ha0⟩ := hrel
    have ha := hid ha0
    clear ha0
    by_cases hlt : k < s.size
    · have i1 : (k : Int) < (s.size : Int) := by omega
      have hs9 : (s.size : Int) ≤ 9223372036854775806 := by omega
      cases hc0 : keyB (s.data[k]'hlt) with
      | true =>
        have hc := hid hc0
        have hi0 := index_any (s[k]'hlt) wr
        rw [show keyB (s[k]'hlt) = true from hc0] at hi0
        have hi := hid hi0
        clear hc0 hi0
        go_wp2_with fail
        refine hi.out.mono ?_
        rintro e w2 ⟨⟨v, rfl, hv⟩, rfl⟩
        simp only [Bool.not_true] at hv
        go_wp2_with fail
        go_roundw
        case rel => exact ⟨k + 1, by go_num, hlt, by first | rfl | trivial, fun j hj hjk => by
          by_cases e : j = k
          · subst e; exact hc.out
          · exact ha.out j hj (by omega)⟩
        case measure => simp [intOf]; omega
      | false =>
        have hfin : Hid (validK s = false) := hid (validK_no (all_at hlt hc0))
        have hi0 := index_any (s[k]'hlt) wr
        rw [show keyB (s[k]'hlt) = false from hc0] at hi0
        have hi := hid hi0
        clear hc0 hi0
        go_wp2_with fail
        refine hi.out.mono ?_
        rintro e w2 ⟨⟨v, rfl, hv⟩, rfl⟩
        simp only [Bool.not_false] at hv
        go_wp2_with fail
        go_ret
        exact ⟨by rw [hfin.out]; rfl, by first | rfl | trivial⟩
    · obtain rfl : k = s.size := by omega
      have hfin : Hid (validK s = (decide (1 ≤ s.size) && decide (s.size ≤ 32))) := hid (validK_yes (all_all fun j hj => ha.out j hj hj))
      by_cases h1 : 1 ≤ s.size
      · have t1 : decide ((1 : Int) ≤ (s.size : Int)) = true := decide_eq_true (by omega)
        have hd : Hid ((decide (1 ≤ s.size) && decide (s.size ≤ 32)) = decide ((s.size : Int) ≤ 32)) := hid (by rw [decide_eq_true h1, Bool.true_and]; exact decide_eq_decide.2 (by omega))
        clear h1
        go_wp2_with fail
        go_ret
        exact ⟨by rw [hfin.out, hd.out]; first | rfl | simp, by first | rfl | trivial⟩
      · have t1 : decide ((1 : Int) ≤ (s.size : Int)) = false := decide_eq_false (by omega)
        have hd : Hid ((decide (1 ≤ s.size) && decide (s.size ≤ 32)) = false) := hid (by rw [decide_eq_false h1, Bool.false_and])
        clear h1
        go_wp2_with fail
        go_ret
        exact ⟨by rw [hfin.out, hd.out]; first | rfl | simp, by first | rfl | trivial⟩
set_option maxRecDepth 100000 in
set_option maxHeartbeats 1000000 in
theorem rvalidk_any (s : ByteArray) (w : World) (hs : s.size ≤ 9223372036854775806) : Calls Tryz.prog 46 #[.string s] w fun e w' => e = .returned (.bool (validK s)) ∧ w' = w := by
  go_enter Tryz.func46, Tryz.ntmps46
  go_wp2_with fail
  go_loopw [3] (fun v wr => ∃ k : Nat, v = .int .i64 k ∧ k ≤ s.size ∧ wr = w ∧ ∀ j (hj : j < s.size), j < k → keyB (s.data[j]'hj) = true) (fun v _ => s.size - (intOf v).toNat)
  case atStart => exact ⟨0, rfl, Nat.zero_le _, rfl, fun j _ h => by omega⟩
  case round =>
    obtain ⟨k, rfl, hk, rfl, ha0⟩ := hrel
    have ha := hid ha0
    clear ha0
    by_cases hlt : k < s.size
    · have i1 : (k : Int) < (s.size : Int) := by omega
      have hs9 : (s.size : Int) ≤ 9223372036854775806 := by omega
      obtain ⟨c, hcc⟩ : ∃ c : Nat, c = (s[k]'hlt).toNat := ⟨_, rfl⟩
      have hkb : keyB (s.data[k]'hlt) = ((decide (97 ≤ c) && decide (c ≤ 122)) || (decide (48 ≤ c) && decide (c ≤ 57)) || decide (c = 47) || decide (c = 58) || decide (c = 46) || decide (c = 95) || decide (c = 45)) := by rw [hcc]; rfl
      have harms : (97 ≤ c ∧ c ≤ 122) ∨ (¬ 97 ≤ c ∧ 48 ≤ c ∧ c ≤ 57) ∨ (¬ 97 ≤ c ∧ ¬ 48 ≤ c ∧ c = 47) ∨ (¬ 97 ≤ c ∧ ¬ 48 ≤ c ∧ ¬ c = 47 ∧ ¬ c = 58 ∧ c = 46) ∨ (¬ 97 ≤ c ∧ ¬ 48 ≤ c ∧ ¬ c = 47 ∧ ¬ c = 58 ∧ ¬ c = 46 ∧ ¬ c = 95 ∧ c = 45) ∨ (¬ 97 ≤ c ∧ ¬ 48 ≤ c ∧ ¬ c = 47 ∧ ¬ c = 58 ∧ ¬ c = 46 ∧ ¬ c = 95 ∧ ¬ c = 45) ∨ (¬ 97 ≤ c ∧ 48 ≤ c ∧ ¬ c ≤ 57 ∧ ¬ c = 47 ∧ c = 58) ∨ (¬ 97 ≤ c ∧ 48 ≤ c ∧ ¬ c ≤ 57 ∧ ¬ c = 47 ∧ ¬ c = 58 ∧ ¬ c = 46 ∧ c = 95) ∨ (¬ 97 ≤ c ∧ 48 ≤ c ∧ ¬ c ≤ 57 ∧ ¬ c = 47 ∧ ¬ c = 58 ∧ ¬ c = 46 ∧ ¬ c = 95 ∧ ¬ c = 45) ∨ (97 ≤ c ∧ ¬ c ≤ 122 ∧ 48 ≤ c ∧ ¬ c ≤ 57 ∧ ¬ c = 47 ∧ ¬ c = 58 ∧ ¬ c = 46 ∧ ¬ c = 95 ∧ ¬ c = 45) := by omega
      rcases harms with ⟨h0, h1⟩ | ⟨h0, h1, h2⟩ | ⟨h0, h1, h2⟩ | ⟨h0, h1, h2, h3, h4⟩ | ⟨h0, h1, h2, h3, h4, h5, h6⟩ | ⟨h0, h1, h2, h3, h4, h5, h6⟩ | ⟨h0, h1, h2, h3, h4⟩ | ⟨h0, h1, h2, h3, h4, h5, h6⟩ | ⟨h0, h1, h2, h3, h4, h5, h6, h7⟩ | ⟨h0, h1, h2, h3, h4, h5, h6, h7, h8⟩
      · have t0 : decide ((97 : Int) ≤ ((s[k]'hlt).toNat : Int)) = true := decide_eq_true (by omega)
        have t1 : decide (((s[k]'hlt).toNat : Int) ≤ (122 : Int)) = true := decide_eq_true (by omega)
        have hc0 : keyB (s.data[k]'hlt) = true := by rw [hkb]; simp; omega
        have hc := hid hc0
        clear hc0 hkb h0 h1 hcc
        go_wp2_with fail
        go_roundw
        case rel => exact ⟨k + 1, by go_num, hlt, by first | rfl | trivial, fun j hj hjk => by
          by_cases e : j = k
          · subst e; exact hc.out
          · exact ha.out j hj (by omega)⟩
        case measure => simp [intOf]; omega
      · have t0 : decide ((97 : Int) ≤ ((s[k]'hlt).toNat : Int)) = false := decide_eq_false (by omega)
        have t1 : decide ((48 : Int) ≤ ((s[k]'hlt).toNat : Int)) = true := decide_eq_true (by omega)
        have t2 : decide (((s[k]'hlt).toNat : Int) ≤ (57 : Int)) = true := decide_eq_true (by omega)
        have hc0 : keyB (s.data[k]'hlt) = true := by rw [hkb]; simp; omega
        have hc := hid hc0
        clear hc0 hkb h0 h1 h2 hcc
        go_wp2_with fail
        go_roundw
        case rel => exact ⟨k + 1, by go_num, hlt, by first | rfl | trivial, fun j hj hjk => by
          by_cases e : j = k
          · subst e; exact hc.out
          · exact ha.out j hj (by omega)⟩
        case measure => simp [intOf]; omega
      · have t0 : decide ((97 : Int) ≤ ((s[k]'hlt).toNat : Int)) = false := decide_eq_false (by omega)
        have t1 : decide ((48 : Int) ≤ ((s[k]'hlt).toNat : Int)) = false := decide_eq_false (by omega)
        have t2 : (((s[k]'hlt).toNat : Int) == (47 : Int)) = true := by first | exact beq_iff_eq.2 (by omega) | exact beq_eq_false_iff_ne.2 (by omega)
        have hc0 : keyB (s.data[k]'hlt) = true := by rw [hkb]; simp; omega
        have hc := hid hc0
        clear hc0 hkb h0 h1 h2 hcc
        go_wp2_with fail
        go_roundw
        case rel => exact ⟨k + 1, by go_num, hlt, by first | rfl | trivial, fun j hj hjk => by
          by_cases e : j = k
          · subst e; exact hc.out
          · exact ha.out j hj (by omega)⟩
        case measure => simp [intOf]; omega
      · have t0 : decide ((97 : Int) ≤ ((s[k]'hlt).toNat : Int)) = false := decide_eq_false (by omega)
        have t1 : decide ((48 : Int) ≤ ((s[k]'hlt).toNat : Int)) = false := decide_eq_false (by omega)
        have t2 : (((s[k]'hlt).toNat : Int) == (47 : Int)) = false := by first | exact beq_iff_eq.2 (by omega) | exact beq_eq_false_iff_ne.2 (by omega)
        have t3 : (((s[k]'hlt).toNat : Int) == (58 : Int)) = false := by first | exact beq_iff_eq.2 (by omega) | exact beq_eq_false_iff_ne.2 (by omega)
        have t4 : (((s[k]'hlt).toNat : Int) == (46 : Int)) = true := by first | exact beq_iff_eq.2 (by omega) | exact beq_eq_false_iff_ne.2 (by omega)
        have hc0 : keyB (s.data[k]'hlt) = true := by rw [hkb]; simp; omega
        have hc := hid hc0
        clear hc0 hkb h0 h1 h2 h3 h4 hcc
        go_wp2_with fail
        go_roundw
        case rel => exact ⟨k + 1, by go_num, hlt, by first | rfl | trivial, fun j hj hjk => by
          by_cases e : j = k
          · subst e; exact hc.out
          · exact ha.out j hj (by omega)⟩
        case measure => simp [intOf]; omega
      · have t0 : decide ((97 : Int) ≤ ((s[k]'hlt).toNat : Int)) = false := decide_eq_false (by omega)
        have t1 : decide ((48 : Int) ≤ ((s[k]'hlt).toNat : Int)) = false := decide_eq_false (by omega)
        have t2 : (((s[k]'hlt).toNat : Int) == (47 : Int)) = false := by first | exact beq_iff_eq.2 (by omega) | exact beq_eq_false_iff_ne.2 (by omega)
        have t3 : (((s[k]'hlt).toNat : Int) == (58 : Int)) = false := by first | exact beq_iff_eq.2 (by omega) | exact beq_eq_false_iff_ne.2 (by omega)
        have t4 : (((s[k]'hlt).toNat : Int) == (46 : Int)) = false := by first | exact beq_iff_eq.2 (by omega) | exact beq_eq_false_iff_ne.2 (by omega)
        have t5 : (((s[k]'hlt).toNat : Int) == (95 : Int)) = false := by first | exact beq_iff_eq.2 (by omega) | exact beq_eq_false_iff_ne.2 (by omega)
        have t6 : (((s[k]'hlt).toNat : Int) == (45 : Int)) = true := by first | exact beq_iff_eq.2 (by omega) | exact beq_eq_false_iff_ne.2 (by omega)
        have hc0 : keyB (s.data[k]'hlt) = true := by rw [hkb]; simp; omega
        have hc := hid hc0
        clear hc0 hkb h0 h1 h2 h3 h4 h5 h6 hcc
        go_wp2_with fail
        go_roundw
        case rel => exact ⟨k + 1, by go_num, hlt, by first | rfl | trivial, fun j hj hjk => by
          by_cases e : j = k
          · subst e; exact hc.out
          · exact ha.out j hj (by omega)⟩
        case measure => simp [intOf]; omega
      · have t0 : decide ((97 : Int) ≤ ((s[k]'hlt).toNat : Int)) = false := decide_eq_false (by omega)
        have t1 : decide ((48 : Int) ≤ ((s[k]'hlt).toNat : Int)) = false := decide_eq_false (by omega)
        have t2 : (((s[k]'hlt).toNat : Int) == (47 : Int)) = false := by first | exact beq_iff_eq.2 (by omega) | exact beq_eq_false_iff_ne.2 (by omega)
        have t3 : (((s[k]'hlt).toNat : Int) == (58 : Int)) = false := by first | exact beq_iff_eq.2 (by omega) | exact beq_eq_false_iff_ne.2 (by omega)
        have t4 : (((s[k]'hlt).toNat : Int) == (46 : Int)) = false := by first | exact beq_iff_eq.2 (by omega) | exact beq_eq_false_iff_ne.2 (by omega)
        have t5 : (((s[k]'hlt).toNat : Int) == (95 : Int)) = false := by first | exact beq_iff_eq.2 (by omega) | exact beq_eq_false_iff_ne.2 (by omega)
        have t6 : (((s[k]'hlt).toNat : Int) == (45 : Int)) = false := by first | exact beq_iff_eq.2 (by omega) | exact beq_eq_false_iff_ne.2 (by omega)
        have hc0 : keyB (s.data[k]'hlt) = false := by rw [hkb]; simp; omega
        have hfin : Hid (validK s = false) := hid (validK_no (all_at hlt hc0))
        clear hc0 hkb h0 h1 h2 h3 h4 h5 h6 hcc
        go_wp2_with fail
        go_ret
        exact ⟨by rw [hfin.out]; rfl, by first | rfl | trivial⟩
      · have t0 : decide ((97 : Int) ≤ ((s[k]'hlt).toNat : Int)) = false := decide_eq_false (by omega)
        have t1 : decide ((48 : Int) ≤ ((s[k]'hlt).toNat : Int)) = true := decide_eq_true (by omega)
        have t2 : decide (((s[k]'hlt).toNat : Int) ≤ (57 : Int)) = false := decide_eq_false (by omega)
        have t3 : (((s[k]'hlt).toNat : Int) == (47 : Int)) = false := by first | exact beq_iff_eq.2 (by omega) | exact beq_eq_false_iff_ne.2 (by omega)
        have t4 : (((s[k]'hlt).toNat : Int) == (58 : Int)) = true := by first | exact beq_iff_eq.2 (by omega) | exact beq_eq_false_iff_ne.2 (by omega)
        have hc0 : keyB (s.data[k]'hlt) = true := by rw [hkb]; simp; omega
        have hc := hid hc0
        clear hc0 hkb h0 h1 h2 h3 h4 hcc
        go_wp2_with fail
        go_roundw
        case rel => exact ⟨k + 1, by go_num, hlt, by first | rfl | trivial, fun j hj hjk => by
          by_cases e : j = k
          · subst e; exact hc.out
          · exact ha.out j hj (by omega)⟩
        case measure => simp [intOf]; omega
      · have t0 : decide ((97 : Int) ≤ ((s[k]'hlt).toNat : Int)) = false := decide_eq_false (by omega)
        have t1 : decide ((48 : Int) ≤ ((s[k]'hlt).toNat : Int)) = true := decide_eq_true (by omega)
        have t2 : decide (((s[k]'hlt).toNat : Int) ≤ (57 : Int)) = false := decide_eq_false (by omega)
        have t3 : (((s[k]'hlt).toNat : Int) == (47 : Int)) = false := by first | exact beq_iff_eq.2 (by omega) | exact beq_eq_false_iff_ne.2 (by omega)
        have t4 : (((s[k]'hlt).toNat : Int) == (58 : Int)) = false := by first | exact beq_iff_eq.2 (by omega) | exact beq_eq_false_iff_ne.2 (by omega)
        have t5 : (((s[k]'hlt).toNat : Int) == (46 : Int)) = false := by first | exact beq_iff_eq.2 (by omega) | exact beq_eq_false_iff_ne.2 (by omega)
        have t6 : (((s[k]'hlt).toNat : Int) == (95 : Int)) = true := by first | exact beq_iff_eq.2 (by omega) | exact beq_eq_false_iff_ne.2 (by omega)
        have hc0 : keyB (s.data[k]'hlt) = true := by rw [hkb]; simp; omega
        have hc := hid hc0
        clear hc0 hkb h0 h1 h2 h3 h4 h5 h6 hcc
        go_wp2_with fail
        go_roundw
        case rel => exact ⟨k + 1, by go_num, hlt, by first | rfl | trivial, fun j hj hjk => by
          by_cases e : j = k
          · subst e; exact hc.out
          · exact ha.out j hj (by omega)⟩
        case measure => simp [intOf]; omega
      · have t0 : decide ((97 : Int) ≤ ((s[k]'hlt).toNat : Int)) = false := decide_eq_false (by omega)
        have t1 : decide ((48 : Int) ≤ ((s[k]'hlt).toNat : Int)) = true := decide_eq_true (by omega)
        have t2 : decide (((s[k]'hlt).toNat : Int) ≤ (57 : Int)) = false := decide_eq_false (by omega)
        have t3 : (((s[k]'hlt).toNat : Int) == (47 : Int)) = false := by first | exact beq_iff_eq.2 (by omega) | exact beq_eq_false_iff_ne.2 (by omega)
        have t4 : (((s[k]'hlt).toNat : Int) == (58 : Int)) = false := by first | exact beq_iff_eq.2 (by omega) | exact beq_eq_false_iff_ne.2 (by omega)
        have t5 : (((s[k]'hlt).toNat : Int) == (46 : Int)) = false := by first | exact beq_iff_eq.2 (by omega) | exact beq_eq_false_iff_ne.2 (by omega)
        have t6 : (((s[k]'hlt).toNat : Int) == (95 : Int)) = false := by first | exact beq_iff_eq.2 (by omega) | exact beq_eq_false_iff_ne.2 (by omega)
        have t7 : (((s[k]'hlt).toNat : Int) == (45 : Int)) = false := by first | exact beq_iff_eq.2 (by omega) | exact beq_eq_false_iff_ne.2 (by omega)
        have hc0 : keyB (s.data[k]'hlt) = false := by rw [hkb]; simp; omega
        have hfin : Hid (validK s = false) := hid (validK_no (all_at hlt hc0))
        clear hc0 hkb h0 h1 h2 h3 h4 h5 h6 h7 hcc
        go_wp2_with fail
        go_ret
        exact ⟨by rw [hfin.out]; rfl, by first | rfl | trivial⟩
      · have t0 : decide ((97 : Int) ≤ ((s[k]'hlt).toNat : Int)) = true := decide_eq_true (by omega)
        have t1 : decide (((s[k]'hlt).toNat : Int) ≤ (122 : Int)) = false := decide_eq_false (by omega)
        have t2 : decide ((48 : Int) ≤ ((s[k]'hlt).toNat : Int)) = true := decide_eq_true (by omega)
        have t3 : decide (((s[k]'hlt).toNat : Int) ≤ (57 : Int)) = false := decide_eq_false (by omega)
        have t4 : (((s[k]'hlt).toNat : Int) == (47 : Int)) = false := by first | exact beq_iff_eq.2 (by omega) | exact beq_eq_false_iff_ne.2 (by omega)
        have t5 : (((s[k]'hlt).toNat : Int) == (58 : Int)) = false := by first | exact beq_iff_eq.2 (by omega) | exact beq_eq_false_iff_ne.2 (by omega)
        have t6 : (((s[k]'hlt).toNat : Int) == (46 : Int)) = false := by first | exact beq_iff_eq.2 (by omega) | exact beq_eq_false_iff_ne.2 (by omega)
        have t7 : (((s[k]'hlt).toNat : Int) == (95 : Int)) = false := by first | exact beq_iff_eq.2 (by omega) | exact beq_eq_false_iff_ne.2 (by omega)
        have t8 : (((s[k]'hlt).toNat : Int) == (45 : Int)) = false := by first | exact beq_iff_eq.2 (by omega) | exact beq_eq_false_iff_ne.2 (by omega)
        have hc0 : keyB (s.data[k]'hlt) = false := by rw [hkb]; simp; omega
        have hfin : Hid (validK s = false) := hid (validK_no (all_at hlt hc0))
        clear hc0 hkb h0 h1 h2 h3 h4 h5 h6 h7 h8 hcc
        go_wp2_with fail
        go_ret
        exact ⟨by rw [hfin.out]; rfl, by first | rfl | trivial⟩
    · obtain rfl : k = s.size := by omega
      have hfin : Hid (validK s = (decide (1 ≤ s.size) && decide (s.size ≤ 32))) := hid (validK_yes (all_all fun j hj => ha.out j hj hj))
      by_cases h1 : 1 ≤ s.size
      · have t1 : decide ((1 : Int) ≤ (s.size : Int)) = true := decide_eq_true (by omega)
        have hd : Hid ((decide (1 ≤ s.size) && decide (s.size ≤ 32)) = decide ((s.size : Int) ≤ 32)) := hid (by rw [decide_eq_true h1, Bool.true_and]; exact decide_eq_decide.2 (by omega))
        clear h1
        go_wp2_with fail
        go_ret
        exact ⟨by rw [hfin.out, hd.out]; first | rfl | simp, by first | rfl | trivial⟩
      · have t1 : decide ((1 : Int) ≤ (s.size : Int)) = false := decide_eq_false (by omega)
        have hd : Hid ((decide (1 ≤ s.size) && decide (s.size ≤ 32)) = false) := hid (by rw [decide_eq_false h1, Bool.false_and])
        clear h1
        go_wp2_with fail
        go_ret
        exact ⟨by rw [hfin.out, hd.out]; first | rfl | simp, by first | rfl | trivial⟩
set_option maxRecDepth 100000 in
theorem hash_any (s : ByteArray) (w : World) (hs : s.size ≤ 9223372036854775806) : Calls Tryz.prog 65 #[.string s] w fun e w' => e = .returned (.int .u64 (hash0 s : Nat)) ∧ w' = w := by
  go_enter Tryz.func65, Tryz.ntmps65
  go_wp2_with fail
  go_loopw [3, 7] (fun u v wr => ∃ (k h : Nat), v = .int .i64 k ∧ u = .int .u64 h ∧ k ≤ s.size ∧ wr = w ∧ h = hashL 14695981039346656037 (s.toList.take k)) (fun u v _ => s.size - (intOf v).toNat)
  case atStart => exact ⟨0, _, rfl, rfl, Nat.zero_le _, rfl, rfl⟩
  case round =>
    obtain ⟨k, h, rfl, rfl, hk, rfl, hh0⟩ := hrel
    have hl : h < 18446744073709551616 := by rw [hh0]; exact hashL_lt _ _ (by decide)
    have hh := hid hh0
    clear hh0
    by_cases hlt : k < s.size
    · have i1 : (k : Int) < (s.size : Int) := by omega
      have hs9 : (s.size : Int) ≤ 9223372036854775806 := by omega
      have hcl : (s[k]'hlt).toNat < 256 := (s[k]'hlt).toNat_lt
      have c1 : IntKind.u64.wrap (((s[k]'hlt).toNat : Nat) : Int) = (((s[k]'hlt).toNat : Nat) : Int) := wrap_u64_lt (by omega)
      have c2 : bits BinOp.xor IntKind.u64 (h : Int) (((s[k]'hlt).toNat : Nat) : Int) = ((h ^^^ (s[k]'hlt).toNat : Nat) : Int) := bits_xor_u64 _ _ hl (by omega)
      have c3 : IntKind.u64.wrap (((h ^^^ (s[k]'hlt).toNat : Nat) : Int) * 1099511628211) = (((h ^^^ (s[k]'hlt).toNat) * 1099511628211 % 18446744073709551616 : Nat) : Int) := wrap_u64_mod ((h ^^^ (s[k]'hlt).toNat) * 1099511628211)
      clear hl hcl
      go_wp2_with fail
      go_roundw
      case rel =>
        refine ⟨k + 1, _, by go_num, rfl, hlt, by first | rfl | trivial, ?_⟩
        have hlt2 : k < s.toList.length := by rw [ByteArray.toList_eq]; simpa using hlt
        rw [hash_at hlt2, ← hh.out]
        congr 3
        simp [ByteArray.toList_eq]
        rfl
      case measure => simp [intOf]; omega
    · obtain rfl : k = s.size := by omega
      have hfin : Hid (h = hash0 s) := hid (by
        rw [hh.out, List.take_of_length_le (by rw [ByteArray.toList_eq]; simp)]; rfl)
      go_wp2_with fail
      go_ret
      exact ⟨by rw [hfin.out]; rfl, by first | rfl | trivial⟩
set_option maxRecDepth 100000 in
theorem rhash_any (s : ByteArray) (w : World) (hs : s.size ≤ 9223372036854775806) : Calls Tryz.prog 71 #[.string s] w fun e w' => e = .returned (.int .u64 (hash0 s : Nat)) ∧ w' = w := by
  go_enter Tryz.func71, Tryz.ntmps71
  go_wp2_with fail
  go_loopw [3, 4] (fun u v wr => ∃ (k h : Nat), v = .int .i64 k ∧ u = .int .u64 h ∧ k ≤ s.size ∧ wr = w ∧ h = hashL 14695981039346656037 (s.toList.take k)) (fun u v _ => s.size - (intOf v).toNat)
  case atStart => exact ⟨0, _, rfl, rfl, Nat.zero_le _, rfl, rfl⟩
  case round =>
    obtain ⟨k, h, rfl, rfl, hk, rfl, hh0⟩ := hrel
    have hl : h < 18446744073709551616 := by rw [hh0]; exact hashL_lt _ _ (by decide)
    have hh := hid hh0
    clear hh0
    by_cases hlt : k < s.size
    · have i1 : (k : Int) < (s.size : Int) := by omega
      have hs9 : (s.size : Int) ≤ 9223372036854775806 := by omega
      have hcl : (s[k]'hlt).toNat < 256 := (s[k]'hlt).toNat_lt
      have c1 : IntKind.u64.wrap (((s[k]'hlt).toNat : Nat) : Int) = (((s[k]'hlt).toNat : Nat) : Int) := wrap_u64_lt (by omega)
      have c2 : bits BinOp.xor IntKind.u64 (h : Int) (((s[k]'hlt).toNat : Nat) : Int) = ((h ^^^ (s[k]'hlt).toNat : Nat) : Int) := bits_xor_u64 _ _ hl (by omega)
      have c3 : IntKind.u64.wrap (((h ^^^ (s[k]'hlt).toNat : Nat) : Int) * 1099511628211) = (((h ^^^ (s[k]'hlt).toNat) * 1099511628211 % 18446744073709551616 : Nat) : Int) := wrap_u64_mod ((h ^^^ (s[k]'hlt).toNat) * 1099511628211)
      clear hl hcl
      go_wp2_with fail
      go_roundw
      case rel =>
        refine ⟨k + 1, _, by go_num, rfl, hlt, by first | rfl | trivial, ?_⟩
        have hlt2 : k < s.toList.length := by rw [ByteArray.toList_eq]; simpa using hlt
        rw [hash_at hlt2, ← hh.out]
        congr 3
        simp [ByteArray.toList_eq]
        rfl
      case measure => simp [intOf]; omega
    · obtain rfl : k = s.size := by omega
      have hfin : Hid (h = hash0 s) := hid (by
        rw [hh.out, List.take_of_length_le (by rw [ByteArray.toList_eq]; simp)]; rfl)
      go_wp2_with fail
      go_ret
      exact ⟨by rw [hfin.out]; rfl, by first | rfl | trivial⟩
theorem part_any (k : ByteArray) (n : Nat) (w : World) (hk : k.size ≤ 9223372036854775806) (h1 : 1 ≤ n) (h64 : n ≤ 64) : Calls Tryz.prog 37 #[.string k, .int .i64 n] w fun e w' => e = .returned (.int .i64 (partK n k : Nat)) ∧ w' = w := by
  have hh := hid (hash_any k w hk)
  have t1 : decide ((n : Int) < 1) = false := decide_eq_false (by omega)
  have c1 : IntKind.u64.wrap (n : Int) = (n : Int) := wrap_u64_lt (by omega)
  have t2 : ((n : Int) == 0) = false := beq_eq_false_iff_ne.2 (by omega)
  have c2 : ((hash0 k : Nat) : Int).tmod (n : Int) = ((hash0 k % n : Nat) : Int) := by rw [Int.tmod_eq_emod_of_nonneg (by omega)]; rfl
  have hlt : hash0 k % n < n := Nat.mod_lt _ h1
  have c3 : IntKind.u64.wrap ((hash0 k % n : Nat) : Int) = ((hash0 k % n : Nat) : Int) := wrap_u64_lt (by omega)
  have c4 : IntKind.i64.wrap ((hash0 k % n : Nat) : Int) = ((hash0 k % n : Nat) : Int) := wrap_i64_lt (by omega)
  have hp : Hid (partK n k = hash0 k % n) := hid rfl
  have hn0 : ¬ (n : Int) = 0 := by omega
  generalize hash0 k % n = q at *
  clear hlt h1 h64
  go_enter Tryz.func37, Tryz.ntmps37
  go_wp2_with fail
  refine hh.out.mono ?_
  rintro e w2 ⟨rfl, rfl⟩
  go_wp2_with fail
  go_ret
  exact ⟨by rw [hp.out]; rfl, rfl⟩
theorem rpart_any (k : ByteArray) (n : Nat) (w : World) (hk : k.size ≤ 9223372036854775806) (h1 : 1 ≤ n) (h64 : n ≤ 64) : Calls Tryz.prog 47 #[.string k, .int .i64 n] w fun e w' => e = .returned (.int .i64 (partK n k : Nat)) ∧ w' = w := by
  have hh := hid (rhash_any k w hk)
  have t1 : decide ((n : Int) < 1) = false := decide_eq_false (by omega)
  have c1 : IntKind.u64.wrap (n : Int) = (n : Int) := wrap_u64_lt (by omega)
  have t2 : ((n : Int) == 0) = false := beq_eq_false_iff_ne.2 (by omega)
  have c2 : ((hash0 k : Nat) : Int).tmod (n : Int) = ((hash0 k % n : Nat) : Int) := by rw [Int.tmod_eq_emod_of_nonneg (by omega)]; rfl
  have hlt : hash0 k % n < n := Nat.mod_lt _ h1
  have c3 : IntKind.u64.wrap ((hash0 k % n : Nat) : Int) = ((hash0 k % n : Nat) : Int) := wrap_u64_lt (by omega)
  have c4 : IntKind.i64.wrap ((hash0 k % n : Nat) : Int) = ((hash0 k % n : Nat) : Int) := wrap_i64_lt (by omega)
  have hp : Hid (partK n k = hash0 k % n) := hid rfl
  have hn0 : ¬ (n : Int) = 0 := by omega
  generalize hash0 k % n = q at *
  clear hlt h1 h64
  go_enter Tryz.func47, Tryz.ntmps47
  go_wp2_with fail
  refine hh.out.mono ?_
  rintro e w2 ⟨rfl, rfl⟩
  go_wp2_with fail
  go_ret
  exact ⟨by rw [hp.out]; rfl, rfl⟩
end Go.Proofs.YtphglnenafdkaaaGreatDoor

namespace Go.Proofs.YtphglnenafdkaaaGreatDoor
open Go.RowKit
set_option linter.unusedVariables false
set_option linter.unusedSimpArgs false

section
variable {S : Nat → Prop} {w w' : World} {g cb cc vb : Nat} {mb : Nat → Nat} {s : St}
theorem PIn.drewN (h : PIn S w g s cb cc mb vb) (q : Nat) : PIn S (w.drewN q) g s cb cc mb vb := h.keep (fun _ _ => rfl) (Nat.le_refl _)
theorem PAt.drewN (h : PAt S w g s) (q : Nat) : PAt S (w.drewN q) g s := by obtain ⟨_, _, _, _, h⟩ := h; exact ⟨_, _, _, _, h.drewN q⟩
set_option maxRecDepth 100000 in
set_option maxHeartbeats 1000000 in
theorem of_any (k : ByteArray) (h : PIn S w g s cb cc mb vb) (hk : k.size ≤ 9223372036854775806) : Calls Tryz.prog 38 #[.pointer (some ⟨g, 0, none⟩), .string k] w fun e w' => e = .returned (.map (some (mb (partK s.parts k)))) ∧ ∃ q, w' = w.drewN q := by
  have hp := h.ok.parts
  have hpl := partK_lt k (show 0 < s.parts by omega)
  have c1 := h.cells.2.1
  have r1 := h.rowc _ hpl
  have hpa := hid fun w => part_any k s.parts w hk hp.1 hp.2
  have hpi : ((partK s.parts k : Nat) : Int) < (s.parts : Int) := by omega
  generalize partK s.parts k = p at *
  clear h hp hpl
  go_enter Tryz.func38, Tryz.ntmps38
  go_wp2_with fail
  go_region_held3 (fun w' => w'.cell? ⟨g, 1, none⟩ = some (.slice (some ⟨cb, 0, none⟩) s.parts cc) ∧ w'.cell? ⟨cb, p, none⟩ = some (.map (some (mb p)))) (go_keep)
    ((go_at_call 37; refine (hpa.out _).mono ?_; rintro e wb ⟨rfl, hwb⟩; obtain rfl := hwb.symm))
  all_goals
    go_wp2_with fail
    go_ret
    first | exact ⟨rfl, 1, rfl⟩ | exact ⟨rfl, 0, rfl⟩ | exact ⟨rfl, _, rfl⟩
set_option maxRecDepth 100000 in
set_option maxHeartbeats 1000000 in
theorem claimed_any (k : ByteArray) (h : PAt S w g s) (hk : k.size ≤ 9223372036854775806) : Calls Tryz.prog 24 #[.pointer (some ⟨g, 0, none⟩), .string k] w fun e w' => e = .returned (.bool (hasK k s.L)) ∧ ∃ q, w' = w.drewN q := by
  obtain ⟨cb, cc, mb, vb, h⟩ := h
  have ho := hid (of_any k h hk)
  have hlk0 := fun q => (h.drewN q).claimed k rfl
  cases hh : hasK k s.L with
  | true =>
    have hlk : ∀ q, _ := fun q => by have := hlk0 q; rw [hh, if_pos rfl] at this; exact this
    clear hlk0 h hk hh
    generalize mb (partK s.parts k) = m at *
    go_enter Tryz.func24, Tryz.ntmps24
    go_wp2_with fail
    refine ho.out.mono ?_
    rintro e w2 ⟨rfl, q, rfl⟩
    have hl := hlk q
    go_wp2_with fail
    go_ret
    exact ⟨rfl, q, rfl⟩
  | false =>
    have hlk : ∀ q, _ := fun q => by have := hlk0 q; rw [hh, if_neg (by simp)] at this; exact this
    clear hlk0 h hk hh
    generalize mb (partK s.parts k) = m at *
    go_enter Tryz.func24, Tryz.ntmps24
    go_wp2_with fail
    refine ho.out.mono ?_
    rintro e w2 ⟨rfl, q, rfl⟩
    have hl := hlk q
    go_wp2_with fail
    go_ret
    exact ⟨rfl, q, rfl⟩
set_option maxRecDepth 100000 in
theorem get_any (k : ByteArray) (h : PAt S w g s) : Calls Tryz.prog 22 #[.pointer (some ⟨g, 0, none⟩), .string k] w fun e w' => e = .returned (.agg #[.int .i64 (valK k s.L).k, .int .i64 (valK k s.L).n, .string (valK k s.L).s]) ∧ Below w.heap.size w w' := by
  obtain ⟨cb, cc, mb, vb, h⟩ := h
  have hB : Below w.heap.size w (w.alloc (.cells #[.int .i64 0, .int .i64 0, .string ⟨#[]⟩] 38)) := (Below.refl _ _).alloc (Nat.le_refl _) _
  have h2 := h.below hB
  have hl := h2.get k
  have c2 := h2.cells.2.2
  generalize (valK k s.L).k = a at *
  generalize (valK k s.L).n = b at *
  generalize (valK k s.L).s = c at *
  clear h h2 hB
  go_enter Tryz.func22, Tryz.ntmps22
  go_wp2_with fail
  refine bodyPost_ret (v := .agg #[.int .i64 a, .int .i64 b, .string c]) ?_ rfl ?_
  · exact results_cell_row (P := Tryz.prog) rfl _ _ w.heap.size 38 _ (0, 0) _ rfl (Blk.new w _ _) Tryz.underlying38 rfl (by kernel_rfl)
  · exact ⟨rfl, (Below.refl _ _).alloc (Nat.le_refl _) _⟩
end
end Go.Proofs.YtphglnenafdkaaaGreatDoor

namespace Go.Proofs.YtphglnenafdkaaaGreatDoor
open Go.RowKit
set_option linter.unusedVariables false
set_option linter.unusedSimpArgs false

/-- a row of numbers -/
def IArr (w : World) (b n : Nat) (f : Nat → Nat) : Prop := ∃ cs, Blk w b 3 cs ∧ cs.size = n ∧ ∀ j, j < n → cs[j]? = some (.int .i64 (f j : Nat))
section
variable {w w' : World} {b n : Nat} {f : Nat → Nat}
theorem IArr.cell (h : IArr w b n f) {j : Nat} (hj : j < n) : w.cell? ⟨b, j, none⟩ = some (.int .i64 (f j : Nat)) := by
  obtain ⟨cs, h1, h2, h3⟩ := h
  exact (h1.cell _).trans (h3 j hj)
theorem IArr.frozen (h : IArr w b n f) (j : Nat) : w.frozen? ⟨b, j, none⟩ = false := by
  obtain ⟨cs, h1, h2, h3⟩ := h
  exact h1.frozen j
theorem IArr.lt (h : IArr w b n f) : b < w.heap.size := by obtain ⟨cs, h1, _⟩ := h; exact h1.lt
theorem IArr.upd {N : Nat → Prop} (h : IArr w b n f) (hu : Upd N w w') (hN : ¬ N b) : IArr w' b n f := by
  obtain ⟨cs, h1, h2⟩ := h
  exact ⟨cs, h1.upd hu hN, h2⟩
theorem IArr.below (h : IArr w b n f) (hb : Below w.heap.size w w') : IArr w' b n f := by
  obtain ⟨cs, h1, h2⟩ := h
  exact ⟨cs, h1.below_all hb, h2⟩
theorem IArr.congr {f' : Nat → Nat} (h : IArr w b n f) (hf : ∀ j, j < n → f j = f' j) : IArr w b n f' := by
  obtain ⟨cs, h1, h2, h3⟩ := h
  exact ⟨cs, h1, h2, fun j hj => by rw [h3 j hj, hf j hj]⟩
theorem IArr.set (h : IArr w b n f) {i : Nat} (hi : i < n) (v : Nat) : IArr (w.setCell ⟨b, i, none⟩ (.int .i64 (v : Nat))) b n (fun j => if j = i then v else f j) := by
  obtain ⟨cs, h1, h2, h3⟩ := h
  refine ⟨_, h1.set_ i _, by simp [h2], fun j hj => ?_⟩
  by_cases e : j = i
  · subst e
    simp only [if_true]
    rw [Array.getElem?_setIfInBounds_self_of_lt (by omega)]
  · simp only [if_neg e]
    rw [Array.getElem?_setIfInBounds_ne (Ne.symm e)]
    exact h3 j hj
end
theorem info_int : (Tryz.prog.info? 3).map (fun i => (i.zero, i.size, i.bytes)) = some (some (.int .i64 0), 1, 8) := by kernel_rfl
theorem make_parts (N : Nat) (hN : N ≤ 64) (w : World) : (Instr.makeSlice 72 (.int .i64 (N : Int)) (.int .i64 (N : Int))).run Tryz.prog w = .ok (.slice (some ⟨w.heap.size, 0, none⟩) N N) (w.alloc (.cells (madeCells #[.int .i64 0] N) 3)) := by
  obtain ⟨i0, hi0, hz0, hz1, hz2⟩ := info_parts info_int
  have h := run_makeSlice (P := Tryz.prog) w 72 3 i0 _ Tryz.underlying72 hi0 hz0 .i64 .i64 (N : Int) (N : Int) (by omega) (Int.le_refl _) (by simp only [Int.toNat_natCast]; rw [hz1]; omega) (by rw [hz2]; omega) (by omega)
  simp only [Int.toNat_natCast, hz1, Nat.mul_one] at h
  exact h
theorem IArr.new (w : World) (N : Nat) : IArr (w.alloc (.cells (madeCells #[.int .i64 0] N) 3)) w.heap.size N fun _ => 0 := by
  have hl := toList_madeCells_one (.int .i64 0) N
  refine ⟨_, Blk.new w _ _, ?_, fun j hj => ?_⟩
  · have := congrArg List.length hl
    simpa using this
  · have := congrArg (fun l => l[j]?) hl
    simpa [hj] using this
/-! the closure -/
theorem notvalid_any (k : ByteArray) (w : World) (hk : k.size ≤ 9223372036854775806) : Calls Tryz.prog 35 #[.string k] w fun e w' => e = .returned (.bool (!validK k)) ∧ w' = w := by
  have hv := hid (validk_any k w hk)
  generalize validK k = b at *
  go_enter Tryz.func35, Tryz.ntmps35
  go_wp2_with fail
  refine hv.out.mono ?_
  rintro e w2 ⟨rfl, rfl⟩
  go_wp2_with fail
  go_ret
  exact ⟨by first | rfl | simp, rfl⟩
def strs (ks : List ByteArray) : List Value := ks.map .string
theorem rd_strs {S : Nat → Prop} {w : World} {A : Option Addr} {ks : List ByteArray} (h : Rd S w 1 A ks.length (strs ks)) {i : Nat} (hi : i < ks.length) : ∃ b o, A = some ⟨b, o, none⟩ ∧ S b ∧ b < w.heap.size ∧ w.cell? ⟨b, o + i, none⟩ = some (.string ks[i]) := by
  obtain ⟨b, o, rfl, hS, hl, hc⟩ := h.at_ hi
  exact ⟨b, o, rfl, hS, hl, hc i _ (by simp [strs, hi])⟩
set_option maxRecDepth 100000 in
set_option maxHeartbeats 1000000 in
theorem indexfunc_any {Sk : Nat → Prop} {w : World} {A : Option Addr} {c : Nat} (ks : List ByteArray) (h : Rd Sk w 1 A ks.length (strs ks)) (hs : ∀ k ∈ ks, k.size ≤ 9223372036854775806) (hn : ks.length ≤ 1000000) : Calls Tryz.prog 63 #[.slice A ks.length c, .func (.func 35) #[] #[]] w fun e w' => (∃ v : Int, e = .returned (.int .i64 v) ∧ decide (0 ≤ v) = ks.any fun k => !validK k) ∧ w' = w := by
  have hr := hid h
  clear h
  go_enter Tryz.func63, Tryz.ntmps63
  go_wp2_with fail
  go_loopw [8] (fun v wr => ∃ k : Nat, v = .int .i64 k ∧ k ≤ ks.length ∧ wr = w ∧ ∀ j (hj : j < ks.length), j < k → validK ks[j] = true) (fun v _ => ks.length - (intOf v).toNat)
  case atStart => exact ⟨0, rfl, Nat.zero_le _, rfl, fun j _ h => by omega⟩
  case round =>
    obtain ⟨k, rfl, hk, rfl, ha0⟩ := hrel
    have ha := hid ha0
    clear ha0
    by_cases hlt : k < ks.length
    · have i1 : (k : Int) < (ks.length : Int) := by omega
      have hs9 : (ks.length : Int) ≤ 1000000 := by omega
      obtain ⟨b, o, rfl, _, hbl, hc⟩ := rd_strs hr.out hlt
      have hv := hid (notvalid_any ks[k] wr (hs _ (List.getElem_mem hlt)))
      cases hb0 : validK ks[k] with
      | true =>
        have hb := hid hb0
        rw [hb0] at hv
        clear hb0 hbl
        go_wp2_with fail
        refine hv.out.mono ?_
        rintro e w2 ⟨rfl, rfl⟩
        go_wp2_with fail
        go_roundw
        case rel => exact ⟨k + 1, by go_num, hlt, by first | rfl | trivial, fun j hj hjk => by
          by_cases e : j = k
          · subst e; exact hb.out
          · exact ha.out j hj (by omega)⟩
        case measure => simp [intOf]; omega
      | false =>
        have hfin : Hid (decide (0 ≤ (k : Int)) = ks.any fun k => !validK k) := hid (by
          rw [decide_eq_true (by omega)]
          exact (List.any_eq_true.2 ⟨ks[k], List.getElem_mem hlt, by rw [hb0]; rfl⟩).symm)
        rw [hb0] at hv
        clear hb0 hbl
        go_wp2_with fail
        refine hv.out.mono ?_
        rintro e w2 ⟨rfl, rfl⟩
        go_wp2_with fail
        go_ret
        exact ⟨⟨_, rfl, hfin.out⟩, by first | rfl | trivial⟩
    · obtain rfl : k = ks.length := by omega
      have hfin : Hid (decide (0 ≤ (-1 : Int)) = ks.any fun k => !validK k) := hid (by
        rw [decide_eq_false (by omega)]
        symm
        rw [List.any_eq_false]
        intro x hx
        obtain ⟨j, hj, rfl⟩ := List.mem_iff_getElem.1 hx
        rw [ha.out j hj hj]; simp)
      clear hr
      go_wp2_with fail
      go_ret
      exact ⟨⟨_, rfl, hfin.out⟩, by first | rfl | trivial⟩
theorem contains_any {Sk : Nat → Prop} {w : World} {A : Option Addr} {c : Nat} (ks : List ByteArray) (h : Rd Sk w 1 A ks.length (strs ks)) (hs : ∀ k ∈ ks, k.size ≤ 9223372036854775806) (hn : ks.length ≤ 1000000) : Calls Tryz.prog 34 #[.slice A ks.length c, .func (.func 35) #[] #[]] w fun e w' => e = .returned (.bool (ks.any fun k => !validK k)) ∧ w' = w := by
  have hv := hid (indexfunc_any (c := c) ks h hs hn)
  generalize (ks.any fun k => !validK k) = b at *
  clear h
  go_enter Tryz.func34, Tryz.ntmps34
  go_wp2_with fail
  refine hv.out.mono ?_
  rintro e w2 ⟨⟨v, rfl, hvb⟩, rfl⟩
  have hh := hid hvb
  clear hvb
  go_wp2_with fail
  go_ret
  exact ⟨by rw [← hh.out]; rfl, rfl⟩
/-! a key gets its place -/
section
variable {S : Nat → Prop} {w w' : World} {g cb cc vb : Nat} {mb : Nat → Nat} {s : St}
theorem PIn.ins {k : ByteArray} {p : Nat} (h : PIn S w g s cb cc mb vb) (hp : partK s.parts k = p) (hu : w.grownBy w' (some (mb p))) (hm : MapF strE w' (mb p) fun y => if y = k then some (.int .i64 1) else Dc s.L s.parts p y) (hok : St.Ok { s with L := insK k s.L }) :
    PIn S w' g { s with L := insK k s.L } cb cc mb vb ∧ Upd S w w' := by
  have hpl : p < s.parts := by rw [← hp]; exact partK_lt k (by have := h.ok.parts; omega)
  have hU : Upd (fun j => j = mb p) w w' := upd_grown hu fun j hj => by injection hj with hj; exact hj.symm
  obtain ⟨cs, h1, h2⟩ := h.row
  have hne : ∀ {b t cs}, Blk w b t cs → ¬ b = mb p := fun hb e => (h.cl p hpl).ne_blk hb e.symm
  refine ⟨⟨h.blk.upd hU (hne h.blk), ⟨cs, h1.upd hU (hne h1), h2⟩, fun q hq => ?_, h.inj, ?_, h.vne, h.inS, fun j hj => Nat.lt_of_lt_of_le (h.lt j hj) hU.size, hok⟩, hU.mono fun j _ hj => hj ▸ h.inS.2.2.2 p hpl⟩
  · show MapF strE w' (mb q) (Dc (insK k s.L) s.parts q)
    by_cases e : q = p
    · subst e
      refine hm.congr fun y => ?_
      unfold Dc
      rw [hasK_ins]
      by_cases e : y = k
      · subst e; simp [hp]
      · have : ¬ k = y := fun h => e h.symm
        simp [e, this]
    · refine ((h.cl q hq).upd hU fun e2 => e (h.inj q p hq hpl e2)).congr fun y => ?_
      unfold Dc
      rw [hasK_ins]
      by_cases e3 : k = y
      · subst e3
        have : ¬ partK s.parts k = q := by rw [hp]; exact fun h => e h.symm
        simp [this]
      · simp [e3]
  · refine (h.vals.upd hU fun e => h.vne p hpl e.symm).congr fun y => ?_
    unfold Dv
    simp only [valK_ins h.ok.asc]
end
/-! what is refused, what is not -/
section
variable {s : St} {ks : List ByteArray}
theorem claimE_key (h : (ks.any fun k => !validK k) = true) : claimE s ks = 30 := by unfold claimE; rw [if_pos h]
theorem rise_no {k : Nat} (hk : k + 1 < ks.length) (h : ltB ks[k] ks[k + 1] = false) : riseB ks = false := by
  unfold riseB
  rw [List.all_eq_false]
  refine ⟨k, List.mem_range.2 (by omega), ?_⟩
  simp [List.getD_eq_getElem?_getD, hk, show k < ks.length by omega, h]
theorem rise_yes (h : ∀ j (hj : j + 1 < ks.length), ltB ks[j] ks[j + 1] = true) : riseB ks = true := by
  unfold riseB
  rw [List.all_eq_true]
  intro j hj
  have := List.mem_range.1 hj
  have h2 := h j (by omega)
  simp [List.getD_eq_getElem?_getD, show j + 1 < ks.length by omega, show j < ks.length by omega, h2]
theorem claimE_rise (h : (ks.any fun k => !validK k) = false) (h2 : riseB ks = false) : claimE s ks = 40 := by unfold claimE; rw [if_neg (by simp [h]), if_pos h2]
theorem claimE_full (h : (ks.any fun k => !validK k) = false) (h2 : riseB ks = true) {p : Nat} (hp : p < s.parts) (h3 : 0 < moreK s ks p) (h4 : s.room < cntP s.parts p s.L + moreK s ks p) : claimE s ks = 5 := by
  unfold claimE
  rw [if_neg (by simp [h]), if_neg (by simp [h2])]
  exact if_pos (List.any_eq_true.2 ⟨p, List.mem_range.2 hp, by simp [h3, h4]⟩)
theorem claimE_ok (h : (ks.any fun k => !validK k) = false) (h2 : riseB ks = true) (h3 : ∀ p, p < s.parts → ¬ (0 < moreK s ks p ∧ s.room < cntP s.parts p s.L + moreK s ks p)) : claimE s ks = 0 := by
  unfold claimE
  rw [if_neg (by simp [h]), if_neg (by simp [h2]), if_neg]
  intro h4
  obtain ⟨p, hp, h5⟩ := List.any_eq_true.1 h4
  simp at h5
  exact h3 p (List.mem_range.1 hp) h5
theorem claimS_no (h : claimE s ks ≠ 0) : claimS s ks = s := by unfold claimS; rw [if_neg h]
theorem claimS_yes (h : claimE s ks = 0) : claimS s ks = { s with L := insAll s.L ks } := by unfold claimS; rw [if_pos h]
/-- the first of the keys may be claimed too -/
theorem claimE_take (h : claimE s ks = 0) (k : Nat) : claimE s (ks.take k) = 0 := by
  unfold claimE at h
  split at h; · cases h
  rename_i h1
  split at h; · cases h
  rename_i h2
  split at h; · cases h
  rename_i h3
  refine claimE_ok ?_ ?_ fun p hp h4 => h3 ?_
  · rw [List.any_eq_false]
    intro x hx
    simp at h1
    simp [h1 x (List.mem_of_mem_take hx)]
  · refine rise_yes fun j hj => ?_
    have hl : (ks.take k).length ≤ ks.length := by simp; omega
    have := rise_lt (ks := ks) (by simpa using h2) j (j + 1) (by omega) (by omega)
    simpa [List.getD_eq_getElem?_getD, show j + 1 < ks.length by omega, show j < ks.length by omega] using this
  · have hle : moreK s (ks.take k) p ≤ moreK s ks p := (List.take_sublist k ks).countP_le
    exact List.any_eq_true.2 ⟨p, List.mem_range.2 hp, by simp; omega⟩
theorem pre_ok (h : s.Ok) (he : claimE s ks = 0) (k : Nat) : St.Ok { s with L := insAll s.L (ks.take k) } := by
  have := claim_ok h (ks.take k)
  rwa [claimS_yes (claimE_take he k)] at this
theorem insAll_snoc {L : List Kv} (l : List ByteArray) (k : ByteArray) : insAll L (l ++ [k]) = insK k (insAll L l) := by unfold insAll; rw [List.foldl_append]; rfl
theorem take_snoc {α : Type} {l : List α} {k : Nat} (h : k < l.length) : l.take (k + 1) = l.take k ++ [l[k]] := by
  rw [List.take_add_one, List.getElem?_eq_getElem h]; rfl
end
end Go.Proofs.YtphglnenafdkaaaGreatDoor

namespace Go.Proofs.YtphglnenafdkaaaGreatDoor
open Go.RowKit
set_option linter.unusedVariables false
set_option linter.unusedSimpArgs false

theorem asc_mem {L : List Kv} (h : Asc L) {x : Kv} : x ∈ L ↔ hasK x.1 L = true ∧ valK x.1 L = x.2 := by
  constructor
  · intro hx
    exact ⟨hasK_mem.2 ⟨x, hx, rfl⟩, valK_mem h hx⟩
  · rintro ⟨h1, h2⟩
    obtain ⟨y, hy, e⟩ := hasK_mem.1 h1
    have h3 := valK_mem h hy
    rw [e] at h3
    have : x = y := Prod.ext e.symm (by rw [← h2, h3])
    rw [this]; exact hy
theorem asc_nd {L : List Kv} (h : Asc L) : L.Nodup := by
  have h1 := asc_nodup h
  rw [List.nodup_iff_pairwise_ne, List.pairwise_map] at h1
  rw [List.nodup_iff_pairwise_ne]
  exact h1.imp fun h e => h (by rw [e])
theorem asc_ext {L M : List Kv} (hL : Asc L) (hM : Asc M) (h1 : ∀ k, hasK k L = hasK k M) (h2 : ∀ k, valK k L = valK k M) : L = M :=
  asc_eq hL hM ((List.perm_ext_iff_of_nodup (asc_nd hL) (asc_nd hM)).2 fun x => by rw [asc_mem hL, asc_mem hM, h1, h2])
/-- claims in whatever order -/
theorem insAll_order {L : List Kv} (h : Asc L) {ks js : List ByteArray} (hk : ∀ k, k ∈ ks ↔ k ∈ js) : insAll L ks = insAll L js := by
  refine asc_ext (insAll_asc h) (insAll_asc h) (fun k => ?_) fun k => by rw [insAll_val h, insAll_val h]
  rw [insAll_has, insAll_has]
  congr 1
  rw [Bool.eq_iff_iff, List.any_eq_true, List.any_eq_true]
  constructor <;> rintro ⟨j, hj, e⟩
  · exact ⟨j, (hk j).1 hj, e⟩
  · exact ⟨j, (hk j).2 hj, e⟩
/-- the i-th of a list that begins at t, round about -/
theorem rot_mem {α : Type} (l : List α) (t : Nat) : ∀ k, k ∈ (l.drop t ++ l.take t) ↔ k ∈ l := fun k => by
  rw [List.mem_append]
  conv => rhs; rw [← List.take_append_drop t l, List.mem_append]
  exact Or.comm
theorem nodup_le {α : Type} [DecidableEq α] : ∀ {l m : List α}, l.Nodup → (∀ x ∈ l, x ∈ m) → l.length ≤ m.length
  | [], _, _, _ => Nat.zero_le _
  | a :: l, m, hn, hs => by
    have h1 := List.nodup_cons.1 hn
    have ha := hs a (List.mem_cons_self ..)
    have h2 := nodup_le (l := l) (m := m.erase a) h1.2 fun x hx => (List.mem_erase_of_ne (show x ≠ a from fun e => h1.1 (by rw [← e]; exact hx))).2 (hs x (List.mem_cons_of_mem _ hx))
    rw [List.length_erase_of_mem ha] at h2
    have := List.length_pos_of_mem ha
    rw [List.length_cons]
    omega
theorem cnt_mono {n p : Nat} {L M : List Kv} (hL : Asc L) (h : ∀ k, hasK k L = true → hasK k M = true) : cntP n p L ≤ cntP n p M := by
  have e : ∀ X : List Kv, cntP n p X = ((X.filter fun x => decide (partK n x.1 = p)).map (·.1)).length := fun X => by
    unfold cntP
    rw [List.length_map, List.countP_eq_length_filter]
  rw [e, e]
  refine nodup_le ((List.filter_sublist.map _).nodup (asc_nodup hL)) fun k hk => ?_
  obtain ⟨x, hx, rfl⟩ := List.mem_map.1 hk
  obtain ⟨h1, h2⟩ := List.mem_filter.1 hx
  obtain ⟨y, hy, e⟩ := hasK_mem.1 (h x.1 (hasK_mem.2 ⟨x, h1, rfl⟩))
  exact List.mem_map.2 ⟨y, List.mem_filter.2 ⟨hy, by rw [e]; exact h2⟩, e⟩
/-- each of claims that all fit fits by itself, some of them having come -/
theorem claim_one {s : St} (hok : s.Ok) {l js : List ByteArray} {k : ByteArray} (h : claimE s l = 0) (hj : ∀ j ∈ js, j ∈ l) (hk : k ∈ l) : claimE { s with L := insAll s.L js } [k] = 0 := by
  have hS := claim_ok hok l
  have hSL : (claimS s l).L = insAll s.L l := by unfold claimS; rw [if_pos h]
  have hSp : (claimS s l).parts = s.parts ∧ (claimS s l).room = s.room := by unfold claimS; rw [if_pos h]; exact ⟨rfl, rfl⟩
  have hval : (l.any fun k => !validK k) = false := by
    cases e : l.any (fun k => !validK k) with
    | false => rfl
    | true => rw [claimE_key e] at h; cases h
  refine claimE_ok ?_ rfl fun p hp hc => ?_
  · rw [List.any_eq_false] at hval
    simpa using hval k hk
  · obtain ⟨h1, h2⟩ := hc
    have ha := insAll_asc (ks := js) hok.asc
    have hm : cntP s.parts p (insK k (insAll s.L js)) ≤ cntP s.parts p (insAll s.L l) := cnt_mono (ins_asc ha) fun y hy => by
      rw [insAll_has]
      rw [hasK_ins, insAll_has] at hy
      simp only [Bool.or_eq_true, decide_eq_true_eq, List.any_eq_true] at hy ⊢
      rcases hy with rfl | ⟨j, hj1, rfl⟩ | hy
      · exact .inl ⟨k, hk, rfl⟩
      · exact .inl ⟨j, hj j hj1, rfl⟩
      · exact .inr hy
    have hr := hS.cnt p (by rw [hSp.1]; exact hp)
    rw [hSL, hSp.1, hSp.2] at hr
    rw [cnt_ins ha] at hm
    have e : moreK { s with L := insAll s.L js } [k] p = if hasK k (insAll s.L js) = false ∧ partK s.parts k = p then 1 else 0 := by
      unfold moreK
      rw [List.countP_cons, List.countP_nil]
      simp only
      cases hasK k (insAll s.L js) <;> by_cases h9 : partK s.parts k = p <;> simp [h9]
    simp only at h2 e
    rw [e] at h2
    omega
/-- the rotation's i-th -/
theorem rot_get {α : Type} (l : List α) {t i : Nat} (ht : t < l.length) (hi : i < l.length) : (l.drop t ++ l.take t)[i]? = l[(i + t) % l.length]? := by
  by_cases h : i < l.length - t
  · rw [List.getElem?_append_left (by rw [List.length_drop]; exact h), List.getElem?_drop, Nat.mod_eq_of_lt (by omega), Nat.add_comm]
  · rw [List.getElem?_append_right (by rw [List.length_drop]; omega), List.length_drop, List.getElem?_take_of_lt (by omega)]
    have e : (i + t) % l.length = i + t - l.length := by
      rw [Nat.mod_eq_sub_mod (by omega), Nat.mod_eq_of_lt (by omega)]
    rw [e]
    congr 1
    omega
end Go.Proofs.YtphglnenafdkaaaGreatDoor

namespace Go.Proofs.YtphglnenafdkaaaGreatDoor
open Go.RowKit
set_option linter.unusedVariables false
set_option linter.unusedSimpArgs false

section
variable {S : Nat → Prop} {w w' : World} {g : Nat} {s : St}
theorem claimed_b (k : ByteArray) (h : PAt S w g s) (hk : k.size ≤ 9223372036854775806) : Calls Tryz.prog 24 #[.pointer (some ⟨g, 0, none⟩), .string k] w fun e w' => e = .returned (.bool (hasK k s.L)) ∧ Below w.heap.size w w' :=
  (claimed_any k h hk).mono fun e w' ⟨h1, q, h2⟩ => ⟨h1, by rw [h2]; exact below_drewN (Below.refl _ _) q⟩
set_option maxRecDepth 100000 in
set_option maxHeartbeats 4000000 in
theorem claim_any {Sk : Nat → Prop} {A : Option Addr} {c : Nat} (ks : List ByteArray) (h : PAt S w g s) (hr : Rd Sk w 1 A ks.length (strs ks)) (hd : ∀ b, Sk b → ¬ S b) (hs : ∀ k ∈ ks, k.size ≤ 9223372036854775806) (hn : ks.length ≤ 1000000) :
    Calls Tryz.prog 10 #[.pointer (some ⟨g, 0, none⟩), .slice A ks.length c] w fun e w' => e = .returned (.int .i64 (claimE s ks)) ∧ PAt S w' g (claimS s ks) ∧ Upd S w w' := by
  obtain ⟨cb, cc, mb, vb, h⟩ := h
  have hcon := hid (contains_any (c := c) ks hr hs hn)
  have HH := hid h
  have HR := hid hr
  have HS := hid hs
  have hN : (ks.length : Int) ≤ 1000000 := by omega
  clear h hr hs hn
  go_enter Tryz.func10, Tryz.ntmps10
  go_wp2_with fail
  refine hcon.out.mono ?_
  rintro e w2 ⟨rfl, rfl⟩
  clear hcon
  cases hv0 : (ks.any fun k => !validK k) with
  | true =>
    have hfin : Hid (claimE s ks = 30 ∧ PAt S w2 g (claimS s ks)) := hid (by
      have he := claimE_key (s := s) hv0
      exact ⟨he, by rw [claimS_no (by rw [he]; decide)]; exact ⟨_, _, _, _, HH.out⟩⟩)
    clear hv0
    go_wp2_with fail
    go_ret
    exact ⟨by rw [hfin.out.1]; rfl, hfin.out.2, Upd.refl _ _⟩
  | false =>
  have hv := hid hv0
  clear hv0
  go_wp2_with fail
  go_loopw [5] (fun v wr => ∃ (k : Nat), v = .int .i64 k ∧ 1 ≤ k ∧ (k ≤ ks.length ∨ k = 1) ∧ Below w2.heap.size w2 wr ∧ ∀ j (hj : j + 1 < ks.length), j + 1 < k → ltB ks[j] ks[j + 1] = true) (fun v _ => ks.length - (intOf v).toNat)
  case atStart => exact ⟨1, rfl, Nat.le_refl _, .inr rfl, Below.refl _ _, fun j hj h => by omega⟩
  case round =>
    obtain ⟨k, rfl, hk1, hkn, hB0, ha0⟩ := hrel
    have hB := hid hB0
    have ha := hid ha0
    clear hB0 ha0
    by_cases hlt : k < ks.length
    · obtain ⟨j, hjk⟩ : ∃ j, j + 1 = k := ⟨k - 1, by omega⟩
      have hj : j < ks.length := by omega
      have hR2 := HR.out.below_all hB.out
      obtain ⟨b, o, rfl, _, _, hc1⟩ := rd_strs hR2 hj
      obtain ⟨b', o', e, _, _, hc2⟩ := rd_strs hR2 hlt
      injection e with e; injection e with e1 e2; subst e1; subst e2
      have i0 : (j : Int) < (ks.length : Int) := by omega
      have i1 : (k : Int) < (ks.length : Int) := by omega
      have x1 : IntKind.i64.wrap ((k : Int) - 1) = (j : Int) := by rw [IntKind.wrap_i64]; omega
      have hjk := hid hjk
      cases hl0 : ltB ks[j] ks[k] with
      | true =>
        have hl : Op.bytesLess (ks[j]).toList (ks[k]).toList = true := hl0
        have hl1 := hid hl0
        clear hl0 hR2 hk1 hkn
        go_wp2_with fail
        go_quiet (fail)
        go_wp2_with fail
        go_roundw
        case rel => exact ⟨k + 1, by go_num, by omega, .inl hlt, below_drewN hB.out _, fun i hi hik => by
          have e := hjk.out
          by_cases e2 : i = j
          · subst e2
            have := hl1.out
            simp only [← e] at this
            exact this
          · exact ha.out i hi (by omega)⟩
        case measure => simp [intOf]; omega
      | false =>
        have hl : Op.bytesLess (ks[j]).toList (ks[k]).toList = false := hl0
        have hfin : Hid (claimE s ks = 40 ∧ ∀ w', Below w2.heap.size w2 w' → PAt S w' g (claimS s ks)) := hid (by
          have e := hjk.out
          have hr : riseB ks = false := rise_no (k := j) (by omega) (by subst e; exact hl0)
          have he := claimE_rise (s := s) hv.out hr
          exact ⟨he, fun w' hb => by rw [claimS_no (by rw [he]; decide)]; exact ⟨_, _, _, _, HH.out.below hb⟩⟩)
        clear hl0 hR2 hk1 hkn
        go_wp2_with fail
        go_quiet (fail)
        go_wp2_with fail
        go_ret
        exact ⟨by rw [hfin.out.1]; rfl, hfin.out.2 _ (below_drewN hB.out _), .of_below (below_drewN hB.out _) fun k hk h => by omega⟩
    · have hrise := hid (rise_yes fun j hj => ha.out j hj (by omega))
      clear ha hk1 hkn
      have c1 : wr.cell? ⟨g, 1, none⟩ = some (.slice (some ⟨cb, 0, none⟩) s.parts cc) := (HH.out.below hB.out).cells.2.1
      have hmk := make_parts s.parts HH.out.ok.parts.2 wr
      go_upto_region 11 with fail
      have hm0 := IArr.new wr s.parts
      have hB2 : Below w2.heap.size w2 (wr.alloc (.cells (madeCells #[.int .i64 0] s.parts) 3)) := hB.out.alloc hB.out.size _
      have hml : w2.heap.size ≤ wr.heap.size := hB.out.size
      generalize wr.alloc (.cells (madeCells #[.int .i64 0] s.parts) 3) = w3 at *
      generalize wr.heap.size = m at *
      have HM := hid hm0
      have HB3 := hid hB2
      have HL := hid hml
      clear hm0 hB2 hml hmk c1 hB hlt
      go_wp2_with fail
      go_loopw [41] (fun v wr => ∃ (k : Nat), v = .int .i64 k ∧ k ≤ ks.length ∧ IArr wr m s.parts (fun p => (ks.take k).countP fun x => !hasK x s.L && decide (partK s.parts x = p)) ∧ Below w2.heap.size w2 wr) (fun v _ => ks.length - (intOf v).toNat)
      case atStart => exact ⟨0, rfl, Nat.zero_le _, HM.out.congr fun j hj => by simp, HB3.out⟩
      case round =>
        clear HM HB3
        obtain ⟨k, rfl, hk, hm0, hB0⟩ := hrel
        have HM := hid hm0
        have HB := hid hB0
        clear hm0 hB0
        by_cases hlt : k < ks.length
        · have i1 : (k : Int) < (ks.length : Int) := by omega
          obtain ⟨b, o, rfl, _, _, hc1⟩ := rd_strs (HR.out.below_all HB.out) hlt
          have hcl := hid (claimed_b ks[k] ⟨_, _, _, _, HH.out.below HB.out⟩ (HS.out _ (List.getElem_mem hlt)))
          have hpa := hid fun w => part_any ks[k] s.parts w (HS.out _ (List.getElem_mem hlt)) HH.out.ok.parts.1 HH.out.ok.parts.2
          have htk := hid (take_snoc hlt)
          obtain ⟨x, hx⟩ : ∃ x, x = ks[k] := ⟨_, rfl⟩
          rw [← hx] at hc1 hcl hpa htk
          clear hx
          go_wp2_with fail
          refine hcl.out.mono ?_
          rintro e w5 ⟨rfl, hb50⟩
          have HM5 := hid (HM.out.below hb50)
          have HB5 := hid (HB.out.trans (hb50.mono HB.out.size))
          clear hb50 HM HB hcl hc1
          cases hh0 : hasK x s.L with
          | true =>
            have hh := hid hh0
            clear hh0
            go_wp2_with fail
            go_roundw
            case rel => exact ⟨k + 1, by go_num, hlt, HM5.out.congr fun j hj => by rw [htk.out, List.countP_append]; simp [hh.out], HB5.out⟩
            case measure => simp [intOf]; omega
          | false =>
            have hpl := partK_lt x (show 0 < s.parts by have := HH.out.ok.parts; omega)
            have hh := hid hh0
            have c1 : w5.cell? ⟨g, 1, none⟩ = some (.slice (some ⟨cb, 0, none⟩) s.parts cc) := (HH.out.below HB5.out).cells.2.1
            have cf := HM5.out.frozen
            have cp := HM5.out.cell hpl
            have hml := HM5.out.lt
            have hpi : ((partK s.parts x : Nat) : Int) < (s.parts : Int) := by omega
            have hle : (((ks.take k).countP fun y => !hasK y s.L && decide (partK s.parts y = partK s.parts x) : Nat) : Int) ≤ 1000000 := by
              have h1 := List.countP_le_length (p := fun y => !hasK y s.L && decide (partK s.parts y = partK s.parts x)) (l := ks.take k)
              have h2 : (ks.take k).length ≤ ks.length := by simp; omega
              omega
            have hset := hid (fun n => HM5.out.set hpl n)
            obtain ⟨p, hp⟩ : ∃ p, p = partK s.parts x := ⟨_, rfl⟩
            rw [← hp] at cp hpi hle hset hpl
            simp only [← hp] at hpa
            obtain ⟨n, hn⟩ : ∃ n, n = (ks.take k).countP fun y => !hasK y s.L && decide (partK s.parts y = p) := ⟨_, rfl⟩
            rw [← hn] at cp hle
            have x1 : IntKind.i64.wrap ((n : Int) + 1) = (n : Int) + 1 := by rw [IntKind.wrap_i64]; omega
            have hnn := hid hn
            have hpp := hid hp
            have hpl := hid hpl
            clear hn hp hh0 hle hpl
            go_wp2_with fail
            refine (hpa.out _).mono ?_
            rintro e w6 ⟨rfl, rfl⟩
            go_wp2_with fail
            go_roundw
            case rel =>
              refine ⟨k + 1, by go_num, hlt, ?_, HB5.out.setCell (p := ⟨m, p, none⟩) HL.out _⟩
              have := hset.out (n + 1)
              rw [show ((n + 1 : Nat) : Int) = (n : Int) + 1 by omega] at this
              refine this.congr fun j hj => ?_
              rw [htk.out, List.countP_append]
              by_cases e : j = p
              · subst e; rw [if_pos rfl, hnn.out]; simp [hh.out, hpp.out]
              · have : ¬ partK s.parts x = j := fun h => e (by rw [hpp.out, h])
                rw [if_neg e]; simp [this]
            case measure => simp [intOf]; omega
        · obtain rfl : k = ks.length := by omega
          have HM3 : Hid (IArr wr m s.parts (moreK s ks)) := hid (HM.out.congr fun p hp => by simp only [List.take_length]; rfl)
          clear HM
          go_wp2_with fail
          go_loopw [64] (fun v wr => ∃ (k : Nat), v = .int .i64 k ∧ k ≤ s.parts ∧ IArr wr m s.parts (moreK s ks) ∧ Below w2.heap.size w2 wr ∧ ∀ p, p < k → ¬ (0 < moreK s ks p ∧ s.room < cntP s.parts p s.L + moreK s ks p)) (fun v _ => s.parts - (intOf v).toNat)
          case atStart => exact ⟨0, rfl, Nat.zero_le _, HM3.out, HB.out, fun p hp => by omega⟩
          case round =>
            clear HM3 HB hlt hk
            obtain ⟨k, rfl, hk, hm0, hB0, hf0⟩ := hrel
            have HM := hid hm0
            have HB := hid hB0
            have HF := hid hf0
            clear hm0 hB0 hf0
            have hparts : (s.parts : Int) ≤ 64 := by have := HH.out.ok.parts.2; omega
            by_cases hlt : k < s.parts
            · have i1 : (k : Int) < (s.parts : Int) := by omega
              have hP := HH.out.below HB.out
              obtain ⟨c0, c1, _⟩ := hP.cells
              have r1 := hP.rowc k hlt
              have cp := HM.out.cell hlt
              have hsz : ∀ q ty, (Builtin.len_ #[78] ty #[.map (some (mb k))]).run Tryz.prog (wr.drewN q) = .ok (.int .i64 (cntP s.parts k s.L)) (wr.drewN q) := fun q ty => (hP.drewN q).size k hlt ty
              have hsz0 := hsz 0
              have hcn := HH.out.ok.cnt k hlt
              have hrm := HH.out.ok.room
              have hmle : moreK s ks k ≤ ks.length := List.countP_le_length
              have e1 := hid (show moreK s ks k = moreK s ks k from rfl)
              obtain ⟨n, hn⟩ : ∃ n, n = moreK s ks k := ⟨_, rfl⟩
              obtain ⟨d, hd'⟩ : ∃ d, d = cntP s.parts k s.L := ⟨_, rfl⟩
              rw [← hn] at cp hmle
              rw [← hd'] at hsz0 hcn
              simp only [← hd'] at hsz
              have x1 : IntKind.i64.wrap ((d : Int) + (n : Int)) = (d : Int) + (n : Int) := by rw [IntKind.wrap_i64]; omega
              have hnn := hid hn
              have hdd := hid hd'
              have hmm := hid hmle
              by_cases hn0 : 0 < n
              · have t1 : decide ((0 : Int) < (n : Int)) = true := decide_eq_true (by omega)
                have t1n : decide (0 < n) = true := decide_eq_true hn0
                by_cases hfl : s.room < d + n
                · have t2 : decide ((s.room : Int) < (d : Int) + (n : Int)) = true := decide_eq_true (by omega)
                  have t2n : decide (s.room < d + n) = true := decide_eq_true hfl
                  have hfin : Hid (claimE s ks = 5 ∧ ∀ w', Below w2.heap.size w2 w' → PAt S w' g (claimS s ks)) := hid (by
                    have he := claimE_full (s := s) hv.out hrise.out hlt (by rw [← hn]; exact hn0) (by rw [← hn, ← hd']; exact hfl)
                    exact ⟨he, fun w' hb => by rw [claimS_no (by rw [he]; decide)]; exact ⟨_, _, _, _, HH.out.below hb⟩⟩)
                  clear hP hn hd' hcn hrm hmle hn0 hfl
                  go_wp2_with fail
                  go_quiet (fail)
                  go_wp2_with fail
                  go_ret
                  exact ⟨by rw [hfin.out.1]; rfl, hfin.out.2 _ (below_drewN HB.out _), .of_below (below_drewN HB.out _) fun k hk h => by omega⟩
                · have t2 : decide ((s.room : Int) < (d : Int) + (n : Int)) = false := decide_eq_false (by omega)
                  have t2n : decide (s.room < d + n) = false := decide_eq_false hfl
                  have hno := hid hfl
                  clear hP hn hd' hcn hrm hmle hn0 hfl
                  go_wp2_with fail
                  go_quiet (fail)
                  go_wp2_with fail
                  go_roundw
                  case rel =>
                    refine ⟨k + 1, by go_num, hlt, HM.out.below (below_drewN (Below.refl _ _) _), below_drewN HB.out _, fun p hp => ?_⟩
                    by_cases e : p = k
                    · subst e; rw [← hnn.out, ← hdd.out]; exact fun h => hno.out h.2
                    · exact HF.out p (by omega)
                  case measure => simp [intOf]; omega
              · have t1 : decide ((0 : Int) < (n : Int)) = false := decide_eq_false (by omega)
                have t1n : decide (0 < n) = false := decide_eq_false hn0
                have hno := hid hn0
                clear hP hn hd' hcn hrm hmle hn0 hsz hsz0
                go_wp2_with fail
                go_quiet (fail)
                go_wp2_with fail
                go_roundw
                case rel =>
                  refine ⟨k + 1, by go_num, hlt, HM.out.below (below_drewN (Below.refl _ _) _), below_drewN HB.out _, fun p hp => ?_⟩
                  by_cases e : p = k
                  · subst e; rw [← hnn.out]; exact fun h => hno.out h.1
                  · exact HF.out p (by omega)
                case measure => simp [intOf]; omega
            · obtain rfl : k = s.parts := by omega
              have he0 : claimE s ks = 0 := claimE_ok hv.out hrise.out fun p hp => HF.out p (by omega)
              have he := hid he0
              have HP := hid (HH.out.below HB.out)
              have HR2 := hid (HR.out.below_all HB.out)
              have HU : Hid (Upd S w2 wr) := hid (.of_below HB.out fun k hk h => by omega)
              clear he0 HF HM HH HR HB hlt hk hparts
              go_wp2_with fail
              go_loopw [91] (fun v wr => ∃ (k : Nat), v = .int .i64 k ∧ k ≤ ks.length ∧ PIn S wr g { s with L := insAll s.L (ks.take k) } cb cc mb vb ∧ Rd Sk wr 1 A ks.length (strs ks) ∧ Upd S w2 wr) (fun v _ => ks.length - (intOf v).toNat)
              case atStart => exact ⟨0, rfl, Nat.zero_le _, HP.out, HR2.out, HU.out⟩
              case round =>
                have HOk := hid (pre_ok HP.out.ok he.out)
                clear HP HR2 HU
                obtain ⟨k, rfl, hk, hp0, hr0, hu0⟩ := hrel
                have HP := hid hp0
                have HR := hid hr0
                have HU := hid hu0
                clear hp0 hr0 hu0
                by_cases hlt : k < ks.length
                · have i1 : (k : Int) < (ks.length : Int) := by omega
                  obtain ⟨b, o, rfl, _, _, hc1⟩ := rd_strs HR.out hlt
                  have hof := hid (of_any ks[k] HP.out (HS.out _ (List.getElem_mem hlt)))
                  have htk := hid (take_snoc hlt)
                  obtain ⟨x, hx⟩ : ∃ x, x = ks[k] := ⟨_, rfl⟩
                  rw [← hx] at hc1 hof htk
                  clear hx
                  go_wp2_with fail
                  refine hof.out.mono ?_
                  rintro e w5 ⟨rfl, q, hq⟩
                  have HP5 : Hid (PIn S w5 g { s with L := insAll s.L (ks.take k) } cb cc mb vb) := hid (by rw [hq]; exact HP.out.drewN q)
                  have HR5 : Hid (Rd Sk w5 1 (some ⟨b, o, none⟩) ks.length (strs ks)) := hid (by rw [hq]; exact HR.out.drewN q)
                  have HU5 : Hid (Upd S w2 w5) := hid (by rw [hq]; exact HU.out.drewN q)
                  clear HP HR HU hof hc1 hq
                  have hpl := partK_lt x (show 0 < s.parts by have := HP5.out.ok.parts.1; exact this)
                  obtain ⟨w6, hmu0, hm6, hg6, _⟩ := (HP5.out.cl (partK s.parts x) hpl).update Tryz.underlying78 x (.int .i64 1)
                  have hmu : (Instr.mapUpdate 78 (.map (some (mb (partK s.parts x)))) (.string x) (.int .i64 1)).run Tryz.prog w5 = .ok () w6 := hmu0
                  have hok2 := HOk.out (k + 1)
                  rw [htk.out, insAll_snoc] at hok2
                  obtain ⟨hP6, hU6⟩ := HP5.out.ins (k := x) rfl hg6 hm6 hok2
                  have HP6 := hid hP6
                  have HU6 := hid (HU5.out.trans hU6 fun _ _ h => h)
                  have HR6 := hid (HR5.out.upd hU6 hd)
                  clear hP6 hU6 hg6 hm6 hok2 hmu0 hpl HP5 HU5 HR5
                  go_wp2_with fail
                  go_roundw
                  case rel => exact ⟨k + 1, by go_num, hlt, by rw [htk.out, insAll_snoc]; exact HP6.out, HR6.out, HU6.out⟩
                  case measure => simp [intOf]; omega
                · obtain rfl : k = ks.length := by omega
                  have hfin : Hid (claimE s ks = 0 ∧ PAt S wr g (claimS s ks)) := hid ⟨he.out, by
                    rw [claimS_yes he.out]
                    have := HP.out
                    rw [List.take_length] at this
                    exact ⟨_, _, _, _, this⟩⟩
                  clear HP
                  go_wp2_with fail
                  go_ret
                  exact ⟨by rw [hfin.out.1]; rfl, hfin.out.2, HU.out⟩
end
end Go.Proofs.YtphglnenafdkaaaGreatDoor

namespace Go.Proofs.YtphglnenafdkaaaGreatDoor
open Go.RowKit
set_option linter.unusedVariables false
set_option linter.unusedSimpArgs false

theorem plain_any (c : Nat) (w : World) : Calls Tryz.prog 101 #[.int .u8 c] w fun e w' => e = .returned (.bool (decide (32 ≤ c) && decide (c ≤ 126))) ∧ w' = w := by
  by_cases h : 32 ≤ c
  · have t1 : decide ((32 : Int) ≤ (c : Int)) = true := decide_eq_true (by omega)
    have hc : Hid ((decide (32 ≤ c) && decide (c ≤ 126)) = decide ((c : Int) ≤ 126)) := hid (by rw [decide_eq_true h, Bool.true_and]; exact decide_eq_decide.2 (by omega))
    clear h
    go_enter Tryz.func101, Tryz.ntmps101
    go_wp2_with fail
    go_ret
    exact ⟨by rw [hc.out]; first | rfl | simp, rfl⟩
  · have t1 : decide ((32 : Int) ≤ (c : Int)) = false := decide_eq_false (by omega)
    have hc : Hid ((decide (32 ≤ c) && decide (c ≤ 126)) = false) := hid (by rw [decide_eq_false h, Bool.false_and])
    clear h
    go_enter Tryz.func101, Tryz.ntmps101
    go_wp2_with fail
    go_ret
    exact ⟨by rw [hc.out]; rfl, rfl⟩
theorem rmay_any (c : Nat) (w : World) : Calls Tryz.prog 72 #[.int .u8 c] w fun e w' => e = .returned (.bool (decide (32 ≤ c) && decide (c ≤ 126))) ∧ w' = w := by
  by_cases h : 32 ≤ c
  · have t1 : decide ((32 : Int) ≤ (c : Int)) = true := decide_eq_true (by omega)
    have hc : Hid ((decide (32 ≤ c) && decide (c ≤ 126)) = decide ((c : Int) ≤ 126)) := hid (by rw [decide_eq_true h, Bool.true_and]; exact decide_eq_decide.2 (by omega))
    clear h
    go_enter Tryz.func72, Tryz.ntmps72
    go_wp2_with fail
    go_ret
    exact ⟨by rw [hc.out]; first | rfl | simp, rfl⟩
  · have t1 : decide ((32 : Int) ≤ (c : Int)) = false := decide_eq_false (by omega)
    have hc : Hid ((decide (32 ≤ c) && decide (c ≤ 126)) = false) := hid (by rw [decide_eq_false h, Bool.false_and])
    clear h
    go_enter Tryz.func72, Tryz.ntmps72
    go_wp2_with fail
    go_ret
    exact ⟨by rw [hc.out]; rfl, rfl⟩

theorem okT_at {s : ByteArray} {k : Nat} (h : k < s.size) (hb : okB (s.data[k]'h) = false) : okT s = false := by
  unfold okT
  rw [List.all_eq_false]
  exact ⟨s.data[k]'h, by rw [Array.mem_toList_iff]; exact Array.getElem_mem h, by rw [hb]; decide⟩
theorem okT_all {s : ByteArray} (h : ∀ k (hk : k < s.size), okB (s.data[k]'hk) = true) : okT s = true := by
  unfold okT
  rw [List.all_eq_true]
  intro c hc
  rw [Array.mem_toList_iff] at hc
  obtain ⟨k, hk, rfl⟩ := Array.mem_iff_getElem.1 hc
  exact h k hk
theorem mayB {F : FuncId} {s : ByteArray} {k : Nat} {w : World} {b : Bool} (hk : k < s.size) (hc : okB (s.data[k]'hk) = b) (h : Calls Tryz.prog F #[.int .u8 ((s[k]'hk).toNat : Nat)] w fun e w' => e = .returned (.bool (decide (32 ≤ (s[k]'hk).toNat) && decide ((s[k]'hk).toNat ≤ 126))) ∧ w' = w) :
    Calls Tryz.prog F #[.int .u8 ((s[k]'hk).toNat : Nat)] w fun e w' => e = .returned (.bool b) ∧ w' = w := by
  rwa [show (decide (32 ≤ (s[k]'hk).toNat) && decide ((s[k]'hk).toNat ≤ 126)) = b from hc] at h
set_option maxRecDepth 100000 in
theorem printable_any (s : ByteArray) (w : World) (hs : s.size ≤ 9223372036854775806) : Calls Tryz.prog 86 #[.string s] w fun e w' => e = .returned (.bool (okT s)) ∧ w' = w := by
  go_enter Tryz.func86, Tryz.ntmps86
  go_wp2_with fail
  go_loopw [6] (fun v wr => ∃ k : Nat, v = .int .i64 k ∧ k ≤ s.size ∧ wr = w ∧ ∀ j (hj : j < s.size), j < k → okB (s.data[j]'hj) = true) (fun v _ => s.size - (intOf v).toNat)
  case atStart => exact ⟨0, rfl, Nat.zero_le _, rfl, fun j _ h => by omega⟩
  case round =>
    obtain ⟨k, rfl, hk, rfl, ha0⟩ := hrel
    have ha := hid ha0
    clear ha0
    by_cases hlt : k < s.size
    · have i1 : (k : Int) < (s.size : Int) := by omega
      have hs9 : (s.size : Int) ≤ 9223372036854775806 := by omega
      cases hc : okB (s.data[k]'hlt) with
      | true =>
        have hpl := hid (mayB hlt hc (plain_any _ wr))
        have hc := hid hc
        go_wp2_with fail
        refine hpl.out.mono ?_
        rintro e w2 ⟨rfl, rfl⟩
        go_wp2_with fail
        go_roundw
        case rel => exact ⟨k + 1, by go_num, hlt, by first | rfl | trivial, fun j hj hjk => by
          by_cases e : j = k
          · subst e; exact hc.out
          · exact ha.out j hj (by omega)⟩
        case measure => simp [intOf]; omega
      | false =>
        have hpl := hid (mayB hlt hc (plain_any _ wr))
        have hfin : Hid (okT s = false) := hid (okT_at hlt hc)
        clear hc
        go_wp2_with fail
        refine hpl.out.mono ?_
        rintro e w2 ⟨rfl, rfl⟩
        go_wp2_with fail
        go_ret
        exact ⟨by rw [hfin.out]; rfl, by first | rfl | trivial⟩
    · obtain rfl : k = s.size := by omega
      have hfin : Hid (okT s = true) := hid (okT_all fun j hj => ha.out j hj hj)
      go_wp2_with fail
      go_ret
      exact ⟨by rw [hfin.out]; rfl, by first | rfl | trivial⟩
theorem run_eqVal (a b : Vl) (w : World) :
    (Op.equalIn 10000 38 (.agg #[.int .i64 a.k, .int .i64 a.n, .string a.s]) (.agg #[.int .i64 b.k, .int .i64 b.n, .string b.s])).run Tryz.prog w = .ok (decide (a = b)) w := by
  have ht : Tryz.prog.underlying 38 = some (.struct (Tryz.prog.fieldsOf 38)) := by kernel_rfl
  have hp : Tryz.prog.stoodInHeld 38 = false := by kernel_rfl
  rw [run_equalIn_agg w 9999 _ _ _ ht hp]
  have e : decide (a = b) = (a.k == b.k && (a.n == b.n && (a.s.toList == b.s.toList))) := by
    rw [bytes_dec, Bool.eq_iff_iff]
    simp only [decide_eq_true_eq, Bool.and_eq_true, beq_iff_eq]
    exact ⟨fun e => by subst e; simp, fun ⟨h1, h2, h3⟩ => by cases a; cases b; simp_all⟩
  rw [e]
  clear ht hp e
  simp only [Program.fieldsOf, Tryz.underlying38]
  go_simp
  by_cases h1 : a.k = b.k <;> by_cases h2 : a.n = b.n <;> by_cases h3 : a.s.toList = b.s.toList <;> simp [h1, h2, h3]
theorem guardVal : Tryz.prog.eqGuardType Tryz.prog.depth 38 = false := by kernel_rfl
theorem eql_zero (k n : Int) (s : ByteArray) (w : World) : (binOp .eql 38 (.agg #[.int .i64 k, .int .i64 n, .string s]) (.agg #[.int .i64 0, .int .i64 0, .string ⟨#[]⟩])).run Tryz.prog w = .ok (.bool (decide ((⟨k, n, s⟩ : Vl) = vl0))) w := by
  have h := run_eqVal ⟨k, n, s⟩ vl0 w
  have e : vl0 = ⟨0, 0, ⟨#[]⟩⟩ := rfl
  rw [e] at h ⊢
  simp only at h
  rw [run_eql_struct, h]
  simp only [Result.andThen]
theorem ok_none (n : Int) (s : ByteArray) : Vl.ok ⟨0, n, s⟩ = decide ((⟨0, n, s⟩ : Vl) = vl0) := by
  unfold Vl.ok vl0
  rw [if_pos rfl, Bool.eq_iff_iff]
  simp
theorem str_nil {s : ByteArray} (h : s ≠ ⟨#[]⟩) : (s.toList == (⟨#[]⟩ : ByteArray).toList) = false ∧ (s.toList == []) = false ∧ ¬ s.toList = [] := by
  have h1 : (s.toList == (⟨#[]⟩ : ByteArray).toList) = false := by rw [bytes_dec]; exact decide_eq_false h
  have h2 : (⟨#[]⟩ : ByteArray).toList = [] := by rw [ByteArray.toList_eq]
  rw [h2] at h1
  exact ⟨by rw [h2]; exact h1, h1, by simpa using h1⟩
set_option maxRecDepth 100000 in
theorem valid_any (v : Vl) (w : World) (hs : v.s.size ≤ 9223372036854775806) : Calls Tryz.prog 66 #[.agg #[.int .i64 v.k, .int .i64 v.n, .string v.s]] w fun e w' => e = .returned (.bool v.ok) ∧ Below w.heap.size w w' := by
  obtain ⟨k, n, s⟩ := v
  have hgd := guardVal
  simp only at hs
  have hB : Hid (Below w.heap.size w (w.alloc (.cells #[.int .i64 k, .int .i64 n, .string s] 38))) := hid ((Below.refl _ _).alloc (Nat.le_refl _) _)
  have kb := Blk.new w 38 #[.int .i64 k, .int .i64 n, .string s]
  have x0 := kb.cell 0
  have x1 := kb.cell 1
  have x2 := kb.cell 2
  simp only [List.getElem?_toArray, List.getElem?_cons_zero, List.getElem?_cons_succ] at x0 x1 x2
  have hs9 := hid hs
  clear kb hs
  by_cases hk0 : k = 0
  · subst hk0
    have hz := eql_zero 0 n s
    have hok := hid (ok_none n s)
    generalize decide ((⟨0, n, s⟩ : Vl) = vl0) = b at *
    go_enter Tryz.func66, Tryz.ntmps66
    go_upto_region 1 with fail
    generalize w.alloc (.cells #[.int .i64 0, .int .i64 n, .string s] 38) = w1 at *
    go_wp2_with fail
    go_ret
    exact ⟨by rw [hok.out]; rfl, hB.out⟩
  have n0 : (k == 0) = false := by simpa using hk0
  by_cases hk1 : k = 1
  · subst hk1
    by_cases he : s = ⟨#[]⟩
    · subst he
      have hok : Hid (Vl.ok ⟨1, n, ⟨#[]⟩⟩ = true) := hid rfl
      go_enter Tryz.func66, Tryz.ntmps66
      go_upto_region 1 with fail
      generalize w.alloc (.cells #[.int .i64 1, .int .i64 n, .string ⟨#[]⟩] 38) = w1 at *
      go_wp2_with fail
      go_ret
      exact ⟨by rw [hok.out]; rfl, hB.out⟩
    · have hok : Hid (Vl.ok ⟨1, n, s⟩ = false) := hid (by unfold Vl.ok; simp only; rw [if_neg (by decide)]; simp only [if_true]; exact decide_eq_false he)
      obtain ⟨e1, e2, e3⟩ := str_nil he
      go_enter Tryz.func66, Tryz.ntmps66
      go_upto_region 1 with fail
      generalize w.alloc (.cells #[.int .i64 1, .int .i64 n, .string s] 38) = w1 at *
      go_wp2_with fail
      go_ret
      exact ⟨by rw [hok.out]; rfl, hB.out⟩
  have n1 : (k == 1) = false := by simpa using hk1
  by_cases hk2 : k = 2
  · subst hk2
    have hok : Hid (Vl.ok ⟨2, n, s⟩ = (decide (n = 0) && (decide (s.size ≤ 64) && okT s))) := hid rfl
    clear hk0 hk1 n0 n1
    by_cases hn : n = 0
    · subst hn
      by_cases hz : s.size ≤ 64
      · have z1 : decide ((s.size : Int) ≤ 64) = true := decide_eq_true (by omega)
        have z2 : decide (s.size ≤ 64) = true := decide_eq_true hz
        have hpr := hid fun w => printable_any s w (by omega)
        have hf : Hid (Vl.ok ⟨2, 0, s⟩ = okT s) := hid (by rw [hok.out, z2]; simp)
        clear hz
        go_enter Tryz.func66, Tryz.ntmps66
        go_upto_region 1 with fail
        generalize w.alloc (.cells #[.int .i64 2, .int .i64 0, .string s] 38) = w1 at *
        go_wp2_with fail
        refine (hpr.out _).mono ?_
        rintro e w2 ⟨rfl, rfl⟩
        go_wp2_with fail
        go_ret
        exact ⟨by rw [hf.out]; rfl, hB.out⟩
      · have z1 : decide ((s.size : Int) ≤ 64) = false := decide_eq_false (by omega)
        have z2 : decide (s.size ≤ 64) = false := decide_eq_false hz
        have hf : Hid (Vl.ok ⟨2, 0, s⟩ = false) := hid (by rw [hok.out, z2]; simp)
        clear hz
        go_enter Tryz.func66, Tryz.ntmps66
        go_upto_region 1 with fail
        generalize w.alloc (.cells #[.int .i64 2, .int .i64 0, .string s] 38) = w1 at *
        go_wp2_with fail
        go_ret
        exact ⟨by rw [hf.out]; rfl, hB.out⟩
    · have n1 : (n == 0) = false := by simpa using hn
      have hf : Hid (Vl.ok ⟨2, n, s⟩ = false) := hid (by rw [hok.out, decide_eq_false hn]; rfl)
      clear hn
      go_enter Tryz.func66, Tryz.ntmps66
      go_upto_region 1 with fail
      generalize w.alloc (.cells #[.int .i64 2, .int .i64 n, .string s] 38) = w1 at *
      go_wp2_with fail
      go_ret
      exact ⟨by rw [hf.out]; rfl, hB.out⟩
  have n2 : (k == 2) = false := by simpa using hk2
  have hf : Hid (Vl.ok ⟨k, n, s⟩ = false) := hid (by unfold Vl.ok; simp only; rw [if_neg hk0, if_neg hk1, if_neg hk2])
  clear hk0 hk1 hk2
  go_enter Tryz.func66, Tryz.ntmps66
  go_upto_region 1 with fail
  generalize w.alloc (.cells #[.int .i64 k, .int .i64 n, .string s] 38) = w1 at *
  go_wp2_with fail
  go_ret
  exact ⟨by rw [hf.out]; rfl, hB.out⟩
set_option maxRecDepth 100000 in
theorem rvalid_any (v : Vl) (w : World) (hs : v.s.size ≤ 9223372036854775806) : Calls Tryz.prog 49 #[.agg #[.int .i64 v.k, .int .i64 v.n, .string v.s]] w fun e w' => e = .returned (.bool v.ok) ∧ Below w.heap.size w w' := by
  obtain ⟨k, n, s⟩ := v
  have hgd := guardVal
  simp only at hs
  have hB : Hid (Below w.heap.size w (w.alloc (.cells #[.int .i64 k, .int .i64 n, .string s] 38))) := hid ((Below.refl _ _).alloc (Nat.le_refl _) _)
  have kb := Blk.new w 38 #[.int .i64 k, .int .i64 n, .string s]
  have x0 := kb.cell 0
  have x1 := kb.cell 1
  have x2 := kb.cell 2
  simp only [List.getElem?_toArray, List.getElem?_cons_zero, List.getElem?_cons_succ] at x0 x1 x2
  have hs9 := hid hs
  clear kb hs
  by_cases hk0 : k = 0
  · subst hk0
    by_cases hn : n = 0
    · subst hn
      by_cases he : s = ⟨#[]⟩
      · subst he
        have hok : Hid (Vl.ok ⟨0, 0, ⟨#[]⟩⟩ = true) := hid rfl
        go_enter Tryz.func49, Tryz.ntmps49
        go_upto_region 1 with fail
        generalize w.alloc (.cells #[.int .i64 0, .int .i64 0, .string ⟨#[]⟩] 38) = w1 at *
        go_wp2_with fail
        go_ret
        exact ⟨by rw [hok.out]; rfl, hB.out⟩
      · have hok : Hid (Vl.ok ⟨0, 0, s⟩ = false) := hid (by rw [ok_none]; exact decide_eq_false fun h => he (by unfold vl0 at h; simpa using h))
        obtain ⟨e1, e2, e3⟩ := str_nil he
        go_enter Tryz.func49, Tryz.ntmps49
        go_upto_region 1 with fail
        generalize w.alloc (.cells #[.int .i64 0, .int .i64 0, .string s] 38) = w1 at *
        go_wp2_with fail
        go_ret
        exact ⟨by rw [hok.out]; rfl, hB.out⟩
    · have hok : Hid (Vl.ok ⟨0, n, s⟩ = false) := hid (by rw [ok_none]; exact decide_eq_false fun h => hn (by unfold vl0 at h; simp at h; exact h.1))
      have n1 : (n == 0) = false := by simpa using hn
      clear hn
      go_enter Tryz.func49, Tryz.ntmps49
      go_upto_region 1 with fail
      generalize w.alloc (.cells #[.int .i64 0, .int .i64 n, .string s] 38) = w1 at *
      go_wp2_with fail
      go_ret
      exact ⟨by rw [hok.out]; rfl, hB.out⟩
  have n0 : (k == 0) = false := by simpa using hk0
  by_cases hk1 : k = 1
  · subst hk1
    by_cases he : s = ⟨#[]⟩
    · subst he
      have hok : Hid (Vl.ok ⟨1, n, ⟨#[]⟩⟩ = true) := hid rfl
      go_enter Tryz.func49, Tryz.ntmps49
      go_upto_region 1 with fail
      generalize w.alloc (.cells #[.int .i64 1, .int .i64 n, .string ⟨#[]⟩] 38) = w1 at *
      go_wp2_with fail
      go_ret
      exact ⟨by rw [hok.out]; rfl, hB.out⟩
    · have hok : Hid (Vl.ok ⟨1, n, s⟩ = false) := hid (by unfold Vl.ok; simp only; rw [if_neg (by decide)]; simp only [if_true]; exact decide_eq_false he)
      obtain ⟨e1, e2, e3⟩ := str_nil he
      go_enter Tryz.func49, Tryz.ntmps49
      go_upto_region 1 with fail
      generalize w.alloc (.cells #[.int .i64 1, .int .i64 n, .string s] 38) = w1 at *
      go_wp2_with fail
      go_ret
      exact ⟨by rw [hok.out]; rfl, hB.out⟩
  have n1 : (k == 1) = false := by simpa using hk1
  by_cases hk2 : k = 2
  · subst hk2
    have hok : Hid (Vl.ok ⟨2, n, s⟩ = (decide (n = 0) && (decide (s.size ≤ 64) && okT s))) := hid rfl
    clear hk0 hk1 n0 n1
    go_enter Tryz.func49, Tryz.ntmps49
    go_upto_region 1 with fail
    generalize w.alloc (.cells #[.int .i64 2, .int .i64 n, .string s] 38) = w1 at *
    go_wp2_with fail
    go_loopw [3] (fun v wr => ∃ k : Nat, v = .int .i64 k ∧ k ≤ s.size ∧ wr = w1 ∧ ∀ j (hj : j < s.size), j < k → okB (s.data[j]'hj) = true) (fun v _ => s.size - (intOf v).toNat)
    case atStart => exact ⟨0, rfl, Nat.zero_le _, rfl, fun j _ h => by omega⟩
    case round =>
      obtain ⟨k, rfl, hk, rfl, ha0⟩ := hrel
      have ha := hid ha0
      clear ha0
      by_cases hlt : k < s.size
      · have i1 : (k : Int) < (s.size : Int) := by omega
        have hw : IntKind.i64.wrap ((k : Int) + 1) = (k : Int) + 1 := IntWalk.i64_in _ (by have := hs9.out; omega)
        cases hc : okB (s.data[k]'hlt) with
        | true =>
          have hpl := hid (mayB hlt hc (rmay_any _ wr))
          have hc := hid hc
          go_wp2_with fail
          refine hpl.out.mono ?_
          rintro e w2 ⟨rfl, rfl⟩
          go_wp2_with fail
          go_roundw
          case rel => exact ⟨k + 1, by go_num, hlt, by first | rfl | trivial, fun j hj hjk => by
            by_cases e : j = k
            · subst e; exact hc.out
            · exact ha.out j hj (by omega)⟩
          case measure => simp [intOf]; omega
        | false =>
          have hpl := hid (mayB hlt hc (rmay_any _ wr))
          have hfin : Hid (Vl.ok ⟨2, n, s⟩ = false) := hid (by rw [hok.out, okT_at hlt hc]; simp)
          clear hc
          go_wp2_with fail
          refine hpl.out.mono ?_
          rintro e w2 ⟨rfl, rfl⟩
          go_wp2_with fail
          go_ret
          exact ⟨by rw [hfin.out]; rfl, hB.out⟩
      · obtain rfl : k = s.size := by omega
        have hfin : Hid (okT s = true) := hid (okT_all fun j hj => ha.out j hj hj)
        by_cases hn : n = 0
        · subst hn
          have hf : Hid (Vl.ok ⟨2, 0, s⟩ = decide (s.size ≤ 64)) := hid (by rw [hok.out, hfin.out]; simp)
          have hz : Hid (decide (s.size ≤ 64) = decide ((s.size : Int) ≤ 64)) := hid (decide_eq_decide.2 (by omega))
          go_wp2_with fail
          go_ret
          exact ⟨by rw [hf.out]; first | rfl | (rw [hz.out]; rfl) | simp, hB.out⟩
        · have n1 : (n == 0) = false := by simpa using hn
          have hf : Hid (Vl.ok ⟨2, n, s⟩ = false) := hid (by rw [hok.out, decide_eq_false hn]; rfl)
          clear hn
          go_wp2_with fail
          go_ret
          exact ⟨by rw [hf.out]; rfl, hB.out⟩
  have n2 : (k == 2) = false := by simpa using hk2
  have hf : Hid (Vl.ok ⟨k, n, s⟩ = false) := hid (by unfold Vl.ok; simp only; rw [if_neg hk0, if_neg hk1, if_neg hk2])
  clear hk0 hk1 hk2
  go_enter Tryz.func49, Tryz.ntmps49
  go_upto_region 1 with fail
  generalize w.alloc (.cells #[.int .i64 k, .int .i64 n, .string s] 38) = w1 at *
  go_wp2_with fail
  go_ret
  exact ⟨by rw [hf.out]; rfl, hB.out⟩

end Go.Proofs.YtphglnenafdkaaaGreatDoor

namespace Go.Proofs.YtphglnenafdkaaaGreatDoor
open Go.RowKit
set_option linter.unusedVariables false
set_option linter.unusedSimpArgs false

def wr0 : Wr := ⟨⟨#[]⟩, false, vl0⟩
def wrCells (ws : List Wr) : List Value := ws.flatMap fun x => [.string x.key, .bool x.gone, .int .i64 x.v.k, .int .i64 x.v.n, .string x.v.s]
theorem wrCells_at : ∀ {L : List Wr} {i : Nat} {x : Wr}, L[i]? = some x → (wrCells L)[i * 5]? = some (.string x.key) ∧ (wrCells L)[i * 5 + 1]? = some (.bool x.gone) ∧ (wrCells L)[i * 5 + 2]? = some (.int .i64 x.v.k) ∧ (wrCells L)[i * 5 + 3]? = some (.int .i64 x.v.n) ∧ (wrCells L)[i * 5 + 4]? = some (.string x.v.s) := by
  intro L
  induction L with
  | nil => intro i x h; simp at h
  | cons y l ih =>
    intro i x h
    have e : wrCells (y :: l) = .string y.key :: .bool y.gone :: .int .i64 y.v.k :: .int .i64 y.v.n :: .string y.v.s :: wrCells l := rfl
    rw [e]
    cases i with
    | zero => simp at h; subst h; exact ⟨rfl, rfl, rfl, rfl, rfl⟩
    | succ i =>
      simp only [List.getElem?_cons_succ] at h
      obtain ⟨h1, h2, h3, h4, h5⟩ := ih h
      rw [show (i + 1) * 5 = i * 5 + 1 + 1 + 1 + 1 + 1 by omega]
      simp only [List.getElem?_cons_succ]
      exact ⟨h1, h2, h3, h4, h5⟩
/-- a row of writes, cell by cell -/
theorem rd_wr {S : Nat → Prop} {w : World} {A : Option Addr} {L : List Wr} (h : Rd S w 5 A L.length (wrCells L)) {i : Nat} (hi : i < L.length) : ∃ b o, A = some ⟨b, o, none⟩ ∧ S b ∧ b < w.heap.size ∧ w.cell? ⟨b, o + i * 5, none⟩ = some (.string (L[i]).key) ∧ w.cell? ⟨b, o + i * 5 + 1, none⟩ = some (.bool (L[i]).gone) ∧ w.cell? ⟨b, o + i * 5 + 2, none⟩ = some (.int .i64 (L[i]).v.k) ∧ w.cell? ⟨b, o + i * 5 + 3, none⟩ = some (.int .i64 (L[i]).v.n) ∧ w.cell? ⟨b, o + i * 5 + 4, none⟩ = some (.string (L[i]).v.s) := by
  obtain ⟨b, o, rfl, hS, hl, hc⟩ := h.at_ hi
  obtain ⟨h1, h2, h3, h4, h5⟩ := wrCells_at (L := L) (i := i) (x := L[i]) (by simp [hi])
  exact ⟨b, o, rfl, hS, hl, hc _ _ h1, by rw [Nat.add_assoc]; exact hc _ _ h2, by rw [Nat.add_assoc]; exact hc _ _ h3, by rw [Nat.add_assoc]; exact hc _ _ h4, by rw [Nat.add_assoc]; exact hc _ _ h5⟩
section
variable {s : St} {ws : List Wr}
theorem wrE_at {k : Nat} {x y : Wr} (hx : ws.getD k wr0 = x) (hy : ws.getD (k - 1) wr0 = y) : wrE s ws k = if validK x.key = false then 30 else if 0 < k ∧ ltB y.key x.key = false then 40 else if hasK x.key s.L = false then 41 else if x.v.ok = false then 20 else if x.gone = true ∧ x.v ≠ vl0 then 2 else 0 := by
  unfold wr0 at hx hy
  unfold wrE
  simp only [hx, hy]
theorem scan_first {f : Nat → Int} {e : Int} (he : e ≠ 0) : ∀ {n i k : Nat}, (∀ j, i ≤ j → j < k → f j = 0) → f k = e → i ≤ k → k < i + n → (scan f n i).1 = e := by
  intro n
  induction n with
  | zero => intro i k _ _ h1 h2; omega
  | succ n ih =>
    intro i k h1 h2 h3 h4
    unfold scan
    by_cases e2 : i = k
    · subst e2
      rw [if_neg (by rw [h2]; exact he)]; exact h2
    · rw [if_pos (h1 i (Nat.le_refl _) (by omega))]
      exact ih (fun j hj => h1 j (by omega)) h2 (by omega) (by omega)
theorem applyE_first {e : Int} (he : e ≠ 0) {k : Nat} (h1 : ∀ j, j < k → wrE s ws j = 0) (h2 : wrE s ws k = e) (hk : k < ws.length) : applyE s ws = e := scan_first he (fun j _ h => h1 j h) h2 (Nat.zero_le _) (by omega)
theorem applyE_zero (h1 : ∀ j, j < ws.length → wrE s ws j = 0) : applyE s ws = 0 := (scan_zero _ _ _).2 fun j _ h => h1 j (by omega)
end
section
variable {S : Nat → Prop} {w w' : World} {g : Nat} {s : St}
set_option maxRecDepth 100000 in
set_option maxHeartbeats 4000000 in
theorem may_any {Sk : Nat → Prop} {A : Option Addr} {c : Nat} (ws : List Wr) (h : PAt S w g s) (hr : Rd Sk w 5 A ws.length (wrCells ws)) (hs : ∀ x ∈ ws, x.key.size ≤ 9223372036854775806 ∧ x.v.s.size ≤ 9223372036854775806) (hn : ws.length ≤ 1000000) :
    Calls Tryz.prog 39 #[.pointer (some ⟨g, 0, none⟩), .slice A ws.length c] w fun e w' => e = .returned (.int .i64 (applyE s ws)) ∧ Below w.heap.size w w' := by
  have HH := hid h
  have HR := hid hr
  have HS := hid hs
  have hgd := guardVal
  have hN : (ws.length : Int) ≤ 1000000 := by omega
  clear h hr hs hn
  go_enter Tryz.func39, Tryz.ntmps39
  go_wp2_with fail
  go_loopw [9] (fun v wr => ∃ (k : Nat), v = .int .i64 k ∧ k ≤ ws.length ∧ Below w.heap.size w wr ∧ ∀ j, j < k → wrE s ws j = 0) (fun v _ => ws.length - (intOf v).toNat)
  case atStart => exact ⟨0, rfl, Nat.zero_le _, Below.refl _ _, fun j h => by omega⟩
  case round =>
    obtain ⟨k, rfl, hk, hB0, ha0⟩ := hrel
    have hB := hid hB0
    have ha := hid ha0
    clear hB0 ha0
    by_cases hlt : k < ws.length
    · have i1 : (k : Int) < (ws.length : Int) := by omega
      obtain ⟨b, o, rfl, _, hbl, c0, c1, c2, c3, c4⟩ := rd_wr (HR.out.below_all hB.out) hlt
      obtain ⟨hks, hvs⟩ := HS.out _ (List.getElem_mem hlt)
      obtain ⟨x, hx⟩ : ∃ x, x = ws[k] := ⟨_, rfl⟩
      rw [← hx] at c0 c1 c2 c3 c4 hks hvs
      obtain ⟨y, hy⟩ : ∃ y, ws.getD (k - 1) wr0 = y := ⟨_, rfl⟩
      have hxe : Hid (ws.getD k wr0 = x) := hid (by rw [hx]; simp [List.getD_eq_getElem?_getD, hlt])
      have hye := hid hy
      have hE := hid (wrE_at (s := s) hxe.out hy)
      clear hx hy
      go_upto_region 4 with fail
      have kB0 := Blk.new wr 40 #[.string x.key, .bool x.gone, .int .i64 x.v.k, .int .i64 x.v.n, .string x.v.s]
      have hB2 : Below wr.heap.size wr (wr.alloc (.cells #[.string x.key, .bool x.gone, .int .i64 x.v.k, .int .i64 x.v.n, .string x.v.s] 40)) := (Below.refl _ _).alloc (Nat.le_refl _) _
      have HB2 := hid (hB.out.trans (hB2.mono hB.out.size))
      generalize wr.alloc (.cells #[.string x.key, .bool x.gone, .int .i64 x.v.k, .int .i64 x.v.n, .string x.v.s] 40) = w2 at *
      have KB := hid kB0
      have Bc := hid hbl
      generalize wr.heap.size = m at *
      clear kB0 hB2 c0 c1 c2 c3 c4 hbl hB
      have x0 : w2.cell? ⟨m, 0, none⟩ = some (.string x.key) := KB.out.cell 0
      have hvk := hid (validk_any x.key w2 hks)
      go_wp2_with fail
      refine hvk.out.mono ?_
      rintro e w3 ⟨rfl, rfl⟩
      clear hvk
      cases hv0 : validK x.key with
      | false =>
        have hfin : Hid (applyE s ws = 30) := hid (applyE_first (by decide) (fun j hj => ha.out j hj) (by rw [hE.out, if_pos hv0]) hlt)
        clear hv0 hE
        go_wp2_with fail
        go_ret
        exact ⟨by rw [hfin.out]; rfl, HB2.out⟩
      | true =>
      have hv := hid hv0
      clear hv0
      have x0 : w3.cell? ⟨m, 0, none⟩ = some (.string x.key) := KB.out.cell 0
      go_upto_region 6 with fail
      by_cases hbad : 0 < k ∧ ltB y.key x.key = false
      · obtain ⟨hk0, hl0⟩ := hbad
        have hfin : Hid (applyE s ws = 40) := hid (applyE_first (by decide) (fun j hj => ha.out j hj) (by rw [hE.out, if_neg (by simp [hv.out]), if_pos ⟨hk0, hl0⟩]) hlt)
        obtain ⟨j, hjk⟩ : ∃ j, j + 1 = k := ⟨k - 1, by omega⟩
        have hj : j < ws.length := by omega
        obtain ⟨b', o', e, _, _, d0, _⟩ := rd_wr (HR.out.below_all HB2.out) hj
        injection e with e; injection e with e1 e2; subst e1; subst e2
        have hyj : ws[j] = y := by
          have := hye.out
          rw [show k - 1 = j by omega] at this
          rw [← this]; simp [List.getD_eq_getElem?_getD, hj]
        rw [hyj] at d0
        have i0 : (j : Int) < (ws.length : Int) := by omega
        have t1 : decide ((0 : Int) < (k : Int)) = true := decide_eq_true (by omega)
        have t1n : decide (0 < k) = true := decide_eq_true hk0
        have x1 : IntKind.i64.wrap ((k : Int) - 1) = (j : Int) := by rw [IntKind.wrap_i64]; omega
        have hl : Op.bytesLess y.key.toList x.key.toList = false := hl0
        clear hl0 hk0 hjk hyj hE
        go_quiet (fail)
        go_wp2_with fail
        go_ret
        exact ⟨by rw [hfin.out]; rfl, below_drewN HB2.out _⟩
      have hnr := hid hbad
      clear hbad
      go_cut [19] (fun v wx => v = .bool false ∧ ∃ q, wx = w3.drewN q)
      case first =>
        by_cases hk0 : 0 < k
        · obtain ⟨j, hjk⟩ : ∃ j, j + 1 = k := ⟨k - 1, by omega⟩
          have hj : j < ws.length := by omega
          obtain ⟨b', o', e, _, _, d0, _⟩ := rd_wr (HR.out.below_all HB2.out) hj
          injection e with e; injection e with e1 e2; subst e1; subst e2
          have hyj : ws[j] = y := by
            have := hye.out
            rw [show k - 1 = j by omega] at this
            rw [← this]; simp [List.getD_eq_getElem?_getD, hj]
          rw [hyj] at d0
          have i0 : (j : Int) < (ws.length : Int) := by omega
          have t1 : decide ((0 : Int) < (k : Int)) = true := decide_eq_true (by omega)
          have t1n : decide (0 < k) = true := decide_eq_true hk0
          have x1 : IntKind.i64.wrap ((k : Int) - 1) = (j : Int) := by rw [IntKind.wrap_i64]; omega
          have hl : Op.bytesLess y.key.toList x.key.toList = true := by
            have := hnr.out
            cases h : ltB y.key x.key with
            | true => exact h
            | false => exact absurd ⟨hk0, h⟩ this
          clear hk0 hjk hyj hE hnr
          go_quiet (fail)
          go_wp2_with fail
          go_meet
          exact ⟨rfl, _, rfl⟩
        · have t1 : decide ((0 : Int) < (k : Int)) = false := decide_eq_false (by omega)
          have t1n : decide (0 < k) = false := decide_eq_false hk0
          clear hk0 hE hnr
          go_quiet (fail)
          go_wp2_with fail
          go_meet
          exact ⟨rfl, _, rfl⟩
      case rest =>
        obtain ⟨rfl, q, hq⟩ := hcut
        have KB3 : Hid (Blk wc m 40 #[.string x.key, .bool x.gone, .int .i64 x.v.k, .int .i64 x.v.n, .string x.v.s]) := hid (by rw [hq]; exact KB.out)
        have HB3 : Hid (Below w.heap.size w wc) := hid (by rw [hq]; exact below_drewN HB2.out q)
        clear hq x0 KB HB2
        have x0 : wc.cell? ⟨m, 0, none⟩ = some (.string x.key) := KB3.out.cell 0
        have hcl := hid (claimed_b x.key (HH.out.below HB3.out) hks)
        go_wp2_with fail
        refine hcl.out.mono ?_
        rintro e w4 ⟨rfl, hb40⟩
        have KB4 := hid (KB3.out.below_all hb40)
        have HB4 := hid (HB3.out.trans (hb40.mono HB3.out.size))
        clear hb40 hcl x0 KB3 HB3
        cases hc0 : hasK x.key s.L with
        | false =>
          have hfin : Hid (applyE s ws = 41) := hid (applyE_first (by decide) (fun j hj => ha.out j hj) (by rw [hE.out, if_neg (by simp [hv.out]), if_neg hnr.out, if_pos hc0]) hlt)
          clear hE hc0
          go_wp2_with fail
          go_ret
          exact ⟨by rw [hfin.out]; rfl, HB4.out⟩
        | true =>
        have hc := hid hc0
        clear hc0
        have x2 : w4.cell? ⟨m, 2, none⟩ = some (.int .i64 x.v.k) := KB4.out.cell 2
        have x3 : w4.cell? ⟨m, 3, none⟩ = some (.int .i64 x.v.n) := KB4.out.cell 3
        have x4 : w4.cell? ⟨m, 4, none⟩ = some (.string x.v.s) := KB4.out.cell 4
        have hva := hid (valid_any x.v w4 hvs)
        go_wp2_with fail
        refine hva.out.mono ?_
        rintro e w5 ⟨rfl, hb50⟩
        have KB5 := hid (KB4.out.below_all hb50)
        have HB5 := hid (HB4.out.trans (hb50.mono HB4.out.size))
        clear hb50 hva x2 x3 x4 KB4 HB4
        cases ho0 : x.v.ok with
        | false =>
          have hfin : Hid (applyE s ws = 20) := hid (applyE_first (by decide) (fun j hj => ha.out j hj) (by rw [hE.out, if_neg (by simp [hv.out]), if_neg hnr.out, if_neg (by simp [hc.out]), if_pos ho0]) hlt)
          clear hE ho0
          go_wp2_with fail
          go_ret
          exact ⟨by rw [hfin.out]; rfl, HB5.out⟩
        | true =>
        have ho := hid ho0
        clear ho0
        have x1 : w5.cell? ⟨m, 1, none⟩ = some (.bool x.gone) := KB5.out.cell 1
        have x2 : w5.cell? ⟨m, 2, none⟩ = some (.int .i64 x.v.k) := KB5.out.cell 2
        have x3 : w5.cell? ⟨m, 3, none⟩ = some (.int .i64 x.v.n) := KB5.out.cell 3
        have x4 : w5.cell? ⟨m, 4, none⟩ = some (.string x.v.s) := KB5.out.cell 4
        have hnz0 : ∀ w', (binOp .neq 38 (.agg #[.int .i64 x.v.k, .int .i64 x.v.n, .string x.v.s]) (.agg #[.int .i64 0, .int .i64 0, .string ⟨#[]⟩])).run Tryz.prog w' = .ok (.bool (!decide (x.v = vl0))) w' := fun w' => by
          rw [run_neq_struct, show (⟨#[]⟩ : ByteArray) = vl0.s from rfl, show (Value.int .i64 0) = .int .i64 vl0.k from rfl]
          have := run_eqVal x.v vl0 w'
          rw [show (.int .i64 vl0.k : Value) = .int .i64 vl0.n from rfl] at this ⊢
          rw [this]; rfl
        cases hg0 : x.gone with
        | false =>
          have hz : Hid (wrE s ws k = 0) := hid (by rw [hE.out, if_neg (by simp [hv.out]), if_neg hnr.out, if_neg (by simp [hc.out]), if_neg (by simp [ho.out]), if_neg (by simp [hg0])])
          rw [hg0] at x1
          clear hE hnz0 hg0
          go_wp2_with fail
          go_roundw
          case rel => exact ⟨k + 1, by go_num, hlt, HB5.out, fun j hj => by
            by_cases e : j = k
            · subst e; exact hz.out
            · exact ha.out j (by omega)⟩
          case measure => simp [intOf]; omega
        | true =>
          rw [hg0] at x1
          cases hz0 : decide (x.v = vl0) with
          | true =>
            have hz : Hid (wrE s ws k = 0) := hid (by rw [hE.out, if_neg (by simp [hv.out]), if_neg hnr.out, if_neg (by simp [hc.out]), if_neg (by simp [ho.out]), if_neg (by simp [of_decide_eq_true hz0])])
            have hnz := hnz0
            rw [hz0] at hnz
            clear hE hnz0 hg0 hz0
            go_wp2_with fail
            go_roundw
            case rel => exact ⟨k + 1, by go_num, hlt, HB5.out, fun j hj => by
              by_cases e : j = k
              · subst e; exact hz.out
              · exact ha.out j (by omega)⟩
            case measure => simp [intOf]; omega
          | false =>
            have hfin : Hid (applyE s ws = 2) := hid (applyE_first (by decide) (fun j hj => ha.out j hj) (by rw [hE.out, if_neg (by simp [hv.out]), if_neg hnr.out, if_neg (by simp [hc.out]), if_neg (by simp [ho.out]), if_pos ⟨hg0, of_decide_eq_false hz0⟩]) hlt)
            have hnz := hnz0
            rw [hz0] at hnz
            clear hE hnz0 hg0 hz0
            go_wp2_with fail
            go_ret
            exact ⟨by rw [hfin.out]; rfl, HB5.out⟩
    · obtain rfl : k = ws.length := by omega
      have hfin : Hid (applyE s ws = 0) := hid (applyE_zero fun j hj => ha.out j hj)
      go_wp2_with fail
      go_ret
      exact ⟨by rw [hfin.out]; rfl, hB.out⟩
end
end Go.Proofs.YtphglnenafdkaaaGreatDoor

namespace Go.Proofs.YtphglnenafdkaaaGreatDoor
open Go.RowKit
set_option linter.unusedVariables false
set_option linter.unusedSimpArgs false

section
variable {S : Nat → Prop} {w w' : World} {g cb cc vb : Nat} {mb : Nat → Nat} {s : St}
/-- a key gets a value: the values' map at last says what the new values are -/
theorem PIn.up {k : ByteArray} {v : Vl} (h : PIn S w g s cb cc mb vb) (hU : Upd (fun j => j = vb) w w') (hk : hasK k s.L = true) (hm : MapF strE w' vb fun y => if y = k then (if v.k = 0 then none else some (.agg #[.int .i64 v.k, .int .i64 v.n, .string v.s])) else Dv s.L y) (hok : St.Ok { s with L := upK k v s.L }) :
    PIn S w' g { s with L := upK k v s.L } cb cc mb vb ∧ Upd S w w' := by
  obtain ⟨cs, h1, h2⟩ := h.row
  have hne : ∀ {b t cs}, Blk w b t cs → ¬ b = vb := fun hb e => h.vals.ne_blk hb e.symm
  refine ⟨⟨h.blk.upd hU (hne h.blk), ⟨cs, h1.upd hU (hne h1), h2⟩, fun q hq => ?_, h.inj, ?_, h.vne, h.inS, fun j hj => Nat.lt_of_lt_of_le (h.lt j hj) hU.size, hok⟩, hU.mono fun j _ hj => hj ▸ h.inS.2.2.1⟩
  · show MapF strE w' (mb q) (Dc (upK k v s.L) s.parts q)
    refine ((h.cl q hq).upd hU (h.vne q hq)).congr fun y => ?_
    unfold Dc
    rw [hasK_up]
  · refine hm.congr fun y => ?_
    show _ = Dv (upK k v s.L) y
    unfold Dv
    rw [valK_up]
    by_cases e : y = k
    · subst e; simp [hk]
    · have : ¬ k = y := fun h => e h.symm
      simp [e, this]
theorem up_ok1 (h : s.Ok) {k : ByteArray} {v : Vl} (hk : validK k = true) (hv : v.ok = true) : St.Ok { s with L := upK k v s.L } := by
  refine ⟨h.parts, h.room, up_asc h.asc, fun x hx => ?_, fun x hx => ?_, fun p hp => ?_⟩
  · rcases up_mem hx with ⟨e, _⟩ | hx
    · rw [e]; exact hk
    · exact h.key x hx
  · rcases up_mem hx with ⟨_, e⟩ | hx
    · rw [e]; exact hv
    · exact h.val x hx
  · show cntP s.parts p (upK k v s.L) ≤ s.room
    rw [cnt_up]; exact h.cnt p hp
theorem upAll_snoc {L : List Kv} (l : List Wr) (x : Wr) : upAll L (l ++ [x]) = upK x.key x.v (upAll L l) := by unfold upAll; rw [List.foldl_append]; rfl
theorem upAll_has {j : ByteArray} {L : List Kv} {ws : List Wr} : hasK j (upAll L ws) = hasK j L := has_keys upAll_keys
theorem applyS_yes {ws : List Wr} (h : applyE s ws = 0) : applyS s ws = { s with L := upAll s.L ws } := by unfold applyS; rw [if_pos h]
theorem applyS_no {ws : List Wr} (h : applyE s ws ≠ 0) : applyS s ws = s := by unfold applyS; rw [if_neg h]
set_option maxRecDepth 100000 in
set_option maxHeartbeats 4000000 in
theorem apply_any {Sk : Nat → Prop} {A : Option Addr} {c : Nat} (ws : List Wr) (h : PAt S w g s) (hr : Rd Sk w 5 A ws.length (wrCells ws)) (hd : ∀ b, Sk b → ¬ S b) (hs : ∀ x ∈ ws, x.key.size ≤ 9223372036854775806 ∧ x.v.s.size ≤ 9223372036854775806) (hn : ws.length ≤ 1000000) :
    Calls Tryz.prog 12 #[.pointer (some ⟨g, 0, none⟩), .slice A ws.length c] w fun e w' => e = .returned (.int .i64 (applyE s ws)) ∧ PAt S w' g (applyS s ws) ∧ Upd S w w' := by
  have hmay := hid (may_any (c := c) ws h hr hs hn)
  obtain ⟨cb, cc, mb, vb, h⟩ := h
  have HH := hid h
  have HR := hid hr
  have hN : (ws.length : Int) ≤ 1000000 := by omega
  clear h hr hs hn
  go_enter Tryz.func12, Tryz.ntmps12
  go_wp2_with fail
  refine hmay.out.mono ?_
  rintro e w2 ⟨rfl, hb20⟩
  have HB2 := hid hb20
  clear hmay hb20
  by_cases he0 : applyE s ws = 0
  rotate_left
  · have tt : (applyE s ws != 0) = true := by simpa using he0
    have hfin : Hid (PAt S w2 g (applyS s ws)) := hid (by rw [applyS_no he0]; exact ⟨_, _, _, _, HH.out.below HB2.out⟩)
    clear he0
    go_wp2_with fail
    go_ret
    exact ⟨rfl, hfin.out, .of_below HB2.out fun k hk h => by omega⟩
  have he := hid he0
  have HP := hid (HH.out.below HB2.out)
  have HR2 := hid (HR.out.below_all HB2.out)
  have hWS := hid HB2.out.size
  have HU : Hid (Upd S w w2) := hid (.of_below HB2.out fun k hk h => by omega)
  rw [he0]
  clear he0 HH HR HB2
  go_wp2_with fail
  go_loopw [18] (fun v wr => ∃ (k : Nat), v = .int .i64 k ∧ k ≤ ws.length ∧ PIn S wr g { s with L := upAll s.L (ws.take k) } cb cc mb vb ∧ Rd Sk wr 5 A ws.length (wrCells ws) ∧ Upd S w wr) (fun v _ => ws.length - (intOf v).toNat)
  case atStart => exact ⟨0, rfl, Nat.zero_le _, HP.out, HR2.out, HU.out⟩
  case round =>
    clear HP HR2 HU
    obtain ⟨k, rfl, hk, hp0, hr0, hu0⟩ := hrel
    have HP := hid hp0
    have HR := hid hr0
    have HU := hid hu0
    clear hp0 hr0 hu0
    by_cases hlt : k < ws.length
    · have i1 : (k : Int) < (ws.length : Int) := by omega
      obtain ⟨b, o, rfl, hSkb, hbl, c0, c1, c2, c3, c4⟩ := rd_wr HR.out hlt
      have hz := hid (apply_zero he.out _ (List.getElem_mem hlt))
      have htk := hid (take_snoc hlt)
      obtain ⟨x, hx⟩ : ∃ x, x = ws[k] := ⟨_, rfl⟩
      rw [← hx] at c0 c1 c2 c3 c4 hz htk
      clear hx
      go_upto_region 9 with fail
      have kB0 := Blk.new wr 40 #[.string x.key, .bool x.gone, .int .i64 x.v.k, .int .i64 x.v.n, .string x.v.s]
      have hB2 : Below wr.heap.size wr (wr.alloc (.cells #[.string x.key, .bool x.gone, .int .i64 x.v.k, .int .i64 x.v.n, .string x.v.s] 40)) := (Below.refl _ _).alloc (Nat.le_refl _) _
      have HP2 := hid (HP.out.below hB2)
      have HR2 := hid (HR.out.below_all hB2)
      have HU2 := hid (HU.out.trans (Upd.of_below (M := S) hB2 fun k hk h => by omega) fun _ _ h => h)
      have hvl := hid (HP.out.vals.lt)
      generalize wr.alloc (.cells #[.string x.key, .bool x.gone, .int .i64 x.v.k, .int .i64 x.v.n, .string x.v.s] 40) = w3 at *
      have KB := hid kB0
      have hvm : Hid (vb ≠ wr.heap.size) := hid (by have := hvl.out; omega)
      generalize wr.heap.size = m at *
      clear kB0 hB2 c0 c1 c2 c3 c4 hbl HP HR HU hvl
      have x0 : w3.cell? ⟨m, 0, none⟩ = some (.string x.key) := KB.out.cell 0
      have x2 : w3.cell? ⟨m, 2, none⟩ = some (.int .i64 x.v.k) := KB.out.cell 2
      have x3 : w3.cell? ⟨m, 3, none⟩ = some (.int .i64 x.v.n) := KB.out.cell 3
      have x4 : w3.cell? ⟨m, 4, none⟩ = some (.string x.v.s) := KB.out.cell 4
      have g2 : w3.cell? ⟨g, 2, none⟩ = some (.map (some vb)) := HP2.out.cells.2.2
      obtain ⟨w4, hmu0, hm40, hg40, _⟩ := (HP2.out.drewN 1).vals.update Tryz.underlying74 x.key (.agg #[.int .i64 x.v.k, .int .i64 x.v.n, .string x.v.s])
      have hmu : (Instr.mapUpdate 74 (.map (some vb)) (.string x.key) (.agg #[.int .i64 x.v.k, .int .i64 x.v.n, .string x.v.s])).run Tryz.prog w3.drew = .ok () w4 := hmu0
      have hu40 : Upd (fun j => j = vb) w3 w4 := (Upd.refl (fun j => j = vb) w3).drew.trans (upd_grown hg40 fun j hj => by injection hj with hj; exact hj.symm) fun _ _ h => h
      have hm4 := hid hm40
      have hu4 := hid hu40
      clear hm40 hg40 hu40 hmu0
      go_still_tail 8, (by kernel_rfl)
      change wpList _ _ _ _ _ w3.drew
      go_upto_region 10 with fail
      have x2 : w4.cell? ⟨m, 2, none⟩ = some (.int .i64 x.v.k) := (KB.out.upd hu4.out (Ne.symm hvm.out)).cell 2
      by_cases hz0 : x.v.k = 0
      · have tz : (x.v.k == 0) = true := by simpa using hz0
        have x0 : w4.cell? ⟨m, 0, none⟩ = some (.string x.key) := (KB.out.upd hu4.out (Ne.symm hvm.out)).cell 0
        have g2 : w4.cell? ⟨g, 2, none⟩ = some (.map (some vb)) := (HP2.out.blk.upd hu4.out fun e => HP2.out.vals.ne_blk HP2.out.blk e.symm).cell 2
        have hm4d : MapF strE w4.drew vb _ := hm4.out
        obtain ⟨w5, hdl0, hm50, hg50, _⟩ := hm4d.delete (kt := 9) Tryz.underlying74 0 x.key
        have hdl : (Builtin.delete_ #[74, 9] 0 #[.map (some vb), .string x.key]).run Tryz.prog w4.drew = .ok (.tuple #[]) w5 := hdl0
        have hu5 : Upd (fun j => j = vb) w3 w5 := hu4.out.drew.trans (upd_grown hg50 fun j hj => by injection hj with hj; exact hj.symm) fun _ _ h => h
        have hfin0 := HP2.out.up (k := x.key) (v := x.v) hu5 (by show hasK x.key (upAll s.L (ws.take k)) = true; rw [upAll_has]; exact hz.out.2.1) (hm50.congr fun y => by
          by_cases e : y = x.key
          · simp only [e, if_true, hz0]
          · simp only [e, if_false]) (up_ok1 HP2.out.ok hz.out.1 hz.out.2.2)
        have hfin := hid hfin0
        have HR5 := hid (HR2.out.upd hfin0.2 hd)
        have HU5 := hid (HU2.out.trans hfin0.2 fun _ _ h => h)
        clear hfin0 hu5 hm50 hg50 hdl0 hm4d hz0 hmu
        go_wp2_with fail
        go_still_tail 6, (by kernel_rfl)
        change wpList _ _ _ _ _ w4.drew
        go_wp2_with fail
        go_roundw
        case rel => exact ⟨k + 1, by go_num, hlt, by rw [htk.out, upAll_snoc]; exact hfin.out.1, HR5.out, HU5.out⟩
        case measure => simp [intOf]; omega
      · have tz : (x.v.k == 0) = false := by simpa using hz0
        have hfin0 := HP2.out.up (k := x.key) (v := x.v) hu4.out (by show hasK x.key (upAll s.L (ws.take k)) = true; rw [upAll_has]; exact hz.out.2.1) (hm4.out.congr fun y => by
          by_cases e : y = x.key
          · simp only [e, if_true, hz0, if_false]
          · simp only [e, if_false]) (up_ok1 HP2.out.ok hz.out.1 hz.out.2.2)
        have hfin := hid hfin0
        have HR5 := hid (HR2.out.upd hfin0.2 hd)
        have HU5 := hid (HU2.out.trans hfin0.2 fun _ _ h => h)
        clear hfin0 hz0 hmu
        go_wp2_with fail
        go_roundw
        case rel => exact ⟨k + 1, by go_num, hlt, by rw [htk.out, upAll_snoc]; exact hfin.out.1, HR5.out, HU5.out⟩
        case measure => simp [intOf]; omega
    · obtain rfl : k = ws.length := by omega
      have hfin : Hid (PAt S wr g (applyS s ws)) := hid (by
        rw [applyS_yes he.out]
        have := HP.out
        rw [List.take_length] at this
        exact ⟨_, _, _, _, this⟩)
      clear HP
      go_wp2_with fail
      go_ret
      exact ⟨by rw [he.out]; rfl, hfin.out, HU.out⟩
end
end Go.Proofs.YtphglnenafdkaaaGreatDoor


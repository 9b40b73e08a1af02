/- store: how a store lies in memory. -/
import Derived.Test.YtnbbdjbjbjlcpaaDoorSMap
import Derived.Test.YtnbbdjbjbjlcpaaDoorSPl
import Derived.Test.YtnbbdjbjbjlcpaaDoorGBase
namespace Go.Proofs.YtnbbdjbjbjlcpaaDoor
open Go.RowKit
set_option linter.unusedVariables false
set_option linter.unusedSimpArgs false

theorem ba_beq (a b : ByteArray) : (a == b) = decide (a = b) := by
  by_cases h : a = b
  · rw [decide_eq_true h]; exact (MapKept.bytes_beq a b).2 h
  · rw [decide_eq_false h]
    cases e : a == b with
    | false => rfl
    | true => exact absurd ((MapKept.bytes_beq a b).1 e) h
theorem str_eq (a b : ByteArray) (w : World) : (Op.equal 9 (.string a) (.string b)).run Tryd.prog w = .ok (decide (a = b)) w := by
  have ht : Tryd.prog.underlying 9 = some .string := Tryd.underlying9
  have e : (a.toList == b.toList) = decide (a = b) := by
    by_cases h : a = b
    · subst h; simp
    · have : ¬ a.toList = b.toList := fun e => h (ba_inj e)
      simp [h, this]
  unfold Op.equal Op.maxDepth
  go_simp
  try rw [e]
theorem str_check (em : Bool) (a : ByteArray) (w : World) : (Instr.checkKey em 10000 9 (.string a)).run Tryd.prog w = .ok () w := by
  kernel_rfl
def strE : KeyEnc Tryd.prog 9 ByteArray where
  enc := .string
  desc := _
  under := Tryd.underlying9
  eq := str_eq
  check := str_check
  now := fun a b => .inr (by
    unfold Instr.sameNow
    simp only [ba_beq])
  bits := fun a => by
    rw [show (10000 : Nat) = 9998 + 1 + 1 from rfl]
    simp [Instr.sameBits, ba_beq]
/-- what a claims map has -/
def Dc (L : List Kv) (n p : Nat) (k : ByteArray) : Option Value := if hasK k L = true ∧ partK n k = p then some (.int .i64 1) else none
/-- what the values map has -/
def Dv (L : List Kv) (k : ByteArray) : Option Value := if (valK k L).k = 0 then none else some (.agg #[.int .i64 (valK k L).k, .int .i64 (valK k L).n, .string (valK k L).s])
/-- the program's store lies at block g: its partitions' maps, its values' map -/
structure PIn (S : Nat → Prop) (w : World) (g : Nat) (s : St) (cb cc : Nat) (mb : Nat → Nat) (vb : Nat) : Prop where
  blk : Blk w g 59 #[.int .i64 s.room, .slice (some ⟨cb, 0, none⟩) s.parts cc, .map (some vb)]
  row : ∃ cs, Blk w cb 60 cs ∧ ∀ p, p < s.parts → cs[p]? = some (.map (some (mb p)))
  cl : ∀ p, p < s.parts → MapF strE w (mb p) (Dc s.L s.parts p)
  inj : ∀ p q, p < s.parts → q < s.parts → mb p = mb q → p = q
  vals : MapF strE w vb (Dv s.L)
  vne : ∀ p, p < s.parts → mb p ≠ vb
  inS : S g ∧ S cb ∧ S vb ∧ ∀ p, p < s.parts → S (mb p)
  lt : ∀ j, S j → j < w.heap.size
  ok : s.Ok
def PAt (S : Nat → Prop) (w : World) (g : Nat) (s : St) : Prop := ∃ cb cc mb vb, PIn S w g s cb cc mb vb
section
variable {S : Nat → Prop} {w w' : World} {g cb cc vb : Nat} {mb : Nat → Nat} {s : St}
theorem PIn.keep (h : PIn S w g s cb cc mb vb) (hk : ∀ b, S b → w'.heap[b]? = w.heap[b]?) (hs : w.heap.size ≤ w'.heap.size) : PIn S w' g s cb cc mb vb := by
  obtain ⟨cs, h1, h2⟩ := h.row
  exact ⟨(hk _ h.inS.1).trans h.blk, ⟨cs, (hk _ h.inS.2.1).trans h1, h2⟩, fun p hp => (h.cl p hp).keep (hk _ (h.inS.2.2.2 p hp)), h.inj, h.vals.keep (hk _ h.inS.2.2.1), h.vne, h.inS, fun j hj => Nat.lt_of_lt_of_le (h.lt j hj) hs, h.ok⟩
theorem PIn.below (h : PIn S w g s cb cc mb vb) (hb : Below w.heap.size w w') : PIn S w' g s cb cc mb vb := h.keep (fun b hb' => hb.block b (h.lt b hb')) hb.size
theorem PIn.upd {M : Nat → Prop} (h : PIn S w g s cb cc mb vb) (hu : Upd M w w') (hM : ∀ b, S b → ¬ M b) : PIn S w' g s cb cc mb vb := h.keep (fun b hb => hu.block b (h.lt b hb) (hM b hb)) hu.size
theorem PAt.below (h : PAt S w g s) (hb : Below w.heap.size w w') : PAt S w' g s := by obtain ⟨_, _, _, _, h⟩ := h; exact ⟨_, _, _, _, h.below hb⟩
theorem PAt.upd {M : Nat → Prop} (h : PAt S w g s) (hu : Upd M w w') (hM : ∀ b, S b → ¬ M b) : PAt S w' g s := by obtain ⟨_, _, _, _, h⟩ := h; exact ⟨_, _, _, _, h.upd hu hM⟩
theorem PAt.lt (h : PAt S w g s) : ∀ j, S j → j < w.heap.size := by obtain ⟨_, _, _, _, h⟩ := h; exact h.lt
theorem PAt.ok (h : PAt S w g s) : s.Ok := by obtain ⟨_, _, _, _, h⟩ := h; exact h.ok
theorem PAt.inS (h : PAt S w g s) : S g := by obtain ⟨_, _, _, _, h⟩ := h; exact h.inS.1
theorem PIn.cells (h : PIn S w g s cb cc mb vb) : w.cell? ⟨g, 0, none⟩ = some (.int .i64 s.room) ∧ w.cell? ⟨g, 1, none⟩ = some (.slice (some ⟨cb, 0, none⟩) s.parts cc) ∧ w.cell? ⟨g, 2, none⟩ = some (.map (some vb)) := ⟨h.blk.cell 0, h.blk.cell 1, h.blk.cell 2⟩
theorem PIn.rowc (h : PIn S w g s cb cc mb vb) (p : Nat) (hp : p < s.parts) : w.cell? ⟨cb, p, none⟩ = some (.map (some (mb p))) := by
  obtain ⟨cs, h1, h2⟩ := h.row
  exact (h1.cell p).trans (h2 p hp)
theorem PIn.get (h : PIn S w g s cb cc mb vb) (k : ByteArray) : (Instr.lookup 56 (.map (some vb)) (.string k) false).run Tryd.prog w = .ok (.agg #[.int .i64 (valK k s.L).k, .int .i64 (valK k s.L).n, .string (valK k s.L).s]) w := by
  have hz : ∀ w, (zeroValue 50).run Tryd.prog w = .ok (.agg #[.int .i64 0, .int .i64 0, .string ⟨#[]⟩]) w := fun w => by kernel_rfl
  have hl := h.vals.lookup Tryd.underlying56 hz k
  have e : (Dv s.L k).getD (.agg #[.int .i64 0, .int .i64 0, .string ⟨#[]⟩]) = .agg #[.int .i64 (valK k s.L).k, .int .i64 (valK k s.L).n, .string (valK k s.L).s] := by
    unfold Dv
    by_cases h0 : (valK k s.L).k = 0
    · rw [if_pos h0]
      have hv : valK k s.L = vl0 := by
        cases hh : hasK k s.L with
        | false => exact valK_none hh
        | true =>
          obtain ⟨x, hx, hk⟩ := hasK_mem.1 hh
          have h1 := valK_mem h.ok.asc hx
          rw [hk] at h1
          have h2 := h.ok.val x hx
          rw [← h1] at h2
          unfold Vl.ok at h2
          rw [if_pos h0] at h2
          simp at h2
          have e : valK k s.L = ⟨(valK k s.L).k, (valK k s.L).n, (valK k s.L).s⟩ := rfl
          rw [e, h0, h2.1, h2.2]; rfl
      rw [hv]; rfl
    · rw [if_neg h0]; rfl
  rw [e] at hl
  exact hl
theorem PIn.claimed (h : PIn S w g s cb cc mb vb) (k : ByteArray) {p : Nat} (hp : partK s.parts k = p) : (Instr.lookup 60 (.map (some (mb p))) (.string k) false).run Tryd.prog w = .ok (.int .i64 (if hasK k s.L = true then 1 else 0)) w := by
  have hpl : p < s.parts := by rw [← hp]; exact partK_lt k (by have := h.ok.parts; omega)
  have hl := (h.cl p hpl).lookup Tryd.underlying60 zero_int k
  have e : (Dc s.L s.parts p k).getD (.int .i64 0) = .int .i64 (if hasK k s.L = true then 1 else 0) := by
    unfold Dc
    cases hasK k s.L <;> simp [hp]
  rw [e] at hl
  exact hl
/-- how many a partition's map has -/
theorem PIn.size (h : PIn S w g s cb cc mb vb) (p : Nat) (hp : p < s.parts) (ty : TypeId) : (Builtin.len_ #[60] ty #[.map (some (mb p))]).run Tryd.prog w = .ok (.int .i64 (cntP s.parts p s.L)) w := by
  have e := (h.cl p hp).len Tryd.underlying60 ty ((s.L.filter fun x => decide (partK s.parts x.1 = p)).map (·.1)) ((List.filter_sublist.map _).nodup (asc_nodup h.ok.asc)) fun k => by
    unfold Dc
    constructor
    · intro hk
      obtain ⟨x, hx, rfl⟩ := List.mem_map.1 hk
      have := List.mem_filter.1 hx
      rw [if_pos ⟨hasK_mem.2 ⟨x, this.1, rfl⟩, by simpa using this.2⟩]; rfl
    · intro hk
      by_cases hc : hasK k s.L = true ∧ partK s.parts k = p
      · obtain ⟨x, hx, rfl⟩ := hasK_mem.1 hc.1
        exact List.mem_map.2 ⟨x, List.mem_filter.2 ⟨hx, by simp [hc.2]⟩, rfl⟩
      · rw [if_neg hc] at hk; cases hk
  rw [e, List.length_map]
  unfold cntP
  rw [List.countP_eq_length_filter]
end
/-! the document's store -/
def kvCells (L : List Kv) : List Value := L.flatMap fun x => [.string x.1, .int .i64 x.2.k, .int .i64 x.2.n, .string x.2.s]
section
variable {S : Nat → Prop} {w w' : World} {r c : Nat} {A : Option Addr} {s : St}
theorem kvCells_len (L : List Kv) : (kvCells L).length = L.length * 4 := by
  unfold kvCells
  induction L with
  | nil => rfl
  | cons x l ih => rw [List.flatMap_cons, List.length_append, ih]; simp; omega
theorem kvCells_at : ∀ {L : List Kv} {i : Nat} {x : Kv}, L[i]? = some x → (kvCells L)[i * 4]? = some (.string x.1) ∧ (kvCells L)[i * 4 + 1]? = some (.int .i64 x.2.k) ∧ (kvCells L)[i * 4 + 2]? = some (.int .i64 x.2.n) ∧ (kvCells L)[i * 4 + 3]? = some (.string x.2.s) := by
  intro L
  induction L with
  | nil => intro i x h; simp at h
  | cons y l ih =>
    intro i x h
    have e : kvCells (y :: l) = .string y.1 :: .int .i64 y.2.k :: .int .i64 y.2.n :: .string y.2.s :: kvCells l := rfl
    rw [e]
    cases i with
    | zero => simp at h; subst h; exact ⟨rfl, rfl, rfl, rfl⟩
    | succ i =>
      simp only [List.getElem?_cons_succ] at h
      obtain ⟨h1, h2, h3, h4⟩ := ih h
      rw [show (i + 1) * 4 = i * 4 + 1 + 1 + 1 + 1 by omega]
      simp only [List.getElem?_cons_succ]
      exact ⟨h1, h2, h3, h4⟩
/-- a row of keys with values, cell by cell -/
theorem rd_kv {S : Nat → Prop} {w : World} {A : Option Addr} {L : List Kv} (h : Rd S w 4 A L.length (kvCells L)) {i : Nat} (hi : i < L.length) : ∃ b o, A = some ⟨b, o, none⟩ ∧ S b ∧ b < w.heap.size ∧ w.cell? ⟨b, o + i * 4, none⟩ = some (.string (L[i]).1) ∧ w.cell? ⟨b, o + i * 4 + 1, none⟩ = some (.int .i64 (L[i]).2.k) ∧ w.cell? ⟨b, o + i * 4 + 2, none⟩ = some (.int .i64 (L[i]).2.n) ∧ w.cell? ⟨b, o + i * 4 + 3, none⟩ = some (.string (L[i]).2.s) := by
  obtain ⟨b, o, rfl, hS, hl, hc⟩ := h.at_ hi
  obtain ⟨h1, h2, h3, h4⟩ := kvCells_at (L := L) (i := i) (x := L[i]) (by simp [hi])
  exact ⟨b, o, rfl, hS, hl, hc _ _ h1, by rw [Nat.add_assoc]; exact hc _ _ h2, by rw [Nat.add_assoc]; exact hc _ _ h3, by rw [Nat.add_assoc]; exact hc _ _ h4⟩
end
end Go.Proofs.YtnbbdjbjbjlcpaaDoor

/- Texts of the proof, joined: MShelf, KPut, KPut2, KRRd, KRRd2, KRNew, KRNum, KNum, KRUint, KTk, IErr, KRText, VHelp, VEnv, IData, SHeldE. -/
import Derived.Shelf.Strings.Builder1
import Derived.Shelf.Strings.Builder2
import Derived.Shelf.Small.Bits
import Derived.Shelf.Small.Strs
import Derived.Shelf.Strconv.Itoa0
import Derived.Shelf.Strconv.Itoa1
import Derived.Shelf.LaysM
import Derived.Shelf.Strconv.Itoa2
import Derived.Shelf.Strconv.Itoa3
import Derived.Shelf.Strconv.Itoa4
import Derived.Shelf.Strconv.ParseIntEmpty
import Derived.Shelf.Strconv.Clone
import Derived.Shelf.Strconv.SyntaxError
import Derived.Shelf.LaysC
import Derived.Shelf.Strconv.ToError
import Derived.Shelf.Strconv.Lower
import Derived.Shelf.Strconv.ParseUint10
import Derived.Shelf.Strconv.ParseUint10Empty
import Derived.Shelf.Strconv.ParseUint10Any
import Derived.Shelf.Strconv.ParseInt10
import Derived.Shelf.Strconv.RangeError
import Derived.Shelf.Strconv.ToErrorRange
import Derived.Shelf.Strconv.ParseUintEmpty
import Derived.Shelf.Strconv.ParseUint10b64
import Derived.Shelf.Strconv.ParseUint10b32
import Derived.Shelf.Strconv.ParseUint10b16
import Derived.Shelf.Strconv.ParseUint10b8
import Derived.Shelf.Strconv.ParseUint10At
import Derived.Shelf.Strconv.ParseInt10At64
import Derived.Shelf.Strconv.ParseInt10At32
import Derived.Shelf.Strconv.ParseInt10At16
import Derived.Shelf.Strconv.ParseInt10At8
import Derived.Shelf.Strconv.ParseInt10All
import Derived.Shelf.Strconv.ParseIntPublic10
import Derived.Shelf.Strconv.ErrVarParseInt
import Derived.Shelf.Strings.Search1
import Derived.Shelf.Bits.Mul64
import Derived.Ground.Names2Prog
import Derived.Test.YtdmogoaaecdbaaaGreatDoorProg
import Derived.Test.YtdmogoaaecdbaaaGreatDoorJ05
import Derived.Test.YtdmogoaaecdbaaaGreatDoorJ04
import Derived.Laws.MakeOwn
import Derived.Laws.OwnMore
import Derived.Laws.Bits64
import Derived.Lib.AppendStr
import Derived.Laws.Rows
import Derived.Test.YtdmogoaaecdbaaaGreatDoorJ07
import Derived.Test.YtdmogoaaecdbaaaGreatDoorJ06
import Derived.Recover
import Derived.Laws.BytesArg
import Derived.WalkSmall
import Derived.Lib.AtoiErrMem
import Derived.Deep.RegionHeld3
import Derived.Test.YtdmogoaaecdbaaaGreatDoorRows
namespace Go.Proofs.YtdmogoaaecdbaaaGreatDoor
open Go.Shelf
def lays264_ren : Go.Shelf.Ren := ⟨fun | 264 => 205 | n => n, fun | 53 => 154 | 46 => 241 | n => n, fun | n => n⟩
theorem lays264 : Go.Proofs.Lays.n264 Tryz.prog lays264_ren := {
  mixed := by kernel_rfl
  f264 := Tryz.func205.trans (congrArg some (by kernel_rfl))
  t46 := Tryz.underlying241
  a46 := Tryz.isAgg241
  z46 := Tryz.sizeOf241
  v46 := Tryz.zeroValue241
  t53 := Tryz.underlying154
  a53 := Tryz.isAgg154
  z53 := Tryz.sizeOf154
  v53 := Tryz.zeroValue154 }
open Go.RowKit Go.Lib in
theorem bits_Mul64 (x y : Nat) (hx : x < 18446744073709551616) (hy : y < 18446744073709551616) (w : World) :
    Calls Tryz.prog 205 #[.int .u64 x, .int .u64 y] w fun e w' => e = .returned (.tuple #[.int .u64 ((x * y / 18446744073709551616 : Nat) : Int), .int .u64 ((x * y % 18446744073709551616 : Nat) : Int)]) ∧ w' = w := Any.bits_Mul64 lays264 x y hx hy w
end Go.Proofs.YtdmogoaaecdbaaaGreatDoor

namespace Go.Proofs.YtdmogoaaecdbaaaGreatDoor
open Go.RowKit
set_option linter.unusedVariables false
set_option linter.unusedSimpArgs false

def bcells (l : List Nat) : List Value := l.map fun c => .int .u8 (c : Nat)
theorem bcells_snoc (l : List Nat) (c : Nat) : bcells (l ++ [c]) = bcells l ++ [.int .u8 (c : Nat)] := by unfold bcells; rw [List.map_append]; rfl
theorem info_u8 : (Tryz.prog.info? 5).map (fun i => (i.zero, i.size, i.bytes)) = some (some (.int .u8 0), 1, 1) := by kernel_rfl
end Go.Proofs.YtdmogoaaecdbaaaGreatDoor

namespace Go.Proofs.YtdmogoaaecdbaaaGreatDoor
open Go.RowKit
set_option linter.unusedVariables false
set_option linter.unusedSimpArgs false

end Go.Proofs.YtdmogoaaecdbaaaGreatDoor

namespace Go.Proofs.YtdmogoaaecdbaaaGreatDoor
open Go.RowKit
set_option linter.unusedVariables false
set_option linter.unusedSimpArgs false

structure RrOf (T : TypeId) (S : Nat → Prop) (w : World) (g : Nat) (A : Option Addr) (c : Nat) (r : Rr) : Prop where
  blk : Blk w g T #[.slice A r.b.length c, .int .i64 (r.at_ : Nat), .int .i64 (r.last : Nat), .int .i64 r.e, .int .i64 (r.spot : Nat)]
  row : Rd S w 1 A r.b.length (bcells r.b)
  ne : ∀ k, S k → k ≠ g
  at_le : r.at_ ≤ r.b.length
  len : r.b.length ≤ 140737488351232
  byt : ∀ x ∈ r.b, x < 256
  cap : r.b.length ≤ c
theorem bcells_at {l : List Nat} {k : Nat} (h : k < l.length) : (bcells l)[k]? = some (.int .u8 (l[k] : Nat)) := by unfold bcells; rw [List.getElem?_map, List.getElem?_eq_getElem h]; rfl
end Go.Proofs.YtdmogoaaecdbaaaGreatDoor

namespace Go.Proofs.YtdmogoaaecdbaaaGreatDoor
open Go.RowKit
set_option linter.unusedVariables false
set_option linter.unusedSimpArgs false

end Go.Proofs.YtdmogoaaecdbaaaGreatDoor

namespace Go.Proofs.YtdmogoaaecdbaaaGreatDoor
open Go.RowKit
set_option linter.unusedVariables false
set_option linter.unusedSimpArgs false

end Go.Proofs.YtdmogoaaecdbaaaGreatDoor

namespace Go.Proofs.YtdmogoaaecdbaaaGreatDoor
open Go.RowKit
set_option linter.unusedVariables false
set_option linter.unusedSimpArgs false

end Go.Proofs.YtdmogoaaecdbaaaGreatDoor

namespace Go.Proofs.YtdmogoaaecdbaaaGreatDoor
set_option linter.unusedVariables false
set_option linter.unusedSimpArgs false

end Go.Proofs.YtdmogoaaecdbaaaGreatDoor

namespace Go.Proofs.YtdmogoaaecdbaaaGreatDoor
open Go.RowKit
set_option linter.unusedVariables false
set_option linter.unusedSimpArgs false

theorem bcells_drop (l : List Nat) (k : Nat) : bcells (l.drop k) = (bcells l).drop k := by unfold bcells; rw [List.map_drop]
/-- what a slice from a place on reads -/
theorem Rd.tail {S : Nat → Prop} {w : World} {A : Option Addr} {l : List Nat} {c k : Nat} (h : Rd S w 1 A l.length (bcells l)) (hk : k ≤ l.length) (hc : l.length ≤ c) : Rd S w 1 (if c = k then A else Option.map (fun x => x.add k) A) (l.drop k).length (bcells (l.drop k)) := by
  have hl : (l.drop k).length = l.length - k := List.length_drop
  refine ⟨by unfold bcells; rw [List.length_map]; omega, fun hn => ?_⟩
  rw [hl] at hn
  obtain ⟨b, o, rfl, hS, hb, hx⟩ := h.2 (by omega)
  rw [if_neg (by omega)]
  refine ⟨b, o + k, by simp [Addr.add_lit], hS, hb, fun j u hu => ?_⟩
  rw [bcells_drop, List.getElem?_drop] at hu
  have := hx (k + j) u hu
  rwa [← Nat.add_assoc] at this
end Go.Proofs.YtdmogoaaecdbaaaGreatDoor

namespace Go.Proofs.YtdmogoaaecdbaaaGreatDoor
open Go.RowKit
set_option linter.unusedVariables false
set_option linter.unusedSimpArgs false

/-- a reader, the result's variable at B, the value's at y -/
structure TK (T : TypeId) (S : Nat → Prop) (w W : World) (g : Nat) (A : Option Addr) (c : Nat) (r : Rr) (y : Nat) (u v : Vl) : Prop where
  rd : RrOf T S W g A c r
  sb : ∀ k, S k → k < w.heap.size
  gb : g < w.heap.size
  zv : Blk W w.heap.size 55 #[.int .i64 u.k, .int .i64 u.n, .string u.s]
  yv : Blk W y 55 #[.int .i64 v.k, .int .i64 v.n, .string v.s]
  yb : w.heap.size < y
  up : Upd (fun k => k = g) w W
section
variable {T : TypeId} {S : Nat → Prop} {w W W' : World} {g : Nat} {A : Option Addr} {c : Nat} {r r' : Rr} {y : Nat} {u v : Vl}
theorem TK.call (h : TK T S w W g A c r y u v) (hu : Upd (fun k => k = g) W W') (hr : RrOf T S W' g A c r') : TK T S w W' g A c r' y u v :=
  ⟨hr, h.sb, h.gb, h.zv.upd hu (by have := h.gb; omega), h.yv.upd hu (by have := h.gb; have := h.yb; omega), h.yb, h.up.trans hu fun _ _ h => h⟩
end
set_option maxRecDepth 100000 in
theorem rof_any (n : Int) (w : World) : Calls Tryz.prog 27 #[.int .i64 n] w fun e w' => e = .returned (.agg #[.int .i64 1, .int .i64 n, .string ⟨#[]⟩]) ∧ Below w.heap.size w w' := by
  have hB : Hid (Below w.heap.size w (w.alloc (.cells #[.int .i64 0, .int .i64 0, .string ⟨#[]⟩] 55))) := hid ((Below.refl _ _).alloc (Nat.le_refl _) _)
  have kb := hid (Blk.new w 55 #[.int .i64 0, .int .i64 0, .string ⟨#[]⟩])
  have hn := hid (show w.heap.size < (w.alloc (.cells #[.int .i64 0, .int .i64 0, .string ⟨#[]⟩] 55)).heap.size by simp)
  go_enter Tryz.func27, Tryz.ntmps27
  go_upto_region 1 with fail
  generalize hW : w.alloc (.cells #[.int .i64 0, .int .i64 0, .string ⟨#[]⟩] 55) = W at *
  clear hW
  have fz := fun q => kb.out.frozen q
  have hlt := kb.out.lt
  have z0 := kb.out.cell 0
  have z1 := kb.out.cell 1
  have z2 := kb.out.cell 2
  simp only [List.getElem?_toArray, List.getElem?_cons_zero, List.getElem?_cons_succ] at z0 z1 z2
  go_wp2_with fail
  refine bodyPost_ret (v := .agg #[.int .i64 1, .int .i64 n, .string ⟨#[]⟩]) ?_ rfl ⟨rfl, ?_⟩
  · exact results_cell_row (P := Tryz.prog) rfl _ _ w.heap.size 55 _ (0, 0) _ rfl (show Blk _ _ _ #[.int .i64 1, .int .i64 n, .string ⟨#[]⟩] from by simpa using ((kb.out.set_ 0 _).set_ 1 _).set_ 2 _) Tryz.underlying55 rfl (by kernel_rfl)
  · exact ((hB.out.setCell (p := ⟨w.heap.size, 0, none⟩) (Nat.le_refl _) _).setCell (p := ⟨w.heap.size, 1, none⟩) (Nat.le_refl _) _).setCell (p := ⟨w.heap.size, 2, none⟩) (Nat.le_refl _) _
set_option maxRecDepth 100000 in
theorem of_any (n : Int) (w : World) : Calls Tryz.prog 150 #[.int .i64 n] w fun e w' => e = .returned (.agg #[.int .i64 1, .int .i64 n, .string ⟨#[]⟩]) ∧ Below w.heap.size w w' := by
  have hB : Hid (Below w.heap.size w (w.alloc (.cells #[.int .i64 0, .int .i64 0, .string ⟨#[]⟩] 55))) := hid ((Below.refl _ _).alloc (Nat.le_refl _) _)
  have kb := hid (Blk.new w 55 #[.int .i64 0, .int .i64 0, .string ⟨#[]⟩])
  have hn := hid (show w.heap.size < (w.alloc (.cells #[.int .i64 0, .int .i64 0, .string ⟨#[]⟩] 55)).heap.size by simp)
  go_enter Tryz.func150, Tryz.ntmps150
  go_upto_region 1 with fail
  generalize hW : w.alloc (.cells #[.int .i64 0, .int .i64 0, .string ⟨#[]⟩] 55) = W at *
  clear hW
  have fz := fun q => kb.out.frozen q
  have hlt := kb.out.lt
  have z0 := kb.out.cell 0
  have z1 := kb.out.cell 1
  have z2 := kb.out.cell 2
  simp only [List.getElem?_toArray, List.getElem?_cons_zero, List.getElem?_cons_succ] at z0 z1 z2
  go_wp2_with fail
  refine bodyPost_ret (v := .agg #[.int .i64 1, .int .i64 n, .string ⟨#[]⟩]) ?_ rfl ⟨rfl, ?_⟩
  · exact results_cell_row (P := Tryz.prog) rfl _ _ w.heap.size 55 _ (0, 0) _ rfl (show Blk _ _ _ #[.int .i64 1, .int .i64 n, .string ⟨#[]⟩] from by simpa using ((kb.out.set_ 0 _).set_ 1 _).set_ 2 _) Tryz.underlying55 rfl (by kernel_rfl)
  · exact ((hB.out.setCell (p := ⟨w.heap.size, 0, none⟩) (Nat.le_refl _) _).setCell (p := ⟨w.heap.size, 1, none⟩) (Nat.le_refl _) _).setCell (p := ⟨w.heap.size, 2, none⟩) (Nat.le_refl _) _
set_option maxRecDepth 100000 in
theorem word2_any (s : ByteArray) (w : World) : Calls Tryz.prog 143 #[.string s] w fun e w' => e = .returned (.agg #[.int .i64 2, .int .i64 0, .string s]) ∧ Below w.heap.size w w' := by
  have hB : Hid (Below w.heap.size w (w.alloc (.cells #[.int .i64 0, .int .i64 0, .string ⟨#[]⟩] 55))) := hid ((Below.refl _ _).alloc (Nat.le_refl _) _)
  have kb := hid (Blk.new w 55 #[.int .i64 0, .int .i64 0, .string ⟨#[]⟩])
  have hn := hid (show w.heap.size < (w.alloc (.cells #[.int .i64 0, .int .i64 0, .string ⟨#[]⟩] 55)).heap.size by simp)
  go_enter Tryz.func143, Tryz.ntmps143
  go_upto_region 1 with fail
  generalize hW : w.alloc (.cells #[.int .i64 0, .int .i64 0, .string ⟨#[]⟩] 55) = W at *
  clear hW
  have fz := fun q => kb.out.frozen q
  have hlt := kb.out.lt
  have z0 := kb.out.cell 0
  have z1 := kb.out.cell 1
  have z2 := kb.out.cell 2
  simp only [List.getElem?_toArray, List.getElem?_cons_zero, List.getElem?_cons_succ] at z0 z1 z2
  go_wp2_with fail
  refine bodyPost_ret (v := .agg #[.int .i64 2, .int .i64 0, .string s]) ?_ rfl ⟨rfl, ?_⟩
  · exact results_cell_row (P := Tryz.prog) rfl _ _ w.heap.size 55 _ (0, 0) _ rfl (show Blk _ _ _ #[.int .i64 2, .int .i64 0, .string s] from by simpa using ((kb.out.set_ 0 _).set_ 1 _).set_ 2 _) Tryz.underlying55 rfl (by kernel_rfl)
  · exact ((hB.out.setCell (p := ⟨w.heap.size, 0, none⟩) (Nat.le_refl _) _).setCell (p := ⟨w.heap.size, 1, none⟩) (Nat.le_refl _) _).setCell (p := ⟨w.heap.size, 2, none⟩) (Nat.le_refl _) _

end Go.Proofs.YtdmogoaaecdbaaaGreatDoor

namespace Go.Proofs.YtdmogoaaecdbaaaGreatDoor
open Go.RowKit
set_option linter.unusedVariables false
set_option linter.unusedSimpArgs false

set_option maxRecDepth 100000 in
theorem fails_any (c : Int) (w : World) (h : c ≠ 0) : Calls Tryz.prog 138 #[.int .i64 c] w fun e w' => e = .panicked [{ v := .iface 92 (.agg #[.int .i64 c, .int .i64 0]), recovered := false }] ∧ w' = w := by
  have t0 : (c != 0) = true := by simpa using h
  clear h
  go_enter Tryz.func138, Tryz.ntmps138
  go_wp2_with fail
  exact ⟨rfl, rfl, rfl⟩
set_option maxRecDepth 100000 in
theorem needs_t (c : Int) (w : World) : Calls Tryz.prog 101 #[.bool true, .int .i64 c] w fun e w' => e = .returned (.tuple #[]) ∧ w' = w := by
  go_enter Tryz.func101, Tryz.ntmps101
  go_wp2_with fail
  refine ⟨rfl, .tuple #[], by simp [results, Tryz.results101, go_sem], ?_⟩
  exact ⟨rfl, rfl⟩
set_option maxRecDepth 100000 in
theorem needs_f (c : Int) (w : World) (h : c ≠ 0) : Calls Tryz.prog 101 #[.bool false, .int .i64 c] w fun e w' => e = .panicked [{ v := .iface 92 (.agg #[.int .i64 c, .int .i64 0]), recovered := false }] ∧ w' = w := by
  have hf := hid (fails_any c w h)
  clear h
  go_enter Tryz.func101, Tryz.ntmps101
  go_wp2_with fail
  refine hf.out.mono ?_
  rintro e wq ⟨rfl, hwq⟩
  obtain rfl := hwq.symm
  go_wp2_with fail
  exact ⟨rfl, rfl, rfl⟩
set_option maxRecDepth 100000 in
theorem truth_any (b : Bool) (w : World) : Calls Tryz.prog 140 #[.bool b] w fun e w' => e = .returned (.agg #[.int .i64 (truV b).k, .int .i64 (truV b).n, .string (truV b).s]) ∧ Below w.heap.size w w' := by
  have hof := hid (fun n w => of_any n w)
  have hB0 : Below w.heap.size w (w.alloc (.cells #[.int .i64 0, .int .i64 0, .string ⟨#[]⟩] 55)) := (Below.refl _ _).alloc (Nat.le_refl _) _
  have hB := hid hB0
  have kb := hid (Blk.new w 55 #[.int .i64 0, .int .i64 0, .string ⟨#[]⟩])
  clear hB0
  cases b with
  | true =>
    go_enter Tryz.func140, Tryz.ntmps140
    go_upto_region 2 with fail
    generalize w.alloc (.cells #[.int .i64 0, .int .i64 0, .string ⟨#[]⟩] 55) = w1 at *
    go_wp2_with fail
    refine (hof.out _ _).mono ?_
    rintro e w2 ⟨rfl, hb⟩
    have hb2 := hid (hB.out.trans (hb.mono hB.out.size))
    have k2 := hid (kb.out.below_all hb)
    have z0 := k2.out.cell 0
    have z1 := k2.out.cell 1
    have z2 := k2.out.cell 2
    simp only [List.getElem?_toArray, List.getElem?_cons_zero, List.getElem?_cons_succ] at z0 z1 z2
    have fz := fun q => k2.out.frozen q
    clear hb
    go_wp2_with fail
    refine bodyPost_ret (v := .agg #[.int .i64 1, .int .i64 1, .string ⟨#[]⟩]) ?_ rfl ⟨rfl, ?_⟩
    · exact results_cell_row (P := Tryz.prog) rfl _ _ w.heap.size 55 _ (0, 0) _ rfl (show Blk _ _ _ #[.int .i64 1, .int .i64 1, .string ⟨#[]⟩] from by simpa using ((k2.out.set_ 0 _).set_ 1 _).set_ 2 _) Tryz.underlying55 rfl (by kernel_rfl)
    · exact ((hb2.out.setCell (p := ⟨w.heap.size, 0, none⟩) (Nat.le_refl _) _).setCell (p := ⟨w.heap.size, 1, none⟩) (Nat.le_refl _) _).setCell (p := ⟨w.heap.size, 2, none⟩) (Nat.le_refl _) _
  | false =>
    go_enter Tryz.func140, Tryz.ntmps140
    go_upto_region 3 with fail
    generalize w.alloc (.cells #[.int .i64 0, .int .i64 0, .string ⟨#[]⟩] 55) = w1 at *
    go_wp2_with fail
    refine (hof.out _ _).mono ?_
    rintro e w2 ⟨rfl, hb⟩
    have hb2 := hid (hB.out.trans (hb.mono hB.out.size))
    have k2 := hid (kb.out.below_all hb)
    have z0 := k2.out.cell 0
    have z1 := k2.out.cell 1
    have z2 := k2.out.cell 2
    simp only [List.getElem?_toArray, List.getElem?_cons_zero, List.getElem?_cons_succ] at z0 z1 z2
    have fz := fun q => k2.out.frozen q
    clear hb
    go_wp2_with fail
    refine bodyPost_ret (v := .agg #[.int .i64 1, .int .i64 0, .string ⟨#[]⟩]) ?_ rfl ⟨rfl, ?_⟩
    · exact results_cell_row (P := Tryz.prog) rfl _ _ w.heap.size 55 _ (0, 0) _ rfl (show Blk _ _ _ #[.int .i64 1, .int .i64 0, .string ⟨#[]⟩] from by simpa using ((k2.out.set_ 0 _).set_ 1 _).set_ 2 _) Tryz.underlying55 rfl (by kernel_rfl)
    · exact ((hb2.out.setCell (p := ⟨w.heap.size, 0, none⟩) (Nat.le_refl _) _).setCell (p := ⟨w.heap.size, 1, none⟩) (Nat.le_refl _) _).setCell (p := ⟨w.heap.size, 2, none⟩) (Nat.le_refl _) _
set_option maxRecDepth 100000 in
theorem inumber_t (n : Int) (w : World) : Calls Tryz.prog 147 #[.int .i64 n, .bool true] w fun e w' => e = .returned (.agg #[.int .i64 (numVl n).k, .int .i64 (numVl n).n, .string (numVl n).s]) ∧ Below w.heap.size w w' := by
  have hof := hid (fun n w => of_any n w)
  have hnd := hid (fun w => needs_t 70 w)
  have hB0 : Below w.heap.size w (w.alloc (.cells #[.int .i64 0, .int .i64 0, .string ⟨#[]⟩] 55)) := (Below.refl _ _).alloc (Nat.le_refl _) _
  have hB := hid hB0
  have kb := hid (Blk.new w 55 #[.int .i64 0, .int .i64 0, .string ⟨#[]⟩])
  clear hB0
  go_enter Tryz.func147, Tryz.ntmps147
  go_upto_region 1 with fail
  generalize w.alloc (.cells #[.int .i64 0, .int .i64 0, .string ⟨#[]⟩] 55) = w1 at *
  go_wp2_with fail
  refine (hnd.out _).mono ?_
  rintro e wq ⟨rfl, hwq⟩
  obtain rfl := hwq.symm
  go_wp2_with fail
  refine (hof.out _ _).mono ?_
  rintro e w2 ⟨rfl, hb⟩
  have hb2 := hid (hB.out.trans (hb.mono hB.out.size))
  have k2 := hid (kb.out.below_all hb)
  have z0 := k2.out.cell 0
  have z1 := k2.out.cell 1
  have z2 := k2.out.cell 2
  simp only [List.getElem?_toArray, List.getElem?_cons_zero, List.getElem?_cons_succ] at z0 z1 z2
  have fz := fun q => k2.out.frozen q
  clear hb
  go_wp2_with fail
  refine bodyPost_ret (v := .agg #[.int .i64 1, .int .i64 n, .string ⟨#[]⟩]) ?_ rfl ⟨rfl, ?_⟩
  · exact results_cell_row (P := Tryz.prog) rfl _ _ w.heap.size 55 _ (0, 0) _ rfl (show Blk _ _ _ #[.int .i64 1, .int .i64 n, .string ⟨#[]⟩] from by simpa using ((k2.out.set_ 0 _).set_ 1 _).set_ 2 _) Tryz.underlying55 rfl (by kernel_rfl)
  · exact ((hb2.out.setCell (p := ⟨w.heap.size, 0, none⟩) (Nat.le_refl _) _).setCell (p := ⟨w.heap.size, 1, none⟩) (Nat.le_refl _) _).setCell (p := ⟨w.heap.size, 2, none⟩) (Nat.le_refl _) _
set_option maxRecDepth 100000 in
theorem inumber_f (n : Int) (w : World) : Calls Tryz.prog 147 #[.int .i64 n, .bool false] w fun e w' => e = .panicked [{ v := .iface 92 (.agg #[.int .i64 70, .int .i64 0]), recovered := false }] ∧ Below w.heap.size w w' := by
  have hnd := hid (fun w => needs_f 70 w (by decide))
  have hB0 : Below w.heap.size w (w.alloc (.cells #[.int .i64 0, .int .i64 0, .string ⟨#[]⟩] 55)) := (Below.refl _ _).alloc (Nat.le_refl _) _
  have hB := hid hB0
  have kb := hid (Blk.new w 55 #[.int .i64 0, .int .i64 0, .string ⟨#[]⟩])
  clear hB0
  go_enter Tryz.func147, Tryz.ntmps147
  go_upto_region 1 with fail
  generalize w.alloc (.cells #[.int .i64 0, .int .i64 0, .string ⟨#[]⟩] 55) = w1 at *
  go_wp2_with fail
  refine (hnd.out _).mono ?_
  rintro e wq ⟨rfl, hwq⟩
  obtain rfl := hwq.symm
  go_wp2_with fail
  exact ⟨rfl, rfl, hB.out⟩
/-- numbers: all are, or the run ends -/
def numsE (l : List Vl) : Ending := if l.all (fun v => decide (v.k = 1)) = true then .returned (.tuple #[]) else .panicked [{ v := .iface 92 (.agg #[.int .i64 72, .int .i64 0]), recovered := false }]
set_option maxRecDepth 100000 in
set_option maxHeartbeats 1000000 in
theorem numbers_any {S : Nat → Prop} {A : Option Addr} {c : Nat} (l : List Vl) (w : World) (hr : Rd S w 3 A l.length (vcells l)) (hn : l.length ≤ 100) : Calls Tryz.prog 104 #[.slice A l.length c] w fun e w' => e = numsE l ∧ Below w.heap.size w w' := by
  have hr0 := hid hr.all
  have hnt := hid (fun w => needs_t 72 w)
  have hnf := hid (fun w => needs_f 72 w (by decide))
  have hln := hid hn
  clear hr hn
  go_enter Tryz.func104, Tryz.ntmps104
  go_wp2_with fail
  go_loopw [6] (fun v wr => ∃ i : Nat, v = .int .i64 i ∧ i ≤ l.length ∧ (l.take i).all (fun v => decide (v.k = 1)) = true ∧ Below w.heap.size w wr) (fun v _ => l.length - (intOf v).toNat)
  case atStart => exact ⟨0, rfl, Nat.zero_le _, rfl, Below.refl _ _⟩
  case round =>
    obtain ⟨i, rfl, hil, hall0, hb0⟩ := hrel
    have hall := hid hall0
    have hb := hid hb0
    clear hall0 hb0
    by_cases hlt : i < l.length
    · have i1 : (i : Int) < (l.length : Int) := by omega
      have i2 : IntKind.i64.wrap ((i : Int) + 1) = (i : Int) + 1 := by rw [IntKind.wrap_i64]; have := hln.out; omega
      obtain ⟨b9, o9, hA9, _, y0, y1, y2⟩ := (hr0.out.below_all hb.out).val_at hlt
      obtain rfl := hA9
      have htk : Hid (l.take (i + 1) = l.take i ++ [l[i]'hlt]) := hid (List.take_succ_eq_append_getElem hlt)
      have hme := hid (List.getElem_mem hlt)
      have hk : wr.heap.size = wr.heap.size := rfl
      have kv := hid (Blk.new wr 55 #[.int .i64 (l[i]'hlt).k, .int .i64 (l[i]'hlt).n, .string (l[i]'hlt).s])
      have hb1 : Hid (Below w.heap.size w (wr.alloc (.cells #[.int .i64 (l[i]'hlt).k, .int .i64 (l[i]'hlt).n, .string (l[i]'hlt).s] 55))) := hid (hb.out.alloc hb.out.size _)
      generalize l[i] = v at *
      have hlt9 := hid hlt
      clear hk
      go_upto_region 3 with fail
      generalize wr.alloc (.cells #[.int .i64 v.k, .int .i64 v.n, .string v.s] 55) = w1 at *
      generalize wr.heap.size = m9 at *
      have z0 : w1.cell? ⟨m9, 0, none⟩ = some (.int .i64 v.k) := kv.out.cell 0
      clear y0 y1 y2 hlt hil
      by_cases h1 : v.k = 1
      · have t0 : (v.k == 1) = true := by simpa using h1
        have h1 := hid h1
        go_wp2_with fail
        refine (hnt.out _).mono ?_
        rintro e wq ⟨rfl, hwq⟩
        obtain rfl := hwq.symm
        go_wp2_with fail
        go_roundw
        case rel => exact ⟨i + 1, by go_num, hlt9.out, by rw [htk.out, List.all_append, hall.out]; simp [h1.out], hb1.out⟩
        case measure => simp [intOf]; have := hlt9.out; omega
      · have t0 : (v.k == 1) = false := by simpa using h1
        have h1 := hid h1
        go_wp2_with fail
        refine (hnf.out _).mono ?_
        rintro e wq ⟨rfl, hwq⟩
        obtain rfl := hwq.symm
        go_wp2_with fail
        refine ⟨rfl, ?_, hb1.out⟩
        unfold numsE
        rw [if_neg]
        intro h
        rw [List.all_eq_true] at h
        have := h v hme.out
        exact h1.out (of_decide_eq_true this)
    · obtain rfl : i = l.length := by omega
      rw [List.take_length] at hall
      go_wp2_with fail
      refine ⟨rfl, .tuple #[], by simp [results, Tryz.results104, go_sem], ?_⟩
      refine ⟨?_, hb.out⟩
      unfold numsE
      rw [if_pos hall.out]
/-- a value as a key -/
def keyEnd (v : Vl) : Ending := if keyE v = 0 then .returned (.string v.s) else .panicked [{ v := .iface 92 (.agg #[.int .i64 (keyE v), .int .i64 0]), recovered := false }]
set_option maxRecDepth 100000 in
theorem key_any (v : Vl) (w : World) (hs : v.s.size ≤ 9223372036854775806) : Calls Tryz.prog 145 #[.agg #[.int .i64 v.k, .int .i64 v.n, .string v.s]] w fun e w' => e = keyEnd v ∧ Below w.heap.size w w' := by
  have hnt := hid (fun c w => needs_t c w)
  have hnf := hid (fun c w h => needs_f c w h)
  have hvk := hid (fun w => validk_any v.s w hs)
  have hB0 : Below w.heap.size w (w.alloc (.cells #[.int .i64 v.k, .int .i64 v.n, .string v.s] 55)) := (Below.refl _ _).alloc (Nat.le_refl _) _
  have hB := hid hB0
  have kb := hid (Blk.new w 55 #[.int .i64 v.k, .int .i64 v.n, .string v.s])
  clear hB0 hs
  go_enter Tryz.func145, Tryz.ntmps145
  go_upto_region 1 with fail
  generalize w.alloc (.cells #[.int .i64 v.k, .int .i64 v.n, .string v.s] 55) = w1 at *
  have z0 := kb.out.cell 0
  have z1 := kb.out.cell 1
  have z2 := kb.out.cell 2
  simp only [List.getElem?_toArray, List.getElem?_cons_zero, List.getElem?_cons_succ] at z0 z1 z2
  by_cases h2 : v.k = 2
  · have t0 : (v.k == 2) = true := by simpa using h2
    have h2 := hid h2
    go_wp2_with fail
    refine (hnt.out _ _).mono ?_
    rintro e wq ⟨rfl, hwq⟩
    obtain rfl := hwq.symm
    go_wp2_with fail
    refine (hvk.out _).mono ?_
    rintro e wq ⟨rfl, hwq⟩
    obtain rfl := hwq.symm
    cases hv : validK v.s with
    | true =>
      have hr : Hid (keyEnd v = .returned (.string v.s)) := hid (by have hk : keyE v = 0 := (by unfold keyE; rw [if_neg (by rw [h2.out]; decide), if_neg (by rw [hv]; decide)]); unfold keyEnd; rw [if_pos hk])
      go_wp2_with fail
      refine (hnt.out _ _).mono ?_
      rintro e wq ⟨rfl, hwq⟩
      obtain rfl := hwq.symm
      go_wp2_with fail
      go_ret
      exact ⟨by rw [hr.out]; rfl, hB.out⟩
    | false =>
      have hr : Hid (keyEnd v = .panicked [{ v := .iface 92 (.agg #[.int .i64 30, .int .i64 0]), recovered := false }]) := hid (by have hk : keyE v = 30 := (by unfold keyE; rw [if_neg (by rw [h2.out]; decide), if_pos hv]); unfold keyEnd; rw [if_neg (by rw [hk]; decide), hk])
      go_wp2_with fail
      refine (hnf.out _ _ (by decide)).mono ?_
      rintro e wq ⟨rfl, hwq⟩
      obtain rfl := hwq.symm
      go_wp2_with fail
      exact ⟨rfl, by rw [hr.out], hB.out⟩
  · have t0 : (v.k == 2) = false := by simpa using h2
    have hr : Hid (keyEnd v = .panicked [{ v := .iface 92 (.agg #[.int .i64 72, .int .i64 0]), recovered := false }]) := hid (by have hk : keyE v = 72 := (by unfold keyE; rw [if_pos h2]); unfold keyEnd; rw [if_neg (by rw [hk]; decide), hk])
    clear h2
    go_wp2_with fail
    refine (hnf.out _ _ (by decide)).mono ?_
    rintro e wq ⟨rfl, hwq⟩
    obtain rfl := hwq.symm
    go_wp2_with fail
    exact ⟨rfl, by rw [hr.out], hB.out⟩
theorem wrap_neg {n : Int} (h0 : -9223372036854775808 ≤ n) (h : n < 0) : IntKind.u64.wrap (-(IntKind.u64.wrap n)) = (n.natAbs : Int) := by
  rw [IntKind.wrap_u64, IntKind.wrap_u64]; omega
theorem wrap_pos {n : Int} (h1 : n ≤ 9223372036854775807) (h : 0 ≤ n) : IntKind.u64.wrap n = (n.natAbs : Int) := by
  rw [IntKind.wrap_u64]; omega
set_option maxRecDepth 100000 in
theorem isize_any (n : Int) (w : World) (h0 : -9223372036854775808 ≤ n) (h1 : n ≤ 9223372036854775807) : Calls Tryz.prog 206 #[.int .i64 n] w fun e w' => e = .returned (.int .u64 (n.natAbs : Int)) ∧ w' = w := by
  by_cases h : n < 0
  · have t0 : decide (n < 0) = true := decide_eq_true h
    have hw := wrap_neg h0 h
    clear h h0 h1
    go_enter Tryz.func206, Tryz.ntmps206
    go_wp2_with fail
    go_ret
    exact ⟨rfl, rfl⟩
  · have t0 : decide (n < 0) = false := decide_eq_false h
    have hw := wrap_pos h1 (by omega)
    clear h h0 h1
    go_enter Tryz.func206, Tryz.ntmps206
    go_wp2_with fail
    go_ret
    exact ⟨rfl, rfl⟩
theorem mul_abs (b a : Int) : (decide (b < 0) != decide (a < 0)) = true → b * a = -((b.natAbs * a.natAbs : Nat) : Int) := by
  intro h
  rw [Int.natCast_mul]
  by_cases hb : b < 0
  · have ha : ¬ a < 0 := by intro ha; simp [hb, ha] at h
    rw [show (b.natAbs : Int) = -b by omega, show (a.natAbs : Int) = a by omega, Int.neg_mul, Int.neg_neg]
  · have ha : a < 0 := by
      by_cases ha : a < 0
      · exact ha
      · simp [hb, ha] at h
    rw [show (b.natAbs : Int) = b by omega, show (a.natAbs : Int) = -a by omega, Int.mul_neg, Int.neg_neg]
theorem mul_abs2 (b a : Int) : (decide (b < 0) != decide (a < 0)) = false → b * a = ((b.natAbs * a.natAbs : Nat) : Int) := by
  intro h
  rw [Int.natCast_mul]
  by_cases hb : b < 0
  · have ha : a < 0 := by
      by_cases ha : a < 0
      · exact ha
      · simp [hb, ha] at h
    rw [show (b.natAbs : Int) = -b by omega, show (a.natAbs : Int) = -a by omega, Int.neg_mul_neg]
  · have ha : ¬ a < 0 := by intro ha; simp [hb, ha] at h
    rw [show (b.natAbs : Int) = b by omega, show (a.natAbs : Int) = a by omega]
set_option maxRecDepth 100000 in
set_option maxHeartbeats 1000000 in
theorem product_any (b a : Int) (w : World) (hb : inR b = true) (ha : inR a = true) : Calls Tryz.prog 180 #[.int .i64 b, .int .i64 a] w fun e w' => (∃ x, e = .returned (.tuple #[.int .i64 x, .bool (inR (b * a))]) ∧ (inR (b * a) = true → x = b * a)) ∧ w' = w := by
  rw [inR_iff] at hb ha
  have hs1 := hid (fun w => isize_any b w hb.1 hb.2)
  have hs2 := hid (fun w => isize_any a w ha.1 ha.2)
  have hm := hid (fun w => bits_Mul64 b.natAbs a.natAbs (by omega) (by omega) w)
  obtain ⟨N, hN⟩ : ∃ N : Nat, Hid (b.natAbs * a.natAbs = N) := ⟨_, hid rfl⟩
  rw [hN.out] at hm
  have h1 : ∀ hi, hi = ((N / 18446744073709551616 : Nat) : Int) → ((hi == 0) = true → N < 18446744073709551616) ∧ ((hi == 0) = false → ¬ N < 18446744073709551616) := by
    rintro hi rfl
    constructor
    · intro h; simp at h; omega
    · intro h; simp at h; omega
  have H1 := hid h1
  obtain ⟨hi, hhi⟩ : ∃ x, Hid (x = ((N / 18446744073709551616 : Nat) : Int)) := ⟨_, hid rfl⟩
  obtain ⟨lo, hlo⟩ : ∃ x, Hid (x = ((N % 18446744073709551616 : Nat) : Int)) := ⟨_, hid rfl⟩
  rw [← hhi.out, ← hlo.out] at hm
  have HI := hid (H1.out hi hhi.out)
  clear h1 H1 hhi
  cases sB : decide (b < 0) <;> cases sA : decide (a < 0)
  · have hp := hid (mul_abs2 b a (by rw [sB, sA]; rfl))
    clear hb ha
    cases hz : (hi == 0) with
    | true =>
      have hN2 := hid (HI.out.1 hz)
      by_cases hl : lo < 9223372036854775808
      · have t0 : decide (lo < 9223372036854775808) = true := decide_eq_true hl
        have hr : Hid (inR (b * a) = true) := hid (by rw [hp.out, hN.out, inR_iff]; have := hlo.out; have := hN2.out; omega)
        have hx : Hid (wrap64 lo = b * a) := hid (by rw [← IntWalk.i64_left, hp.out, hN.out, IntKind.wrap_i64]; have := hlo.out; have := hN2.out; omega)
        clear hl
        clear hlo HI
        go_enter Tryz.func180, Tryz.ntmps180
        go_wp2_with fail
        refine (hs1.out _).mono ?_
        rintro e wq ⟨rfl, hwq⟩
        obtain rfl := hwq.symm
        go_wp2_with fail
        refine (hs2.out _).mono ?_
        rintro e wq ⟨rfl, hwq⟩
        obtain rfl := hwq.symm
        go_wp2_with fail
        refine (hm.out _).mono ?_
        rintro e wq ⟨rfl, hwq⟩
        obtain rfl := hwq.symm
        go_wp2_with fail
        go_ret2
        exact ⟨⟨_, by rw [hr.out]; rfl, fun _ => hx.out⟩, rfl⟩
      · have t0 : decide (lo < 9223372036854775808) = false := decide_eq_false hl
        have hr : Hid (inR (b * a) = false) := hid (by rw [hp.out, hN.out]; apply Bool.eq_false_iff.2; rw [ne_eq, inR_iff]; have := hlo.out; have := hN2.out; omega)
        clear hl
        clear hlo HI
        go_enter Tryz.func180, Tryz.ntmps180
        go_wp2_with fail
        refine (hs1.out _).mono ?_
        rintro e wq ⟨rfl, hwq⟩
        obtain rfl := hwq.symm
        go_wp2_with fail
        refine (hs2.out _).mono ?_
        rintro e wq ⟨rfl, hwq⟩
        obtain rfl := hwq.symm
        go_wp2_with fail
        refine (hm.out _).mono ?_
        rintro e wq ⟨rfl, hwq⟩
        obtain rfl := hwq.symm
        go_wp2_with fail
        go_ret2
        exact ⟨⟨_, by rw [hr.out]; rfl, fun h => by rw [hr.out] at h; cases h⟩, rfl⟩
    | false =>
      have hr : Hid (inR (b * a) = false) := hid (by have := HI.out.2 hz; rw [hp.out, hN.out]; apply Bool.eq_false_iff.2; rw [ne_eq, inR_iff]; omega)
      clear hlo HI
      go_enter Tryz.func180, Tryz.ntmps180
      go_wp2_with fail
      refine (hs1.out _).mono ?_
      rintro e wq ⟨rfl, hwq⟩
      obtain rfl := hwq.symm
      go_wp2_with fail
      refine (hs2.out _).mono ?_
      rintro e wq ⟨rfl, hwq⟩
      obtain rfl := hwq.symm
      go_wp2_with fail
      refine (hm.out _).mono ?_
      rintro e wq ⟨rfl, hwq⟩
      obtain rfl := hwq.symm
      go_wp2_with fail
      go_ret2
      exact ⟨⟨_, by rw [hr.out]; rfl, fun h => by rw [hr.out] at h; cases h⟩, rfl⟩
  · have hp := hid (mul_abs b a (by rw [sB, sA]; rfl))
    clear hb ha
    cases hz : (hi == 0) with
    | true =>
      have hN2 := hid (HI.out.1 hz)
      by_cases hl : lo ≤ 9223372036854775808
      · have t0 : decide (lo ≤ 9223372036854775808) = true := decide_eq_true hl
        have hr : Hid (inR (b * a) = true) := hid (by rw [hp.out, hN.out, inR_iff]; have := hlo.out; have := hN2.out; omega)
        have hx : Hid (wrap64 (IntKind.u64.wrap (-lo)) = b * a) := hid (by rw [← IntWalk.i64_left, hp.out, hN.out, IntKind.wrap_i64, IntKind.wrap_u64]; have := hlo.out; have := hN2.out; omega)
        clear hl
        clear hlo HI
        go_enter Tryz.func180, Tryz.ntmps180
        go_wp2_with fail
        refine (hs1.out _).mono ?_
        rintro e wq ⟨rfl, hwq⟩
        obtain rfl := hwq.symm
        go_wp2_with fail
        refine (hs2.out _).mono ?_
        rintro e wq ⟨rfl, hwq⟩
        obtain rfl := hwq.symm
        go_wp2_with fail
        refine (hm.out _).mono ?_
        rintro e wq ⟨rfl, hwq⟩
        obtain rfl := hwq.symm
        go_wp2_with fail
        go_ret2
        exact ⟨⟨_, by rw [hr.out]; rfl, fun _ => hx.out⟩, rfl⟩
      · have t0 : decide (lo ≤ 9223372036854775808) = false := decide_eq_false hl
        have hr : Hid (inR (b * a) = false) := hid (by rw [hp.out, hN.out]; apply Bool.eq_false_iff.2; rw [ne_eq, inR_iff]; have := hlo.out; have := hN2.out; omega)
        clear hl
        clear hlo HI
        go_enter Tryz.func180, Tryz.ntmps180
        go_wp2_with fail
        refine (hs1.out _).mono ?_
        rintro e wq ⟨rfl, hwq⟩
        obtain rfl := hwq.symm
        go_wp2_with fail
        refine (hs2.out _).mono ?_
        rintro e wq ⟨rfl, hwq⟩
        obtain rfl := hwq.symm
        go_wp2_with fail
        refine (hm.out _).mono ?_
        rintro e wq ⟨rfl, hwq⟩
        obtain rfl := hwq.symm
        go_wp2_with fail
        go_ret2
        exact ⟨⟨_, by rw [hr.out]; rfl, fun h => by rw [hr.out] at h; cases h⟩, rfl⟩
    | false =>
      have hr : Hid (inR (b * a) = false) := hid (by have := HI.out.2 hz; rw [hp.out, hN.out]; apply Bool.eq_false_iff.2; rw [ne_eq, inR_iff]; omega)
      clear hlo HI
      go_enter Tryz.func180, Tryz.ntmps180
      go_wp2_with fail
      refine (hs1.out _).mono ?_
      rintro e wq ⟨rfl, hwq⟩
      obtain rfl := hwq.symm
      go_wp2_with fail
      refine (hs2.out _).mono ?_
      rintro e wq ⟨rfl, hwq⟩
      obtain rfl := hwq.symm
      go_wp2_with fail
      refine (hm.out _).mono ?_
      rintro e wq ⟨rfl, hwq⟩
      obtain rfl := hwq.symm
      go_wp2_with fail
      go_ret2
      exact ⟨⟨_, by rw [hr.out]; rfl, fun h => by rw [hr.out] at h; cases h⟩, rfl⟩
  · have hp := hid (mul_abs b a (by rw [sB, sA]; rfl))
    clear hb ha
    cases hz : (hi == 0) with
    | true =>
      have hN2 := hid (HI.out.1 hz)
      by_cases hl : lo ≤ 9223372036854775808
      · have t0 : decide (lo ≤ 9223372036854775808) = true := decide_eq_true hl
        have hr : Hid (inR (b * a) = true) := hid (by rw [hp.out, hN.out, inR_iff]; have := hlo.out; have := hN2.out; omega)
        have hx : Hid (wrap64 (IntKind.u64.wrap (-lo)) = b * a) := hid (by rw [← IntWalk.i64_left, hp.out, hN.out, IntKind.wrap_i64, IntKind.wrap_u64]; have := hlo.out; have := hN2.out; omega)
        clear hl
        clear hlo HI
        go_enter Tryz.func180, Tryz.ntmps180
        go_wp2_with fail
        refine (hs1.out _).mono ?_
        rintro e wq ⟨rfl, hwq⟩
        obtain rfl := hwq.symm
        go_wp2_with fail
        refine (hs2.out _).mono ?_
        rintro e wq ⟨rfl, hwq⟩
        obtain rfl := hwq.symm
        go_wp2_with fail
        refine (hm.out _).mono ?_
        rintro e wq ⟨rfl, hwq⟩
        obtain rfl := hwq.symm
        go_wp2_with fail
        go_ret2
        exact ⟨⟨_, by rw [hr.out]; rfl, fun _ => hx.out⟩, rfl⟩
      · have t0 : decide (lo ≤ 9223372036854775808) = false := decide_eq_false hl
        have hr : Hid (inR (b * a) = false) := hid (by rw [hp.out, hN.out]; apply Bool.eq_false_iff.2; rw [ne_eq, inR_iff]; have := hlo.out; have := hN2.out; omega)
        clear hl
        clear hlo HI
        go_enter Tryz.func180, Tryz.ntmps180
        go_wp2_with fail
        refine (hs1.out _).mono ?_
        rintro e wq ⟨rfl, hwq⟩
        obtain rfl := hwq.symm
        go_wp2_with fail
        refine (hs2.out _).mono ?_
        rintro e wq ⟨rfl, hwq⟩
        obtain rfl := hwq.symm
        go_wp2_with fail
        refine (hm.out _).mono ?_
        rintro e wq ⟨rfl, hwq⟩
        obtain rfl := hwq.symm
        go_wp2_with fail
        go_ret2
        exact ⟨⟨_, by rw [hr.out]; rfl, fun h => by rw [hr.out] at h; cases h⟩, rfl⟩
    | false =>
      have hr : Hid (inR (b * a) = false) := hid (by have := HI.out.2 hz; rw [hp.out, hN.out]; apply Bool.eq_false_iff.2; rw [ne_eq, inR_iff]; omega)
      clear hlo HI
      go_enter Tryz.func180, Tryz.ntmps180
      go_wp2_with fail
      refine (hs1.out _).mono ?_
      rintro e wq ⟨rfl, hwq⟩
      obtain rfl := hwq.symm
      go_wp2_with fail
      refine (hs2.out _).mono ?_
      rintro e wq ⟨rfl, hwq⟩
      obtain rfl := hwq.symm
      go_wp2_with fail
      refine (hm.out _).mono ?_
      rintro e wq ⟨rfl, hwq⟩
      obtain rfl := hwq.symm
      go_wp2_with fail
      go_ret2
      exact ⟨⟨_, by rw [hr.out]; rfl, fun h => by rw [hr.out] at h; cases h⟩, rfl⟩
  · have hp := hid (mul_abs2 b a (by rw [sB, sA]; rfl))
    clear hb ha
    cases hz : (hi == 0) with
    | true =>
      have hN2 := hid (HI.out.1 hz)
      by_cases hl : lo < 9223372036854775808
      · have t0 : decide (lo < 9223372036854775808) = true := decide_eq_true hl
        have hr : Hid (inR (b * a) = true) := hid (by rw [hp.out, hN.out, inR_iff]; have := hlo.out; have := hN2.out; omega)
        have hx : Hid (wrap64 lo = b * a) := hid (by rw [← IntWalk.i64_left, hp.out, hN.out, IntKind.wrap_i64]; have := hlo.out; have := hN2.out; omega)
        clear hl
        clear hlo HI
        go_enter Tryz.func180, Tryz.ntmps180
        go_wp2_with fail
        refine (hs1.out _).mono ?_
        rintro e wq ⟨rfl, hwq⟩
        obtain rfl := hwq.symm
        go_wp2_with fail
        refine (hs2.out _).mono ?_
        rintro e wq ⟨rfl, hwq⟩
        obtain rfl := hwq.symm
        go_wp2_with fail
        refine (hm.out _).mono ?_
        rintro e wq ⟨rfl, hwq⟩
        obtain rfl := hwq.symm
        go_wp2_with fail
        go_ret2
        exact ⟨⟨_, by rw [hr.out]; rfl, fun _ => hx.out⟩, rfl⟩
      · have t0 : decide (lo < 9223372036854775808) = false := decide_eq_false hl
        have hr : Hid (inR (b * a) = false) := hid (by rw [hp.out, hN.out]; apply Bool.eq_false_iff.2; rw [ne_eq, inR_iff]; have := hlo.out; have := hN2.out; omega)
        clear hl
        clear hlo HI
        go_enter Tryz.func180, Tryz.ntmps180
        go_wp2_with fail
        refine (hs1.out _).mono ?_
        rintro e wq ⟨rfl, hwq⟩
        obtain rfl := hwq.symm
        go_wp2_with fail
        refine (hs2.out _).mono ?_
        rintro e wq ⟨rfl, hwq⟩
        obtain rfl := hwq.symm
        go_wp2_with fail
        refine (hm.out _).mono ?_
        rintro e wq ⟨rfl, hwq⟩
        obtain rfl := hwq.symm
        go_wp2_with fail
        go_ret2
        exact ⟨⟨_, by rw [hr.out]; rfl, fun h => by rw [hr.out] at h; cases h⟩, rfl⟩
    | false =>
      have hr : Hid (inR (b * a) = false) := hid (by have := HI.out.2 hz; rw [hp.out, hN.out]; apply Bool.eq_false_iff.2; rw [ne_eq, inR_iff]; omega)
      clear hlo HI
      go_enter Tryz.func180, Tryz.ntmps180
      go_wp2_with fail
      refine (hs1.out _).mono ?_
      rintro e wq ⟨rfl, hwq⟩
      obtain rfl := hwq.symm
      go_wp2_with fail
      refine (hs2.out _).mono ?_
      rintro e wq ⟨rfl, hwq⟩
      obtain rfl := hwq.symm
      go_wp2_with fail
      refine (hm.out _).mono ?_
      rintro e wq ⟨rfl, hwq⟩
      obtain rfl := hwq.symm
      go_wp2_with fail
      go_ret2
      exact ⟨⟨_, by rw [hr.out]; rfl, fun h => by rw [hr.out] at h; cases h⟩, rfl⟩
end Go.Proofs.YtdmogoaaecdbaaaGreatDoor

namespace Go.Proofs.YtdmogoaaecdbaaaGreatDoor
open Go.RowKit
set_option linter.unusedVariables false
set_option linter.unusedSimpArgs false

theorem strOf_bt (l : List Nat) : strOfNums (l.map Int.ofNat) = bt l := by
  unfold strOfNums bt
  rw [List.map_map]
  rfl
theorem convB {S : Nat → Prop} {w : World} {A : Option Addr} {l : List Nat} {n c : Nat} (h : Rd S w 1 A n (bcells l)) (hn : l.length = n) : (convert 114 9 (.slice A n c)).run Tryz.prog w = .ok (.string (bt l)) w := by
  subst hn
  cases l with
  | nil =>
    cases A with
    | none => exact run_convert_bytes_nil w 114 5 Tryz.underlying114 Tryz.underlying5 0 c 9 Tryz.underlying9
    | some a =>
      obtain ⟨b, o, t⟩ := a
      rw [run_convert_bytes_string w 114 9 5 _ _ c Tryz.underlying114 Tryz.underlying5 Tryz.underlying9, run_bytesToString w _ _ c [] (by simp [loadCells, loadCellsFrom])]
      rfl
  | cons x l =>
    obtain ⟨b, o, rfl, _, _, hc⟩ := h.2 (by simp)
    rw [← strOf_bt]
    refine run_convert_bytes_arg w 114 5 Tryz.underlying114 Tryz.underlying5 b o _ c _ (by simp) (fun i hi => hc i _ ?_) 9 Tryz.underlying9
    rw [bcells_at hi]
    have : ((x :: l).map Int.ofNat).getD i 0 = (((x :: l)[i] : Nat) : Int) := by rw [List.getD_eq_getElem?_getD, List.getElem?_map, List.getElem?_eq_getElem hi]; rfl
    rw [this]
/-- what a slice's part reads -/
theorem Rd.part {S : Nat → Prop} {w : World} {A : Option Addr} {l : List Nat} {c k n : Nat} (h : Rd S w 1 A l.length (bcells l)) (hk : k + n ≤ l.length) (hc : l.length ≤ c) : Rd S w 1 (if c = k then A else Option.map (fun x => x.add k) A) n (bcells ((l.drop k).take n)) := by
  have hl : ((l.drop k).take n).length = n := by rw [List.length_take, List.length_drop]; omega
  refine ⟨by unfold bcells; rw [List.length_map]; omega, fun hn => ?_⟩
  obtain ⟨b, o, rfl, hS, hb, hx⟩ := h.2 (by omega)
  rw [if_neg (by omega)]
  refine ⟨b, o + k, by simp [Addr.add_lit], hS, hb, fun j u hu => ?_⟩
  unfold bcells at hu hx
  rw [List.map_take, List.map_drop] at hu
  have hj : j < n := by
    have := (List.getElem?_eq_some_iff.1 hu).1
    simp only [List.length_take, List.length_drop, List.length_map] at this
    omega
  rw [List.getElem?_take_of_lt hj, List.getElem?_drop] at hu
  have := hx (k + j) u hu
  rwa [← Nat.add_assoc] at this
end Go.Proofs.YtdmogoaaecdbaaaGreatDoor

namespace Go.Proofs.YtdmogoaaecdbaaaGreatDoor
open Go.RowKit
set_option linter.unusedVariables false
set_option linter.unusedSimpArgs false

/-- the result's cell at w.heap.size holds u -/
structure VZ (w W : World) (u : Vl) : Prop where
  zv : Blk W w.heap.size 55 #[.int .i64 u.k, .int .i64 u.n, .string u.s]
  bel : Below w.heap.size w W
section
variable {w W W' : World} {u : Vl}
theorem VZ.start (w : World) : VZ w (w.alloc (.cells #[.int .i64 0, .int .i64 0, .string ⟨#[]⟩] 55)) vl0 := ⟨Blk.new w _ _, (Below.refl _ _).alloc (Nat.le_refl _) _⟩
theorem VZ.below (h : VZ w W u) (hb : Below W.heap.size W W') : VZ w W' u := ⟨h.zv.below_all hb, h.bel.trans (hb.mono h.bel.size)⟩
theorem VZ.over {N : Nat} (h : VZ w W u) (hb : Below N W W') (hN : w.heap.size < N) : VZ w W' u := ⟨h.zv.below hb hN, h.bel.trans (hb.mono (by omega))⟩
theorem VZ.set (h : VZ w W u) (u' : Vl) : VZ w (((W.setCell ⟨w.heap.size, 0, none⟩ (.int .i64 u'.k)).setCell ⟨w.heap.size, 1, none⟩ (.int .i64 u'.n)).setCell ⟨w.heap.size, 2, none⟩ (.string u'.s)) u' :=
  ⟨by simpa using ((h.zv.set_ 0 (.int .i64 u'.k)).set_ 1 (.int .i64 u'.n)).set_ 2 (.string u'.s), ((h.bel.setCell (p := ⟨w.heap.size, 0, none⟩) (Nat.le_refl _) _).setCell (p := ⟨w.heap.size, 1, none⟩) (Nat.le_refl _) _).setCell (p := ⟨w.heap.size, 2, none⟩) (Nat.le_refl _) _⟩
theorem VZ.drewN (h : VZ w W u) (n : Nat) : VZ w (W.drewN n) u := ⟨h.zv.drewN n, ⟨h.bel.os, h.bel.tape, h.bel.output, h.bel.size, h.bel.block⟩⟩
theorem VZ.facts (h : VZ w W u) : (∀ q, W.frozen? ⟨w.heap.size, q, none⟩ = false) ∧ w.heap.size < W.heap.size ∧ W.cell? ⟨w.heap.size, 0, none⟩ = some (.int .i64 u.k) ∧ W.cell? ⟨w.heap.size, 1, none⟩ = some (.int .i64 u.n) ∧ W.cell? ⟨w.heap.size, 2, none⟩ = some (.string u.s) :=
  ⟨fun q => h.zv.frozen q, h.zv.lt, h.zv.cell 0, h.zv.cell 1, h.zv.cell 2⟩
end
/-- what Parse leaves -/
def PzOut (p : Pz) (w : World) (e : Ending) (w' : World) : Prop := e = .returned (.tuple #[.agg #[.int .i64 p.v.k, .int .i64 p.v.n, .string p.v.s], .int .i64 p.e, .int .i64 (p.at_ : Nat)]) ∧ Below w.heap.size w w'
end Go.Proofs.YtdmogoaaecdbaaaGreatDoor

namespace Go.Proofs.YtdmogoaaecdbaaaGreatDoor
open Go.RowKit
set_option linter.unusedVariables false
set_option linter.unusedSimpArgs false

structure Env (w : World) : Prop where
  pow : Lib.TabIs Tryz.prog w "internal/strconv.uint64pow10" .u64 Lib.pow10Tab
  rng : ∃ tp p, w.var? Tryz.prog "strconv.ErrRange" = some #[.iface tp p]
  big : 6 ≤ w.heap.size
theorem gPow : Tryz.prog.globalNamed "internal/strconv.uint64pow10" = some 1 := by kernel_rfl
theorem gRng : Tryz.prog.globalNamed "strconv.ErrRange" = some 5 := by kernel_rfl
theorem Env.below {w w' : World} (h : Env w) (hb : Below w.heap.size w w') : Env w' := by
  have h6 := h.big
  obtain ⟨tp, p, hr⟩ := h.rng
  exact ⟨var?_below hb gPow (by omega) h.pow, ⟨tp, p, var?_below hb gRng (by omega) hr⟩, by have := hb.size; omega⟩
theorem Env.over {w w' : World} {N : Nat} (h : Env w) (hb : Below N w w') (hN : 6 ≤ N) : Env w' := by
  have h6 := h.big
  obtain ⟨tp, p, hr⟩ := h.rng
  exact ⟨var?_below hb gPow (by omega) h.pow, ⟨tp, p, var?_below hb gRng (by omega) hr⟩, by have := hb.size; omega⟩
theorem parseI_ok (s : ByteArray) (hs : s.size ≤ 140737488351232) (v : Int) (h : Lib.parseIntB 64 s.data.toList = .ok v) (w : World) :
    Calls Tryz.prog 232 #[.string s, .int .i64 10, .int .i64 64] w fun e w' => e = .returned (.tuple #[.int .i64 v, .nilIface]) ∧ Below w.heap.size w w' := by
  refine (strconv_ParseInt_10_at64_ok s (by omega) v h w).mono ?_
  rintro e w' ⟨rfl, hw⟩
  refine ⟨rfl, ?_⟩
  rcases hw with rfl | ⟨t, rfl⟩
  · exact Below.refl _ _
  · exact Lib.bytesWorld_below _ _ _
theorem parseI_rng (s : ByteArray) (hs : s.size ≤ 140737488351232) (h : Lib.parseIntB 64 s.data.toList = .range) (w : World) (he : Env w) :
    Calls Tryz.prog 232 #[.string s, .int .i64 10, .int .i64 64] w fun e w' => ∃ n N, e = .returned (.tuple #[.int .i64 n, .iface 288 (.pointer (some ⟨N, 0, none⟩))]) ∧ Below w.heap.size w w' := by
  obtain ⟨tp, p, hr⟩ := he.rng
  refine (strconv_ParseInt_10_at64_range_var s (by omega) h tp p w hr).mono ?_
  rintro e w' ⟨N, rfl, _, _, hb⟩
  exact ⟨_, N, rfl, hb⟩
theorem fmt_any (n : Int) (h0 : -9223372036854775808 ≤ n) (h1 : n ≤ 9223372036854775807) (w : World) (he : Env w) :
    Calls Tryz.prog 121 #[.int .i64 n, .int .i64 10] w fun e w' => e = .returned (.string ⟨(Lib.itoa n).toArray⟩) ∧ Below w.heap.size w w' := by
  refine (strconv_FormatInt_10 n h0 h1 w he.pow).mono ?_
  rintro e w' ⟨rfl, k, os, rfl⟩
  exact ⟨rfl, rfl, rfl, rfl, by rw [Sort.size_grow]; exact Nat.le_add_right _ _, fun b hb => Array.getElem?_append_left (show b < w.heap.size from hb)⟩
end Go.Proofs.YtdmogoaaecdbaaaGreatDoor

namespace Go.Proofs.YtdmogoaaecdbaaaGreatDoor
open Go.RowKit
set_option linter.unusedVariables false
set_option linter.unusedSimpArgs false

/-- what a run does not change: the program, the arguments, what may be read -/
structure Fr where
  p : Pr
  args : List Vl
  src : List Kv
  Ac : Option Addr
  cc : Nat
  Ai : Option Addr
  ci : Nat
  Aa : Option Addr
  ca : Nat
  Al : Option Addr
  cl : Nat
  sb : Nat
def wrV (x : Wr) : Value := .agg #[.string x.key, .bool x.gone, .int .i64 x.v.k, .int .i64 x.v.n, .string x.v.s]
def cntK (k : ByteArray) (rs : List ByteArray) : Nat := rs.countP fun j => decide (j = k)
/-- what the maps have -/
def Drd (rs : List ByteArray) (k : ByteArray) : Option Value := if memB k rs = true then some (.int .i64 (cntK k rs : Nat)) else none
def Dwr (ws : List Wr) (k : ByteArray) : Option Value := (getW k ws).map wrV
def srcCells (l : List Kv) : List Value := l.flatMap fun x => [.string x.1, .int .i64 x.2.k, .int .i64 x.2.n, .string x.2.s]
def stepCells (l : List Nat) : List Value := l.map fun n => .int .i64 (n : Nat)
def Fr.sv (F : Fr) : Value := .iface 41 (.pointer (some ⟨F.sb, 0, none⟩))
/-- the addresses of a run's rows and maps -/
structure Ad where
  A1 : Option Addr
  c1 : Nat
  A2 : Option Addr
  c2 : Nat
  A3 : Option Addr
  c3 : Nat
  A4 : Option Addr
  c4 : Nat
  rm : Nat
  wm : Nat
  rs : List ByteArray
def mCells (F : Fr) (m : Mc) (a : Ad) : Array Value := #[.int .i64 F.p.args, .slice F.Ac F.p.cs.length F.cc, .slice F.Ai F.p.code.length F.ci, .slice F.Aa F.args.length F.ca, F.sv, .slice a.A1 m.st.length a.c1, .int .i64 (m.at_ : Nat), .int .i64 (m.fuel : Nat), .slice a.A2 m.steps.length a.c2, .slice a.A3 m.out.length a.c3, .map (some a.rm), .map (some a.wm)]
def sCells (F : Fr) (m : Mc) (a : Ad) : Array Value := #[.slice F.Al F.src.length F.cl, .slice a.A4 m.reads.length a.c4]
/-- the machine lies at block g; the blocks that a run may write are in S -/
structure MIn (S : Nat → Prop) (w : World) (g : Nat) (F : Fr) (m : Mc) (a : Ad) : Prop where
  blk : Blk w g 97 (mCells F m a)
  sblk : Blk w F.sb 50 (sCells F m a)
  st : OwnS S w 55 3 (.slice a.A1 m.st.length a.c1) m.st.length (vcells m.st.reverse)
  steps : OwnS S w 3 1 (.slice a.A2 m.steps.length a.c2) m.steps.length (stepCells m.steps)
  out : OwnS S w 55 3 (.slice a.A3 m.out.length a.c3) m.out.length (vcells m.out)
  asked : OwnS S w 9 1 (.slice a.A4 m.reads.length a.c4) m.reads.length (strs m.reads)
  rm : MapF strE w a.rm (Drd a.rs)
  wm : MapF strE w a.wm (Dwr m.writes)
  ne : a.rm ≠ a.wm ∧ ∀ q, (Value.slice a.A1 m.st.length a.c1).ownBlock = some q → (Value.slice a.A3 m.out.length a.c3).ownBlock ≠ some q
  inS : S g ∧ S F.sb ∧ S a.rm ∧ S a.wm
  lt : ∀ q, S q → q < w.heap.size
  code : PrIn (fun q => ¬ S q) w F.Ac F.Ai F.p
  args : Rd (fun q => ¬ S q) w 3 F.Aa F.args.length (vcells F.args)
  src : Rd (fun q => ¬ S q) w 4 F.Al F.src.length (srcCells F.src)
  env : ∀ W, Upd S w W → Env W
def MAt (S : Nat → Prop) (w : World) (g : Nat) (F : Fr) (m : Mc) : Prop := ∃ a, MIn S w g F m a ∧ a.rs = m.reads
def MGo (S : Nat → Prop) (w : World) (g : Nat) (F : Fr) (m' : Mc) (w' : World) : Prop := ∃ S', MAt S' w' g F m' ∧ (∀ q, S' q → S q ∨ w.heap.size ≤ q) ∧ (∀ q, S q → S' q) ∧ Upd S w w'
section
variable {S : Nat → Prop} {w w' w'' : World} {g : Nat} {F : Fr} {m m' : Mc} {a : Ad}
theorem MIn.keep (h : MIn S w g F m a) (hb : Below w.heap.size w w') : MIn S w' g F m a :=
  ⟨h.blk.below_all hb, h.sblk.below_all hb, h.st.keep fun q _ hl => hb.block q hl, h.steps.keep fun q _ hl => hb.block q hl, h.out.keep fun q _ hl => hb.block q hl, h.asked.keep fun q _ hl => hb.block q hl, h.rm.below hb, h.wm.below hb, h.ne, h.inS, fun q hq => Nat.lt_of_lt_of_le (h.lt q hq) hb.size, h.code.below hb, h.args.below_all hb, h.src.below_all hb, fun W hW => h.env W ((Upd.of_below (M := S) hb fun k hk hs => absurd hk (by omega)).trans hW fun b _ hs => hs)⟩
theorem MAt.below (h : MAt S w g F m) (hb : Below w.heap.size w w') : MAt S w' g F m := by obtain ⟨a, h, e⟩ := h; exact ⟨a, h.keep hb, e⟩
theorem MAt.lt (h : MAt S w g F m) : ∀ q, S q → q < w.heap.size := by obtain ⟨a, h, _⟩ := h; exact h.lt
theorem MAt.env (h : MAt S w g F m) : Env w := by obtain ⟨a, h, _⟩ := h; exact h.env w (Upd.refl _ _)
theorem MAt.go (h : MAt S w g F m) (hb : Below w.heap.size w w') : MGo S w g F m w' := ⟨S, h.below hb, fun _ h => .inl h, fun _ h => h, Upd.of_below (M := S) hb fun k hk hs => absurd hk (by omega)⟩
theorem own_blk {e : TypeId} {size n q : Nat} {v : Value} {xs : List Value} (h : OwnS S w e size v n xs) (hq : v.ownBlock = some q) : ∃ cur, Blk w q e cur := by
  rcases h.1.2 with ⟨hv, _⟩ | ⟨g, cap, cur, hv, _, hh, _⟩
  · subst hv; cases hq
  · subst hv
    injection hq with hq
    subst hq
    exact ⟨cur, hh⟩
theorem blk_ty {q : Nat} {t t' : TypeId} {cs cs' : Array Value} (h : Blk w q t cs) (h' : Blk w q t' cs') : t = t' := by
  have h : w.heap[q]? = _ := h
  have h' : w.heap[q]? = _ := h'
  rw [h] at h'
  injection h' with h'
  injection h' with _ ht
theorem OwnS.keepO {e : TypeId} {size n : Nat} {v : Value} {xs : List Value} (h : OwnS S w e size v n xs) (hk : ∀ q, v.ownBlock = some q → w'.heap[q]? = w.heap[q]?) : OwnS S w' e size v n xs := by
  refine ⟨⟨h.1.1, ?_⟩, h.2⟩
  rcases h.1.2 with hn | ⟨g, cap, cur, rfl, hg, hh, rest⟩
  · exact .inl hn
  · exact .inr ⟨g, cap, cur, rfl, hg, (hk g rfl).trans hh, rest⟩
theorem own_pop {e : TypeId} {size n k c : Nat} {A : Option Addr} {xs : List Value} (h : OwnS S w e size (.slice A n c) n xs) (hk : k ≤ n) (hn : 0 < n) : OwnS S w e size (.slice A k c) k (xs.take (k * size)) := by
  obtain ⟨⟨h1, h2⟩, h3⟩ := h
  rcases h2 with ⟨hv, h0⟩ | ⟨q, cap, cur, hv, hb, hh, h4, h5, h6, h7⟩
  · omega
  · injection hv with e1 _ e3
    subst e1 e3
    have hk2 : k * size ≤ n * size := Nat.mul_le_mul_right _ hk
    refine ⟨⟨by rw [List.length_take, h1]; omega, .inr ⟨q, c, cur, rfl, hb, hh, by omega, h5, h6, ?_⟩⟩, fun b hb => h3 b hb⟩
    rw [← h7, List.take_take, Nat.min_eq_left hk2]
theorem MIn.onSt {M S' : Nat → Prop} (h : MIn S w g F m a) (hu : Upd M w w') (hM : ∀ q, q < w.heap.size → M q → q = g ∨ (Value.slice a.A1 m.st.length a.c1).ownBlock = some q) (hS1 : ∀ q, S q → S' q) (hS2 : ∀ q, S' q → S q ∨ w.heap.size ≤ q) (hS3 : ∀ q, S' q → q < w'.heap.size) {st' : List Vl} {at' fu' : Nat} {A' : Option Addr} {c' : Nat} (hb : Blk w' g 97 (mCells F { m with st := st', at_ := at', fuel := fu' } { a with A1 := A', c1 := c' })) (hst : OwnS S' w' 55 3 (.slice A' st'.length c') st'.length (vcells st'.reverse)) (hne : a.rm ≠ a.wm ∧ ∀ q, (Value.slice A' st'.length c').ownBlock = some q → (Value.slice a.A3 m.out.length a.c3).ownBlock ≠ some q) : MIn S' w' g F { m with st := st', at_ := at', fuel := fu' } { a with A1 := A', c1 := c' } := by
  have hin : ∀ q, q < w.heap.size → M q → S q := fun q hl hq => by
    rcases hM q hl hq with e | e
    · exact e ▸ h.inS.1
    · exact h.st.2 q e
  have ho : ∀ q, ¬ S q → ¬ M q ∨ w.heap.size ≤ q := fun q hq => by
    by_cases hl : q < w.heap.size
    · exact .inl fun hm => hq (hin q hl hm)
    · exact .inr (by omega)
  have hn : ∀ q, ¬ S q → q < w.heap.size → ¬ S' q := fun q hq hl hs => by
    rcases hS2 q hs with e | e
    · exact hq e
    · omega
  have hu' : Upd S w w' := ⟨hu.os, hu.tape, hu.output, hu.size, fun k hk hs => hu.block k hk fun hm => hs (hin k hk hm)⟩
  refine ⟨?_, ?_, ?_, ?_, ?_, ?_, ?_, ?_, ?_, ⟨hS1 _ h.inS.1, hS1 _ h.inS.2.1, hS1 _ h.inS.2.2.1, hS1 _ h.inS.2.2.2⟩, hS3, ⟨?_, ?_, h.code.t, h.code.l⟩, ?_, ?_, fun W hW => h.env W (hu'.trans hW fun b hl hb => by rcases hS2 b hb with e | e; exact e; omega)⟩
  · exact hb
  · exact h.sblk.upd hu fun hq => by
      have e := hM _ h.sblk.lt hq
      rcases e with e | e
      · exact absurd (blk_ty (e ▸ h.sblk) h.blk) (by decide)
      · obtain ⟨cur, hc⟩ := own_blk h.st e; exact absurd (blk_ty hc h.sblk) (by decide)
  · exact hst
  · exact (h.steps.keepT fun q cs hy => by
      have hl := (Array.getElem?_eq_some_iff.1 hy).1
      refine hu.block q hl fun hq => ?_
      have e := hM _ hl hq
      rcases e with e | e
      · exact absurd (blk_ty (e ▸ hy) h.blk) (by decide)
      · obtain ⟨cur, hc⟩ := own_blk h.st e; exact absurd (blk_ty hc hy) (by decide)).more fun q hq _ => hS1 q hq
  · exact (h.out.keepO fun q ho => by
      obtain ⟨cur, hy⟩ := own_blk h.out ho
      have hl := (Array.getElem?_eq_some_iff.1 hy).1
      refine hu.block q hl fun hq => ?_
      have e := hM _ hl hq
      rcases e with e | e
      · exact absurd (blk_ty (e ▸ hy) h.blk) (by decide)
      · exact h.ne.2 _ e ho).more fun q hq _ => hS1 q hq
  · exact (h.asked.keepT fun q cs hy => by
      have hl := (Array.getElem?_eq_some_iff.1 hy).1
      refine hu.block q hl fun hq => ?_
      have e := hM _ hl hq
      rcases e with e | e
      · exact absurd (blk_ty (e ▸ hy) h.blk) (by decide)
      · obtain ⟨cur, hc⟩ := own_blk h.st e; exact absurd (blk_ty hc hy) (by decide)).more fun q hq _ => hS1 q hq
  · exact h.rm.upd hu fun hq => by
      have e := hM _ h.rm.lt hq
      rcases e with e | e
      · exact h.rm.ne_blk h.blk e
      · obtain ⟨cur, hc⟩ := own_blk h.st e; exact h.rm.ne_blk hc rfl
  · exact h.wm.upd hu fun hq => by
      have e := hM _ h.wm.lt hq
      rcases e with e | e
      · exact h.wm.ne_blk h.blk e
      · obtain ⟨cur, hc⟩ := own_blk h.st e; exact h.wm.ne_blk hc rfl
  · exact hne
  · exact ((h.code.c.more (S' := fun q => ¬ S q ∧ ¬ S' q) fun q hq hl => ⟨hq, hn q hq hl⟩).upd hu' fun q hq hs => hq.1 hs).more fun q hq _ => hq.2
  · exact ((h.code.i.more (S' := fun q => ¬ S q ∧ ¬ S' q) fun q hq hl => ⟨hq, hn q hq hl⟩).upd hu' fun q hq hs => hq.1 hs).more fun q hq _ => hq.2
  · exact ((h.args.more (S' := fun q => ¬ S q ∧ ¬ S' q) fun q hq hl => ⟨hq, hn q hq hl⟩).upd hu' fun q hq hs => hq.1 hs).more fun q hq _ => hq.2
  · exact ((h.src.more (S' := fun q => ¬ S q ∧ ¬ S' q) fun q hq hl => ⟨hq, hn q hq hl⟩).upd hu' fun q hq hs => hq.1 hs).more fun q hq _ => hq.2
theorem MIn.onSteps {M S' : Nat → Prop} (h : MIn S w g F m a) (hu : Upd M w w') (hM : ∀ q, q < w.heap.size → M q → q = g ∨ (Value.slice a.A2 m.steps.length a.c2).ownBlock = some q) (hS1 : ∀ q, S q → S' q) (hS2 : ∀ q, S' q → S q ∨ w.heap.size ≤ q) (hS3 : ∀ q, S' q → q < w'.heap.size) {l' : List Nat} {A' : Option Addr} {c' : Nat} (hb : Blk w' g 97 (mCells F { m with steps := l' } { a with A2 := A', c2 := c' })) (hst : OwnS S' w' 3 1 (.slice A' l'.length c') l'.length (stepCells l')) : MIn S' w' g F { m with steps := l' } { a with A2 := A', c2 := c' } := by
  have hin : ∀ q, q < w.heap.size → M q → S q := fun q hl hq => by
    rcases hM q hl hq with e | e
    · exact e ▸ h.inS.1
    · exact h.steps.2 q e
  have ho : ∀ q, ¬ S q → ¬ M q ∨ w.heap.size ≤ q := fun q hq => by
    by_cases hl : q < w.heap.size
    · exact .inl fun hm => hq (hin q hl hm)
    · exact .inr (by omega)
  have hn : ∀ q, ¬ S q → q < w.heap.size → ¬ S' q := fun q hq hl hs => by
    rcases hS2 q hs with e | e
    · exact hq e
    · omega
  have hu' : Upd S w w' := ⟨hu.os, hu.tape, hu.output, hu.size, fun k hk hs => hu.block k hk fun hm => hs (hin k hk hm)⟩
  refine ⟨?_, ?_, ?_, ?_, ?_, ?_, ?_, ?_, ?_, ⟨hS1 _ h.inS.1, hS1 _ h.inS.2.1, hS1 _ h.inS.2.2.1, hS1 _ h.inS.2.2.2⟩, hS3, ⟨?_, ?_, h.code.t, h.code.l⟩, ?_, ?_, fun W hW => h.env W (hu'.trans hW fun b hl hb => by rcases hS2 b hb with e | e; exact e; omega)⟩
  · exact hb
  · exact h.sblk.upd hu fun hq => by
      have e := hM _ h.sblk.lt hq
      rcases e with e | e
      · exact absurd (blk_ty (e ▸ h.sblk) h.blk) (by decide)
      · obtain ⟨cur, hc⟩ := own_blk h.steps e; exact absurd (blk_ty hc h.sblk) (by decide)
  · exact (h.st.keepT fun q cs hy => by
      have hl := (Array.getElem?_eq_some_iff.1 hy).1
      refine hu.block q hl fun hq => ?_
      have e := hM _ hl hq
      rcases e with e | e
      · exact absurd (blk_ty (e ▸ hy) h.blk) (by decide)
      · obtain ⟨cur, hc⟩ := own_blk h.steps e; exact absurd (blk_ty hc hy) (by decide)).more fun q hq _ => hS1 q hq
  · exact hst
  · exact (h.out.keepT fun q cs hy => by
      have hl := (Array.getElem?_eq_some_iff.1 hy).1
      refine hu.block q hl fun hq => ?_
      have e := hM _ hl hq
      rcases e with e | e
      · exact absurd (blk_ty (e ▸ hy) h.blk) (by decide)
      · obtain ⟨cur, hc⟩ := own_blk h.steps e; exact absurd (blk_ty hc hy) (by decide)).more fun q hq _ => hS1 q hq
  · exact (h.asked.keepT fun q cs hy => by
      have hl := (Array.getElem?_eq_some_iff.1 hy).1
      refine hu.block q hl fun hq => ?_
      have e := hM _ hl hq
      rcases e with e | e
      · exact absurd (blk_ty (e ▸ hy) h.blk) (by decide)
      · obtain ⟨cur, hc⟩ := own_blk h.steps e; exact absurd (blk_ty hc hy) (by decide)).more fun q hq _ => hS1 q hq
  · exact h.rm.upd hu fun hq => by
      have e := hM _ h.rm.lt hq
      rcases e with e | e
      · exact h.rm.ne_blk h.blk e
      · obtain ⟨cur, hc⟩ := own_blk h.steps e; exact h.rm.ne_blk hc rfl
  · exact h.wm.upd hu fun hq => by
      have e := hM _ h.wm.lt hq
      rcases e with e | e
      · exact h.wm.ne_blk h.blk e
      · obtain ⟨cur, hc⟩ := own_blk h.steps e; exact h.wm.ne_blk hc rfl
  · exact h.ne
  · exact ((h.code.c.more (S' := fun q => ¬ S q ∧ ¬ S' q) fun q hq hl => ⟨hq, hn q hq hl⟩).upd hu' fun q hq hs => hq.1 hs).more fun q hq _ => hq.2
  · exact ((h.code.i.more (S' := fun q => ¬ S q ∧ ¬ S' q) fun q hq hl => ⟨hq, hn q hq hl⟩).upd hu' fun q hq hs => hq.1 hs).more fun q hq _ => hq.2
  · exact ((h.args.more (S' := fun q => ¬ S q ∧ ¬ S' q) fun q hq hl => ⟨hq, hn q hq hl⟩).upd hu' fun q hq hs => hq.1 hs).more fun q hq _ => hq.2
  · exact ((h.src.more (S' := fun q => ¬ S q ∧ ¬ S' q) fun q hq hl => ⟨hq, hn q hq hl⟩).upd hu' fun q hq hs => hq.1 hs).more fun q hq _ => hq.2
theorem MIn.onOut {M S' : Nat → Prop} (h : MIn S w g F m a) (hu : Upd M w w') (hM : ∀ q, q < w.heap.size → M q → q = g ∨ (Value.slice a.A3 m.out.length a.c3).ownBlock = some q) (hS1 : ∀ q, S q → S' q) (hS2 : ∀ q, S' q → S q ∨ w.heap.size ≤ q) (hS3 : ∀ q, S' q → q < w'.heap.size) {l' : List Vl} {A' : Option Addr} {c' : Nat} (hb : Blk w' g 97 (mCells F { m with out := l' } { a with A3 := A', c3 := c' })) (hst : OwnS S' w' 55 3 (.slice A' l'.length c') l'.length (vcells l')) (hne : a.rm ≠ a.wm ∧ ∀ q, (Value.slice a.A1 m.st.length a.c1).ownBlock = some q → (Value.slice A' l'.length c').ownBlock ≠ some q) : MIn S' w' g F { m with out := l' } { a with A3 := A', c3 := c' } := by
  have hin : ∀ q, q < w.heap.size → M q → S q := fun q hl hq => by
    rcases hM q hl hq with e | e
    · exact e ▸ h.inS.1
    · exact h.out.2 q e
  have ho : ∀ q, ¬ S q → ¬ M q ∨ w.heap.size ≤ q := fun q hq => by
    by_cases hl : q < w.heap.size
    · exact .inl fun hm => hq (hin q hl hm)
    · exact .inr (by omega)
  have hn : ∀ q, ¬ S q → q < w.heap.size → ¬ S' q := fun q hq hl hs => by
    rcases hS2 q hs with e | e
    · exact hq e
    · omega
  have hu' : Upd S w w' := ⟨hu.os, hu.tape, hu.output, hu.size, fun k hk hs => hu.block k hk fun hm => hs (hin k hk hm)⟩
  refine ⟨?_, ?_, ?_, ?_, ?_, ?_, ?_, ?_, ?_, ⟨hS1 _ h.inS.1, hS1 _ h.inS.2.1, hS1 _ h.inS.2.2.1, hS1 _ h.inS.2.2.2⟩, hS3, ⟨?_, ?_, h.code.t, h.code.l⟩, ?_, ?_, fun W hW => h.env W (hu'.trans hW fun b hl hb => by rcases hS2 b hb with e | e; exact e; omega)⟩
  · exact hb
  · exact h.sblk.upd hu fun hq => by
      have e := hM _ h.sblk.lt hq
      rcases e with e | e
      · exact absurd (blk_ty (e ▸ h.sblk) h.blk) (by decide)
      · obtain ⟨cur, hc⟩ := own_blk h.out e; exact absurd (blk_ty hc h.sblk) (by decide)
  · exact (h.st.keepO fun q ho => by
      obtain ⟨cur, hy⟩ := own_blk h.st ho
      have hl := (Array.getElem?_eq_some_iff.1 hy).1
      refine hu.block q hl fun hq => ?_
      have e := hM _ hl hq
      rcases e with e | e
      · exact absurd (blk_ty (e ▸ hy) h.blk) (by decide)
      · exact h.ne.2 _ ho e).more fun q hq _ => hS1 q hq
  · exact (h.steps.keepT fun q cs hy => by
      have hl := (Array.getElem?_eq_some_iff.1 hy).1
      refine hu.block q hl fun hq => ?_
      have e := hM _ hl hq
      rcases e with e | e
      · exact absurd (blk_ty (e ▸ hy) h.blk) (by decide)
      · obtain ⟨cur, hc⟩ := own_blk h.out e; exact absurd (blk_ty hc hy) (by decide)).more fun q hq _ => hS1 q hq
  · exact hst
  · exact (h.asked.keepT fun q cs hy => by
      have hl := (Array.getElem?_eq_some_iff.1 hy).1
      refine hu.block q hl fun hq => ?_
      have e := hM _ hl hq
      rcases e with e | e
      · exact absurd (blk_ty (e ▸ hy) h.blk) (by decide)
      · obtain ⟨cur, hc⟩ := own_blk h.out e; exact absurd (blk_ty hc hy) (by decide)).more fun q hq _ => hS1 q hq
  · exact h.rm.upd hu fun hq => by
      have e := hM _ h.rm.lt hq
      rcases e with e | e
      · exact h.rm.ne_blk h.blk e
      · obtain ⟨cur, hc⟩ := own_blk h.out e; exact h.rm.ne_blk hc rfl
  · exact h.wm.upd hu fun hq => by
      have e := hM _ h.wm.lt hq
      rcases e with e | e
      · exact h.wm.ne_blk h.blk e
      · obtain ⟨cur, hc⟩ := own_blk h.out e; exact h.wm.ne_blk hc rfl
  · exact hne
  · exact ((h.code.c.more (S' := fun q => ¬ S q ∧ ¬ S' q) fun q hq hl => ⟨hq, hn q hq hl⟩).upd hu' fun q hq hs => hq.1 hs).more fun q hq _ => hq.2
  · exact ((h.code.i.more (S' := fun q => ¬ S q ∧ ¬ S' q) fun q hq hl => ⟨hq, hn q hq hl⟩).upd hu' fun q hq hs => hq.1 hs).more fun q hq _ => hq.2
  · exact ((h.args.more (S' := fun q => ¬ S q ∧ ¬ S' q) fun q hq hl => ⟨hq, hn q hq hl⟩).upd hu' fun q hq hs => hq.1 hs).more fun q hq _ => hq.2
  · exact ((h.src.more (S' := fun q => ¬ S q ∧ ¬ S' q) fun q hq hl => ⟨hq, hn q hq hl⟩).upd hu' fun q hq hs => hq.1 hs).more fun q hq _ => hq.2
theorem MIn.onAsk {M S' : Nat → Prop} (h : MIn S w g F m a) (hu : Upd M w w') (hM : ∀ q, q < w.heap.size → M q → q = F.sb ∨ (Value.slice a.A4 m.reads.length a.c4).ownBlock = some q) (hS1 : ∀ q, S q → S' q) (hS2 : ∀ q, S' q → S q ∨ w.heap.size ≤ q) (hS3 : ∀ q, S' q → q < w'.heap.size) {l' : List ByteArray} {A' : Option Addr} {c' : Nat} (hb : Blk w' F.sb 50 (sCells F { m with reads := l' } { a with A4 := A', c4 := c' })) (hst : OwnS S' w' 9 1 (.slice A' l'.length c') l'.length (strs l')) : MIn S' w' g F { m with reads := l' } { a with A4 := A', c4 := c' } := by
  have hin : ∀ q, q < w.heap.size → M q → S q := fun q hl hq => by
    rcases hM q hl hq with e | e
    · exact e ▸ h.inS.2.1
    · exact h.asked.2 q e
  have ho : ∀ q, ¬ S q → ¬ M q ∨ w.heap.size ≤ q := fun q hq => by
    by_cases hl : q < w.heap.size
    · exact .inl fun hm => hq (hin q hl hm)
    · exact .inr (by omega)
  have hn : ∀ q, ¬ S q → q < w.heap.size → ¬ S' q := fun q hq hl hs => by
    rcases hS2 q hs with e | e
    · exact hq e
    · omega
  have hu' : Upd S w w' := ⟨hu.os, hu.tape, hu.output, hu.size, fun k hk hs => hu.block k hk fun hm => hs (hin k hk hm)⟩
  refine ⟨?_, ?_, ?_, ?_, ?_, ?_, ?_, ?_, ?_, ⟨hS1 _ h.inS.1, hS1 _ h.inS.2.1, hS1 _ h.inS.2.2.1, hS1 _ h.inS.2.2.2⟩, hS3, ⟨?_, ?_, h.code.t, h.code.l⟩, ?_, ?_, fun W hW => h.env W (hu'.trans hW fun b hl hb => by rcases hS2 b hb with e | e; exact e; omega)⟩
  · exact h.blk.upd hu fun hq => by
      have e := hM _ h.blk.lt hq
      rcases e with e | e
      · exact absurd (blk_ty (e ▸ h.blk) h.sblk) (by decide)
      · obtain ⟨cur, hc⟩ := own_blk h.asked e; exact absurd (blk_ty hc h.blk) (by decide)
  · exact hb
  · exact (h.st.keepT fun q cs hy => by
      have hl := (Array.getElem?_eq_some_iff.1 hy).1
      refine hu.block q hl fun hq => ?_
      have e := hM _ hl hq
      rcases e with e | e
      · exact absurd (blk_ty (e ▸ hy) h.sblk) (by decide)
      · obtain ⟨cur, hc⟩ := own_blk h.asked e; exact absurd (blk_ty hc hy) (by decide)).more fun q hq _ => hS1 q hq
  · exact (h.steps.keepT fun q cs hy => by
      have hl := (Array.getElem?_eq_some_iff.1 hy).1
      refine hu.block q hl fun hq => ?_
      have e := hM _ hl hq
      rcases e with e | e
      · exact absurd (blk_ty (e ▸ hy) h.sblk) (by decide)
      · obtain ⟨cur, hc⟩ := own_blk h.asked e; exact absurd (blk_ty hc hy) (by decide)).more fun q hq _ => hS1 q hq
  · exact (h.out.keepT fun q cs hy => by
      have hl := (Array.getElem?_eq_some_iff.1 hy).1
      refine hu.block q hl fun hq => ?_
      have e := hM _ hl hq
      rcases e with e | e
      · exact absurd (blk_ty (e ▸ hy) h.sblk) (by decide)
      · obtain ⟨cur, hc⟩ := own_blk h.asked e; exact absurd (blk_ty hc hy) (by decide)).more fun q hq _ => hS1 q hq
  · exact hst
  · exact h.rm.upd hu fun hq => by
      have e := hM _ h.rm.lt hq
      rcases e with e | e
      · exact h.rm.ne_blk h.sblk e
      · obtain ⟨cur, hc⟩ := own_blk h.asked e; exact h.rm.ne_blk hc rfl
  · exact h.wm.upd hu fun hq => by
      have e := hM _ h.wm.lt hq
      rcases e with e | e
      · exact h.wm.ne_blk h.sblk e
      · obtain ⟨cur, hc⟩ := own_blk h.asked e; exact h.wm.ne_blk hc rfl
  · exact h.ne
  · exact ((h.code.c.more (S' := fun q => ¬ S q ∧ ¬ S' q) fun q hq hl => ⟨hq, hn q hq hl⟩).upd hu' fun q hq hs => hq.1 hs).more fun q hq _ => hq.2
  · exact ((h.code.i.more (S' := fun q => ¬ S q ∧ ¬ S' q) fun q hq hl => ⟨hq, hn q hq hl⟩).upd hu' fun q hq hs => hq.1 hs).more fun q hq _ => hq.2
  · exact ((h.args.more (S' := fun q => ¬ S q ∧ ¬ S' q) fun q hq hl => ⟨hq, hn q hq hl⟩).upd hu' fun q hq hs => hq.1 hs).more fun q hq _ => hq.2
  · exact ((h.src.more (S' := fun q => ¬ S q ∧ ¬ S' q) fun q hq hl => ⟨hq, hn q hq hl⟩).upd hu' fun q hq hs => hq.1 hs).more fun q hq _ => hq.2
theorem MIn.onRm {M S' : Nat → Prop} (h : MIn S w g F m a) (hu : Upd M w w') (hM : ∀ q, q < w.heap.size → M q → q = a.rm) (hS1 : ∀ q, S q → S' q) (hS2 : ∀ q, S' q → S q ∨ w.heap.size ≤ q) (hS3 : ∀ q, S' q → q < w'.heap.size) {l' : List ByteArray} (hb : MapF strE w' a.rm (Drd l')) : MIn S' w' g F m { a with rs := l' } := by
  have hin : ∀ q, q < w.heap.size → M q → S q := fun q hl hq => by
    have e := hM q hl hq
    · exact e ▸ h.inS.2.2.1
  have ho : ∀ q, ¬ S q → ¬ M q ∨ w.heap.size ≤ q := fun q hq => by
    by_cases hl : q < w.heap.size
    · exact .inl fun hm => hq (hin q hl hm)
    · exact .inr (by omega)
  have hn : ∀ q, ¬ S q → q < w.heap.size → ¬ S' q := fun q hq hl hs => by
    rcases hS2 q hs with e | e
    · exact hq e
    · omega
  have hu' : Upd S w w' := ⟨hu.os, hu.tape, hu.output, hu.size, fun k hk hs => hu.block k hk fun hm => hs (hin k hk hm)⟩
  refine ⟨?_, ?_, ?_, ?_, ?_, ?_, ?_, ?_, ?_, ⟨hS1 _ h.inS.1, hS1 _ h.inS.2.1, hS1 _ h.inS.2.2.1, hS1 _ h.inS.2.2.2⟩, hS3, ⟨?_, ?_, h.code.t, h.code.l⟩, ?_, ?_, fun W hW => h.env W (hu'.trans hW fun b hl hb => by rcases hS2 b hb with e | e; exact e; omega)⟩
  · exact h.blk.upd hu fun hq => by
      have e := hM _ h.blk.lt hq
      · exact h.rm.ne_blk h.blk e.symm
  · exact h.sblk.upd hu fun hq => by
      have e := hM _ h.sblk.lt hq
      · exact h.rm.ne_blk h.sblk e.symm
  · exact (h.st.keepT fun q cs hy => by
      have hl := (Array.getElem?_eq_some_iff.1 hy).1
      refine hu.block q hl fun hq => ?_
      have e := hM _ hl hq
      · exact h.rm.ne_blk hy e.symm).more fun q hq _ => hS1 q hq
  · exact (h.steps.keepT fun q cs hy => by
      have hl := (Array.getElem?_eq_some_iff.1 hy).1
      refine hu.block q hl fun hq => ?_
      have e := hM _ hl hq
      · exact h.rm.ne_blk hy e.symm).more fun q hq _ => hS1 q hq
  · exact (h.out.keepT fun q cs hy => by
      have hl := (Array.getElem?_eq_some_iff.1 hy).1
      refine hu.block q hl fun hq => ?_
      have e := hM _ hl hq
      · exact h.rm.ne_blk hy e.symm).more fun q hq _ => hS1 q hq
  · exact (h.asked.keepT fun q cs hy => by
      have hl := (Array.getElem?_eq_some_iff.1 hy).1
      refine hu.block q hl fun hq => ?_
      have e := hM _ hl hq
      · exact h.rm.ne_blk hy e.symm).more fun q hq _ => hS1 q hq
  · exact hb
  · exact h.wm.upd hu fun hq => by
      have e := hM _ h.wm.lt hq
      · exact h.ne.1 e.symm
  · exact h.ne
  · exact ((h.code.c.more (S' := fun q => ¬ S q ∧ ¬ S' q) fun q hq hl => ⟨hq, hn q hq hl⟩).upd hu' fun q hq hs => hq.1 hs).more fun q hq _ => hq.2
  · exact ((h.code.i.more (S' := fun q => ¬ S q ∧ ¬ S' q) fun q hq hl => ⟨hq, hn q hq hl⟩).upd hu' fun q hq hs => hq.1 hs).more fun q hq _ => hq.2
  · exact ((h.args.more (S' := fun q => ¬ S q ∧ ¬ S' q) fun q hq hl => ⟨hq, hn q hq hl⟩).upd hu' fun q hq hs => hq.1 hs).more fun q hq _ => hq.2
  · exact ((h.src.more (S' := fun q => ¬ S q ∧ ¬ S' q) fun q hq hl => ⟨hq, hn q hq hl⟩).upd hu' fun q hq hs => hq.1 hs).more fun q hq _ => hq.2
theorem MIn.onWm {M S' : Nat → Prop} (h : MIn S w g F m a) (hu : Upd M w w') (hM : ∀ q, q < w.heap.size → M q → q = a.wm) (hS1 : ∀ q, S q → S' q) (hS2 : ∀ q, S' q → S q ∨ w.heap.size ≤ q) (hS3 : ∀ q, S' q → q < w'.heap.size) {l' : List Wr} (hb : MapF strE w' a.wm (Dwr l')) : MIn S' w' g F { m with writes := l' } a := by
  have hin : ∀ q, q < w.heap.size → M q → S q := fun q hl hq => by
    have e := hM q hl hq
    · exact e ▸ h.inS.2.2.2
  have ho : ∀ q, ¬ S q → ¬ M q ∨ w.heap.size ≤ q := fun q hq => by
    by_cases hl : q < w.heap.size
    · exact .inl fun hm => hq (hin q hl hm)
    · exact .inr (by omega)
  have hn : ∀ q, ¬ S q → q < w.heap.size → ¬ S' q := fun q hq hl hs => by
    rcases hS2 q hs with e | e
    · exact hq e
    · omega
  have hu' : Upd S w w' := ⟨hu.os, hu.tape, hu.output, hu.size, fun k hk hs => hu.block k hk fun hm => hs (hin k hk hm)⟩
  refine ⟨?_, ?_, ?_, ?_, ?_, ?_, ?_, ?_, ?_, ⟨hS1 _ h.inS.1, hS1 _ h.inS.2.1, hS1 _ h.inS.2.2.1, hS1 _ h.inS.2.2.2⟩, hS3, ⟨?_, ?_, h.code.t, h.code.l⟩, ?_, ?_, fun W hW => h.env W (hu'.trans hW fun b hl hb => by rcases hS2 b hb with e | e; exact e; omega)⟩
  · exact h.blk.upd hu fun hq => by
      have e := hM _ h.blk.lt hq
      · exact h.wm.ne_blk h.blk e.symm
  · exact h.sblk.upd hu fun hq => by
      have e := hM _ h.sblk.lt hq
      · exact h.wm.ne_blk h.sblk e.symm
  · exact (h.st.keepT fun q cs hy => by
      have hl := (Array.getElem?_eq_some_iff.1 hy).1
      refine hu.block q hl fun hq => ?_
      have e := hM _ hl hq
      · exact h.wm.ne_blk hy e.symm).more fun q hq _ => hS1 q hq
  · exact (h.steps.keepT fun q cs hy => by
      have hl := (Array.getElem?_eq_some_iff.1 hy).1
      refine hu.block q hl fun hq => ?_
      have e := hM _ hl hq
      · exact h.wm.ne_blk hy e.symm).more fun q hq _ => hS1 q hq
  · exact (h.out.keepT fun q cs hy => by
      have hl := (Array.getElem?_eq_some_iff.1 hy).1
      refine hu.block q hl fun hq => ?_
      have e := hM _ hl hq
      · exact h.wm.ne_blk hy e.symm).more fun q hq _ => hS1 q hq
  · exact (h.asked.keepT fun q cs hy => by
      have hl := (Array.getElem?_eq_some_iff.1 hy).1
      refine hu.block q hl fun hq => ?_
      have e := hM _ hl hq
      · exact h.wm.ne_blk hy e.symm).more fun q hq _ => hS1 q hq
  · exact h.rm.upd hu fun hq => by
      have e := hM _ h.rm.lt hq
      · exact h.ne.1 e
  · exact hb
  · exact h.ne
  · exact ((h.code.c.more (S' := fun q => ¬ S q ∧ ¬ S' q) fun q hq hl => ⟨hq, hn q hq hl⟩).upd hu' fun q hq hs => hq.1 hs).more fun q hq _ => hq.2
  · exact ((h.code.i.more (S' := fun q => ¬ S q ∧ ¬ S' q) fun q hq hl => ⟨hq, hn q hq hl⟩).upd hu' fun q hq hs => hq.1 hs).more fun q hq _ => hq.2
  · exact ((h.args.more (S' := fun q => ¬ S q ∧ ¬ S' q) fun q hq hl => ⟨hq, hn q hq hl⟩).upd hu' fun q hq hs => hq.1 hs).more fun q hq _ => hq.2
  · exact ((h.src.more (S' := fun q => ¬ S q ∧ ¬ S' q) fun q hq hl => ⟨hq, hn q hq hl⟩).upd hu' fun q hq hs => hq.1 hs).more fun q hq _ => hq.2
end
end Go.Proofs.YtdmogoaaecdbaaaGreatDoor

namespace Go.Proofs.YtdmogoaaecdbaaaGreatDoor
open Go
set_option linter.unusedVariables false

section
variable {P : Program} {ops : Array Oper} {Q : Exit → Act → World → Prop} {md : Region.Mode} {S : World → Prop}
/-- whatever order is picked, S holds behind every operation but number z -/
def wpAnyE (P : Program) (md : Region.Mode) (ops : Array Oper) (Q : Exit → Act → World → Prop) (S : World → Prop) (z : Nat) : Nat → Array Bool → Act → World → Prop
  | 0, listed, a, w => Region.ready md ops listed = [] ∧ Q .normal a w
  | fuel + 1, listed, a, w =>
    (Region.ready md ops listed = [] → Q .normal a w) ∧
    ∀ i ∈ Region.ready md ops listed, wpOp P ops Q i (fun a' w' => (i ≠ z → S w') ∧ wpAnyE P md ops Q S z fuel (listed.setIfInBounds i true) a' w') a w
theorem wpAny_of_E {z : Nat} : ∀ (fuel : Nat) (listed : Array Bool) (a : Act) (w : World), wpAnyE P md ops Q S z fuel listed a w → wpAny P md ops Q fuel listed a w
  | 0, _, _, _, h => h
  | fuel + 1, _, _, _, h => ⟨h.1, fun i hi => wpOp_mono (fun a' w' h' => wpAny_of_E fuel _ a' w' h'.2) (h.2 i hi)⟩
/-- each of C waits for i or for another of C -/
def waitB (md : Region.Mode) (ops : Array Oper) (i : Nat) (C : List Nat) : Bool := C.all fun c => match ops[c]? with | some oc => oc.after.any (fun e => Region.binds md e && (e.on == i || C.contains e.on)) | none => false
def unB (listed : Array Bool) (C : List Nat) : Bool := C.all fun c => listed.getD c true == false
theorem wait_not {i : Nat} {C : List Nat} {listed : Array Bool} (hw : waitB md ops i C = true) (hu : unB listed C = true) (hi : listed.getD i true = false) {c : Nat} (hc : c ∈ C) : c ∉ Region.ready md ops listed := by
  intro hr
  obtain ⟨_, oj, hoj, hall⟩ := mem_ready.1 hr
  unfold waitB at hw
  rw [List.all_eq_true] at hw
  have h1 := hw c hc
  rw [hoj] at h1
  simp only at h1
  obtain ⟨e, he, h2⟩ := Array.any_eq_true'.1 h1
  rw [Bool.and_eq_true, Bool.or_eq_true] at h2
  have h3 := hall e he h2.1
  have h0 : listed.getD e.on true = false := by
    rcases h2.2 with h4 | h4
    · rw [beq_iff_eq.1 h4]; exact hi
    · unfold unB at hu
      rw [List.all_eq_true] at hu
      have := hu e.on (by simpa using h4)
      simpa using this
  rcases Nat.lt_or_ge e.on listed.size with h' | h'
  · simp [h'] at h0 h3; rw [h0] at h3; cases h3
  · simp [Array.getElem?_eq_none h'] at h3
theorem wpAnyE_first {z i : Nat} {oi : Oper} {v : Value} {C : List Nat} (hi : ops[i]? = some oi) (hsel : ∀ (j : Nat) (o : Oper) cs b, ops[j]? = some o → o.op ≠ .select cs b)
    (hQ : ∀ c a w, Q (.panic c) (a.put oi.dst v) w → Q (.panic c) a w) (hzC : z ∈ C) (hw : waitB md ops i C = true) :
    ∀ (fuel : Nat) (listed : Array Bool) (a : Act) (w : World),
      (∀ j oj, ops[j]? = some oj → j ≠ i → listed.getD j true = false → (∀ e ∈ oj.after, Region.binds md e = true → e.on ≠ i) → oi.apart ops oj = true) →
      i ∈ Region.ready md ops listed → unB listed C = true → YieldsIf P ops S oi v a → S w →
      wpAnyE P md ops Q S z fuel (listed.setIfInBounds i true) (a.put oi.dst v) w → wpAnyE P md ops Q S z (fuel + 1) listed a w := by
  intro fuel
  induction fuel with
  | zero =>
    intro listed a w _ hr hu hy hS H
    refine ⟨fun h => (by rw [h] at hr; cases hr), fun j hj => ?_⟩
    by_cases hji : j = i
    · subst hji; exact hy.wpOp hi hS ⟨fun _ => hS, H⟩
    · have := ready_mono hj hji
      rw [H.1] at this
      cases this
  | succ fuel ih =>
    intro listed a w hfree hr hu hy hS H
    refine ⟨fun h => (by rw [h] at hr; cases hr), fun j hj => ?_⟩
    by_cases hji : j = i
    · subst hji; exact hy.wpOp hi hS ⟨fun _ => hS, H⟩
    · have h1 := H.2 j (ready_mono hj hji)
      obtain ⟨hjun, oj, hoj, hall⟩ := mem_ready.1 hj
      have hnot : ∀ e ∈ oj.after, Region.binds md e = true → e.on ≠ i := fun e he hb heq => by
        have h1 := hall e he hb
        have h0 := (mem_ready.1 hr).1
        rw [heq] at h1
        rcases Nat.lt_or_ge i listed.size with h' | h'
        · simp [h'] at h0 h1; rw [h0] at h1; cases h1
        · simp [Array.getElem?_eq_none h'] at h1
      have hjC : j ∉ C := fun hjC => wait_not hw hu (mem_ready.1 hr).1 hjC hj
      have hjz : j ≠ z := fun e => hjC (e ▸ hzC)
      have h2 := wpOp_putIf hoj (hfree j oj hoj hji hjun hnot) (fun cs b => hsel i oi cs b hi) (fun cs b => hsel j oj cs b hoj) hQ hy h1
      have hfree' : ∀ k ok, ops[k]? = some ok → k ≠ i → (listed.setIfInBounds j true).getD k true = false →
          (∀ e ∈ ok.after, Region.binds md e = true → e.on ≠ i) → oi.apart ops ok = true := fun k ok hk hki hun hno => by
        refine hfree k ok hk hki ?_ hno
        by_cases hjk : j = k
        · subst hjk; exact hjun
        · rw [getD_set_ne true hjk] at hun; exact hun
      have hu' : unB (listed.setIfInBounds j true) C = true := by
        unfold unB at hu ⊢
        rw [List.all_eq_true] at hu ⊢
        intro c hc
        rw [getD_set_ne true (show j ≠ c from fun e => hjC (by rw [e]; exact hc))]
        exact hu c hc
      refine wpOp_mono (fun a' w' h3 => ⟨fun _ => h3.2.1 hjz, ih (listed.setIfInBounds j true) a' w' hfree' (ready_mono hr (Ne.symm hji)) hu' h3.1 (h3.2.1 hjz) ?_⟩) h2
      rw [Array.setIfInBounds_comm _ _ hji]
      exact h3.2.2
/-- take number i first -/
theorem wpAnyE_take {z i : Nat} {oi : Oper} {v : Value} {fuel : Nat} {listed : Array Bool} {a : Act} {w : World} (C : List Nat) (hi : ops[i]? = some oi)
    (hs : Region.noSelect ops = true) (hf : Region.free md ops listed i = true) (hr : (Region.ready md ops listed).contains i = true) (hz : C.contains z = true) (hwt : waitB md ops i C = true) (hun : unB listed C = true)
    (hQ : ∀ c a w, Q (.panic c) (a.put oi.dst v) w → Q (.panic c) a w) (hy : YieldsIf P ops S oi v a) (hS : S w)
    (h : wpAnyE P md ops Q S z fuel (listed.setIfInBounds i true) (a.put oi.dst v) w) : wpAnyE P md ops Q S z (fuel + 1) listed a w :=
  wpAnyE_first hi (Region.noSelect_spec hs) hQ (by simpa using hz) hwt fuel listed a w (Region.free_spec hi hf) (by simpa using hr) hun hy hS h
def AllReadyE (P : Program) (md : Region.Mode) (ops : Array Oper) (Q : Exit → Act → World → Prop) (S : World → Prop) (z fuel : Nat) (listed : Array Bool) (a : Act) (w : World) (rs : List Nat) : Prop :=
  ∀ i ∈ rs, wpOp P ops Q i (fun a' w' => (i ≠ z → S w') ∧ wpAnyE P md ops Q S z fuel (listed.setIfInBounds i true) a' w') a w
theorem AllReadyE.nil {z fuel : Nat} {listed : Array Bool} {a : Act} {w : World} : AllReadyE P md ops Q S z fuel listed a w [] := fun _ h => by cases h
theorem AllReadyE.cons {z fuel : Nat} {listed : Array Bool} {a : Act} {w : World} {i : Nat} {o : Oper} {rs : List Nat} (ho : ops[i]? = some o)
    (h : ∀ K' : Act → World → Prop, Shut (∀ a w, (i ≠ z → S w) → wpAnyE P md ops Q S z fuel (listed.setIfInBounds i true) a w → K' a w) → if Region.wanted o (yielded ops a.tmps) = true then Oper.wp P o a w K' Q else K' (a.put o.dst undef) w)
    (hs : AllReadyE P md ops Q S z fuel listed a w rs) : AllReadyE P md ops Q S z fuel listed a w (i :: rs) := fun j hj => by
  rcases List.mem_cons.1 hj with rfl | hj
  · exact wpOp_step ho (fun K' hK => h K' (fun a w hS hW => hK a w ⟨hS, hW⟩))
  · exact hs j hj
theorem wpAnyE_ready {z : Nat} {rs : List Nat} {fuel : Nat} {listed : Array Bool} {a : Act} {w : World} (hr : Region.ready md ops listed = rs) (hne : rs ≠ [])
    (h : AllReadyE P md ops Q S z fuel listed a w rs) : wpAnyE P md ops Q S z (fuel + 1) listed a w := ⟨fun h0 => absurd (hr ▸ h0) hne, hr ▸ h⟩
theorem wpAnyE_done {z : Nat} {listed : Array Bool} {a : Act} {w : World} (hr : Region.ready md ops listed = []) (h : Q .normal a w) : ∀ fuel, wpAnyE P md ops Q S z fuel listed a w
  | 0 => ⟨hr, h⟩
  | _ + 1 => ⟨fun _ => h, by rw [hr]; simp⟩
theorem wp_region_heldE (z : Nat) {id : Nat} {a : Act} {w : World} (hm : P.follows .mixedOrders = true)
    (h : wpAnyE P .any ops Q S z ops.size (Array.replicate ops.size false) a w.drew) : (Code.region id ops true).wp P Q a w := wp_region_any hm (wpAny_of_E _ _ _ _ h)
end
end Go.Proofs.YtdmogoaaecdbaaaGreatDoor


/- store: the table that a row lays; a number's text; a value's literal. -/
import Derived.Test.YtnbbdjbjbjlcpaaDoorPShelf
import Derived.Test.YtnbbdjbjbjlcpaaDoorKBack
import Derived.Test.YtnbbdjbjbjlcpaaDoorKPut
import Derived.Test.YtnbbdjbjbjlcpaaDoorKValid
import Derived.WalkSmall
import Derived.Lib.AtoiErrMem
import Derived.Laws.BytesArg
namespace Go.Proofs.YtnbbdjbjbjlcpaaDoor
open Go.RowKit
set_option linter.unusedVariables false
set_option linter.unusedSimpArgs false

structure Env (w : World) : Prop where
  pow : Lib.TabIs Tryd.prog w "internal/strconv.uint64pow10" .u64 Lib.pow10Tab
  big : 5 ≤ w.heap.size
theorem gPow : Tryd.prog.globalNamed "internal/strconv.uint64pow10" = some 2 := by kernel_rfl
theorem Env.below {w w' : World} (h : Env w) (hb : Below w.heap.size w w') : Env w' := by
  have h6 := h.big
  exact ⟨var?_below hb gPow (by omega) h.pow, by have := hb.size; omega⟩
theorem Env.over {w w' : World} {N : Nat} (h : Env w) (hb : Below N w w') (hN : 5 ≤ N) : Env w' := by
  have h6 := h.big
  exact ⟨var?_below hb gPow (by omega) h.pow, by have := hb.size; omega⟩
theorem fmt_any (n : Int) (h0 : -9223372036854775808 ≤ n) (h1 : n ≤ 9223372036854775807) (w : World) (he : Env w) :
    Calls Tryd.prog 41 #[.int .i64 n, .int .i64 10] w fun e w' => e = .returned (.string ⟨(Lib.itoa n).toArray⟩) ∧ Below w.heap.size w w' := by
  refine (strconv_FormatInt_10 n h0 h1 w he.pow).mono ?_
  rintro e w' ⟨rfl, k, os, rfl⟩
  exact ⟨rfl, rfl, rfl, rfl, by rw [Sort.size_grow]; exact Nat.le_add_right _ _, fun b hb => Array.getElem?_append_left (show b < w.heap.size from hb)⟩
theorem digits_any (n : Int) (h0 : -9223372036854775808 ≤ n) (h1 : n ≤ 9223372036854775807) (w : World) (he : Env w) :
    Calls Tryd.prog 26 #[.int .i64 n] w fun e w' => e = .returned (.string ⟨(Lib.itoa n).toArray⟩) ∧ Below w.heap.size w w' := by
  have hk := hid (fmt_any n h0 h1 w he)
  clear h0 h1 he
  go_enter Tryd.func26, Tryd.ntmps26
  go_wp2_with fail
  refine hk.out.mono ?_
  rintro e w2 ⟨rfl, hb⟩
  go_wp2_with fail
  go_ret
  exact ⟨rfl, hb⟩
def noneT : List UInt8 := [110, 111, 110, 101]
def escL (l : List UInt8) : List UInt8 := l.flatMap fun c => if c = 34 ∨ c = 92 then [92, c] else [c]
def litL (v : Vl) : List UInt8 := if v.k = 1 then Lib.itoa v.n else if v.k = 0 then noneT else 34 :: (escL v.s.data.toList ++ [34])
def printE (v : Vl) : Int := if v.ok = true then 0 else 20
def printL (v : Vl) : List UInt8 := if v.ok = true then litL v else []
def lb (L : List Nat) : List UInt8 := L.map UInt8.ofNat
theorem lb_len (L : List Nat) : (lb L).length = L.length := List.length_map ..
theorem lb_snoc (L : List Nat) (c : UInt8) : lb (L ++ [c.toNat]) = lb L ++ [c] := by unfold lb; simp
theorem bcells_at {l : List Nat} {k : Nat} (h : k < l.length) : (bcells l)[k]? = some (.int .u8 (l[k] : Nat)) := by unfold bcells; rw [List.getElem?_map, List.getElem?_eq_getElem h]; rfl
theorem strOf_bt (l : List Nat) : strOfNums (l.map Int.ofNat) = bt l := by
  unfold strOfNums bt
  rw [List.map_map]
  rfl
theorem convB {S : Nat → Prop} {w : World} {A : Option Addr} {l : List Nat} {n c : Nat} (h : Rd S w 1 A n (bcells l)) (hn : l.length = n) : (convert 37 9 (.slice A n c)).run Tryd.prog w = .ok (.string (bt l)) w := by
  subst hn
  cases l with
  | nil =>
    cases A with
    | none => exact run_convert_bytes_nil w 37 5 Tryd.underlying37 Tryd.underlying5 0 c 9 Tryd.underlying9
    | some a =>
      obtain ⟨b, o, t⟩ := a
      rw [run_convert_bytes_string w 37 9 5 _ _ c Tryd.underlying37 Tryd.underlying5 Tryd.underlying9, run_bytesToString w _ _ c [] (by simp [loadCells, loadCellsFrom])]
      rfl
  | cons x l =>
    obtain ⟨b, o, rfl, _, _, hc⟩ := h.2 (by simp)
    rw [← strOf_bt]
    refine run_convert_bytes_arg w 37 5 Tryd.underlying37 Tryd.underlying5 b o _ c _ (by simp) (fun i hi => hc i _ ?_) 9 Tryd.underlying9
    rw [bcells_at hi]
    have : ((x :: l).map Int.ofNat).getD i 0 = (((x :: l)[i] : Nat) : Int) := by rw [List.getD_eq_getElem?_getD, List.getElem?_map, List.getElem?_eq_getElem hi]; rfl
    rw [this]
section
variable {s : ByteArray} {k : Nat}
theorem byte_ne {hk : k < s.size} {c : UInt8} (h : s.data[k]'hk ≠ c) : (s[k]'hk).toNat ≠ c.toNat := fun e => h (UInt8.toNat_inj.1 e)
theorem byte_eq {hk : k < s.size} {c : UInt8} (h : s.data[k]'hk = c) : (s[k]'hk).toNat = c.toNat := by show (s.data[k]'hk).toNat = c.toNat; rw [h]
end
end Go.Proofs.YtnbbdjbjbjlcpaaDoor

/- Texts of the proof, joined: VRPrint, SVal, SBytesP, SLoadP, SShelf, SSort, SKeysP, WShelf, SKeysS, SDump, SNew, SView, SKeys, SPrint, SBytes, SRoomP. -/
import Derived.Test.YtphglnenafdkaaaGreatDoorQ08
import Derived.Test.YtphglnenafdkaaaGreatDoorQ07
import Derived.Test.YtphglnenafdkaaaGreatDoorQ05
import Derived.Laws.OwnMore
import Derived.Laws.BytesArg
import Derived.Lib.ItoaLen
import Derived.Test.YtphglnenafdkaaaGreatDoorQ06
import Derived.Lib.Split
import Derived.Lib.SplitLaws
import Derived.Lib.IndexBytes
import Derived.Shelf.Small.Bits
import Derived.Shelf.Small.Strs
import Derived.Shelf.Strconv.Itoa0
import Derived.Shelf.Strconv.Itoa1
import Derived.Shelf.LaysM
import Derived.Shelf.Strconv.Itoa2
import Derived.Shelf.Strconv.Itoa3
import Derived.Shelf.Strconv.Itoa4
import Derived.Shelf.Bytes.Len
import Derived.Shelf.Bytes.TryGrow
import Derived.Shelf.Bytes.GrowSliceCatch
import Derived.Shelf.Bytes.GrowSlice
import Derived.Shelf.Bytes.Bytes
import Derived.Shelf.Strconv.ParseIntEmpty
import Derived.Shelf.Strconv.Clone
import Derived.Shelf.Strconv.SyntaxError
import Derived.Shelf.LaysC
import Derived.Shelf.Strconv.ToError
import Derived.Shelf.Strconv.Lower
import Derived.Shelf.Strconv.ParseUint10
import Derived.Shelf.Strconv.ParseUint10Empty
import Derived.Shelf.Strconv.ParseUint10Any
import Derived.Shelf.Strconv.ParseInt10
import Derived.Shelf.Strconv.RangeError
import Derived.Shelf.Strconv.ToErrorRange
import Derived.Shelf.Strconv.ParseUintEmpty
import Derived.Shelf.Strconv.ParseUint10b64
import Derived.Shelf.Strconv.ParseUint10b32
import Derived.Shelf.Strconv.ParseUint10b16
import Derived.Shelf.Strconv.ParseUint10b8
import Derived.Shelf.Strconv.ParseUint10At
import Derived.Shelf.Strconv.ParseInt10At64
import Derived.Shelf.Strconv.ParseInt10At32
import Derived.Shelf.Strconv.ParseInt10At16
import Derived.Shelf.Strconv.ParseInt10At8
import Derived.Shelf.Strconv.ParseInt10All
import Derived.Shelf.Strconv.ParseIntPublic10
import Derived.Shelf.Strconv.ErrVarParseInt
import Derived.Shelf.Strings.Search1
import Derived.Shelf.Bytes.GrowRow0Kept
import Derived.Shelf.Strings.Search2
import Derived.Shelf.Bytes.GrowRowKept
import Derived.Shelf.Strings.Search3
import Derived.Shelf.Bytes.GrowNilKept
import Derived.Shelf.Strings.Cut
import Derived.Shelf.Bytes.GrowKept
import Derived.Shelf.Strings.Count
import Derived.Shelf.Strings.Shaped
import Derived.Shelf.Bytes.WriteStringKept
import Derived.Shelf.Sort.Plain
import Derived.Shelf.Bytes.ResetKept
import Derived.Shelf.Bytes.BufferK
import Derived.Shelf.Strings.Split
import Derived.Shelf.Strings.SplitShaped
import Derived.Shelf.Unicode.DecodeSlow
import Derived.Shelf.Slices.In.SortNone
import Derived.Ground.SlgfProg
import Derived.Shelf.SlicesE.IndexFunc
import Derived.Shelf.SlSortCmp.WholeK
import Derived.Shelf.SlGeneric
import Derived.Ground.SlsfProg
import Derived.Test.YtphglnenafdkaaaGreatDoorProg
import Derived.Shelf.SlSortCmp.NoneTotal
namespace Go.Proofs.YtphglnenafdkaaaGreatDoor
open Go.RowKit
set_option linter.unusedVariables false
set_option linter.unusedSimpArgs false

theorem ext_one {s : ByteArray} {j : Nat} (h : j < s.size) : (s.extract j (j + 1)).data.toList = [s.data[j]'h] := by
  have h' : j < s.data.toList.length := by rw [Array.length_toList]; exact h
  rw [ByteArray.data_extract, Array.toList_extract, List.extract_eq_take_drop, List.drop_eq_getElem_cons h', Array.getElem_toList]
  simp
theorem lst_app (a b : ByteArray) : (a ++ b).data.toList = a.data.toList ++ b.data.toList := by rw [ByteArray.data_append, Array.toList_append]
theorem lst_len (a : ByteArray) : a.data.toList.length = a.size := by rw [Array.length_toList]; rfl

set_option maxRecDepth 100000 in
set_option maxHeartbeats 4000000 in
theorem rprint_any (v : Vl) (w : World) (hs : v.s.size ≤ 140737488351232) (hr : v.rng) : Calls Tryz.prog 74 #[.agg #[.int .i64 v.k, .int .i64 v.n, .string v.s]] w (PrOut v w) := by
  obtain ⟨W, hW⟩ : ∃ W, W = w.alloc (.cells #[.int .i64 v.k, .int .i64 v.n, .string v.s] 38) := ⟨_, rfl⟩
  have hB0 : Hid (Below w.heap.size w W) := hid (by subst hW; exact (Below.refl _ _).alloc (Nat.le_refl _) _)
  have kb0 : Hid (Blk W w.heap.size 38 #[.int .i64 v.k, .int .i64 v.n, .string v.s]) := hid (by subst hW; exact Blk.new w _ _)
  have hva := hid (rvalid_any v W (by omega))
  have hx0 : W.cell? ⟨w.heap.size, 0, none⟩ = some (.int .i64 v.k) := kb0.out.cell 0
  have hx1 : W.cell? ⟨w.heap.size, 1, none⟩ = some (.int .i64 v.n) := kb0.out.cell 1
  have hx2 : W.cell? ⟨w.heap.size, 2, none⟩ = some (.string v.s) := kb0.out.cell 2
  have hfz := fun q => kb0.out.frozen q
  have hlz := kb0.out.lt
  cases hok : v.ok with
  | false =>
    have hfin : Hid (printL v = [] ∧ printE v = 20) := hid (by unfold printL printE; rw [hok]; exact ⟨rfl, rfl⟩)
    rw [hok] at hva
    clear hok hs hr
    go_enter Tryz.func74, Tryz.ntmps74
    go_upto_region 1 with fail
    rw [← hW]
    clear hW
    go_wp2_with fail
    refine hva.out.mono ?_
    rintro e w2 ⟨rfl, hb20⟩
    have kb2 := hid (kb0.out.below_all hb20)
    have hB2 := hid (hB0.out.trans (hb20.mono hB0.out.size))
    have hbb2 := hid hb20
    clear hb20 hva hx0 hx1 hx2 hfz hlz kb0 hB0
    have x0 := kb2.out.cell 0
    have x1 := kb2.out.cell 1
    have x2 := kb2.out.cell 2
    simp only [List.getElem?_toArray, List.getElem?_cons_zero, List.getElem?_cons_succ] at x0 x1 x2
    have fz := fun q => kb2.out.frozen q
    have hlt := kb2.out.lt
    go_wp2_with fail
    refine bodyPost_ret (v := .tuple #[.string ⟨#[]⟩, .int .i64 20]) (by simp [results, Tryz.results74, go_sem]) rfl ⟨?_, hB2.out⟩
    rw [hfin.out.1, hfin.out.2]
  | true =>
    have hpe : Hid (printE v = 0) := hid (by unfold printE; rw [hok]; rfl)
    have hpl : printL v = litL v := by unfold printL; rw [hok]; rfl
    rw [hok] at hva
    rcases ok_forms hok with hv | ⟨h1, h2⟩ | ⟨h1, h2, h3, h4⟩
    · have e0 : v.k = 0 := by rw [hv]; rfl
      have hfin : Hid (printL v = noneT) := hid (by rw [hpl]; unfold litL; rw [e0]; rfl)
      have f1 : (v.k == 0) = true := by rw [e0]; rfl
      clear hok hs hr hv hpl e0
      go_enter Tryz.func74, Tryz.ntmps74
      go_upto_region 1 with fail
      rw [← hW]
      clear hW
      go_wp2_with fail
      refine hva.out.mono ?_
      rintro e w2 ⟨rfl, hb20⟩
      have kb2 := hid (kb0.out.below_all hb20)
      have hB2 := hid (hB0.out.trans (hb20.mono hB0.out.size))
      have hbb2 := hid hb20
      clear hb20 hva hx0 hx1 hx2 hfz hlz kb0 hB0
      have x0 := kb2.out.cell 0
      have x1 := kb2.out.cell 1
      have x2 := kb2.out.cell 2
      simp only [List.getElem?_toArray, List.getElem?_cons_zero, List.getElem?_cons_succ] at x0 x1 x2
      have fz := fun q => kb2.out.frozen q
      have hlt := kb2.out.lt
      go_wp2_with fail
      refine bodyPost_ret (v := .tuple #[.string ⟨#[110, 111, 110, 101]⟩, .int .i64 0]) (by simp [results, Tryz.results74, go_sem]) rfl ⟨?_, hB2.out⟩
      rw [hfin.out, hpe.out]; rfl
    · have hfin : Hid (printL v = Lib.itoa v.n) := hid (by rw [hpl]; unfold litL; rw [h1]; rfl)
      have f0 : (v.k == 1) = true := by rw [h1]; rfl
      have f1 : (v.k == 0) = false := by rw [h1]; rfl
      have hrr := hid hr
      clear hok hs hr hpl h1 h2
      go_enter Tryz.func74, Tryz.ntmps74
      go_upto_region 1 with fail
      rw [← hW]
      clear hW
      go_wp2_with fail
      refine hva.out.mono ?_
      rintro e w2 ⟨rfl, hb20⟩
      have kb2 := hid (kb0.out.below_all hb20)
      have hB2 := hid (hB0.out.trans (hb20.mono hB0.out.size))
      have hbb2 := hid hb20
      clear hb20 hva hx0 hx1 hx2 hfz hlz kb0 hB0
      have x0 := kb2.out.cell 0
      have x1 := kb2.out.cell 1
      have x2 := kb2.out.cell 2
      simp only [List.getElem?_toArray, List.getElem?_cons_zero, List.getElem?_cons_succ] at x0 x1 x2
      have fz := fun q => kb2.out.frozen q
      have hlt := kb2.out.lt
      go_wp2_with fail
      refine (rDigits_any v.n hrr.out.1 hrr.out.2 w2).mono ?_
      rintro e w3 ⟨rfl, hwq⟩
      obtain rfl := hwq.symm
      clear x0 x1 x2 fz hlt
      go_wp2_with fail
      refine bodyPost_ret (v := .tuple #[.string ⟨(Lib.itoa v.n).toArray⟩, .int .i64 0]) (by simp [results, Tryz.results74, go_sem]) rfl ⟨?_, hB2.out⟩
      rw [hfin.out, hpe.out]
    · have hfin : Hid (printL v = 34 :: (escL v.s.data.toList ++ [34])) := hid (lit_text hok h1)
      have hs64 := hid h3
      have hs9 : (v.s.size : Int) ≤ 64 := by omega
      have f0 : (v.k == 1) = false := by rw [h1]; rfl
      have f1 : (v.k == 0) = false := by rw [h1]; rfl
      clear hok hs hr hpl h3 h4 h1 h2
      go_enter Tryz.func74, Tryz.ntmps74
      go_upto_region 1 with fail
      rw [← hW]
      clear hW
      go_wp2_with fail
      refine hva.out.mono ?_
      rintro e w2 ⟨rfl, hb20⟩
      have kb2 := hid (kb0.out.below_all hb20)
      have hB2 := hid (hB0.out.trans (hb20.mono hB0.out.size))
      have hbb2 := hid hb20
      clear hb20 hva hx0 hx1 hx2 hfz hlz kb0 hB0
      have x0 := kb2.out.cell 0
      have x1 := kb2.out.cell 1
      have x2 := kb2.out.cell 2
      simp only [List.getElem?_toArray, List.getElem?_cons_zero, List.getElem?_cons_succ] at x0 x1 x2
      have fz := fun q => kb2.out.frozen q
      have hlt := kb2.out.lt
      go_wp2_with fail
      go_loopw [4, 5] (fun v4 v5 wr => ∃ (k : Nat) (t : ByteArray), v4 = .string t ∧ v5 = .int .i64 k ∧ k ≤ v.s.size ∧ t.size ≤ 1 + 2 * k ∧ wr = w2 ∧ t.data.toList = 34 :: escL (v.s.data.toList.take k)) (fun _ v5 _ => v.s.size - (intOf v5).toNat)
      case atStart => exact ⟨0, ⟨#[34]⟩, rfl, rfl, Nat.zero_le _, by decide, rfl, rfl⟩
      case round =>
        obtain ⟨k, t, rfl, rfl, hks, hL0, hwr, hR0⟩ := hrel
        obtain rfl := hwr.symm
        have hL := hid hL0; have hR := hid hR0
        have hL9 : (t.size : Int) ≤ 200 := by have := hs64.out; omega
        clear hL0 hR0
        by_cases hlt2 : k < v.s.size
        · have i1 : (k : Int) < (v.s.size : Int) := by omega
          have hst := esc_step hlt2
          have hx := ext_one hlt2
          have hxs : ((v.s.extract k (k + 1)).size : Int) = 1 := by rw [← lst_len, hx]; rfl
          by_cases hq : v.s.data[k]'hlt2 = 34 ∨ v.s.data[k]'hlt2 = 92
          · rw [if_pos hq] at hst
            have hR2 : Hid ((t ++ ⟨#[92]⟩ ++ v.s.extract k (k + 1)).data.toList = 34 :: escL (v.s.data.toList.take (k + 1))) := hid (by
              rw [hst, lst_app, lst_app, hx, hR.out]; simp)
            have hz2 : Hid ((t ++ ⟨#[92]⟩ ++ v.s.extract k (k + 1)).size ≤ 1 + 2 * (k + 1)) := hid (by
              rw [← lst_len, lst_app, lst_app, hx]; simp [lst_len]; have := hL.out; omega)
            have hcase : Hid (((v.s[k]'hlt2).toNat = 34) ∨ ((v.s[k]'hlt2).toNat ≠ 34 ∧ (v.s[k]'hlt2).toNat = 92)) := hid (by
              by_cases h34 : v.s.data[k]'hlt2 = 34
              · exact .inl (byte_eq (hk := hlt2) h34)
              · exact .inr ⟨byte_ne (hk := hlt2) h34, byte_eq (hk := hlt2) (hq.resolve_left h34)⟩)
            clear hq hst hx
            rcases hcase.out with hc | ⟨hc0, hc⟩
            · have b1 : (((v.s[k]'hlt2).toNat : Int) == 34) = true := by rw [hc]; rfl
              have b2 : (((v.s[k]'hlt2).toNat : Int) == 92) = false := by rw [hc]; rfl
              skip
              go_wp2_with fail
              refine ⟨⟨k + 1, t ++ ⟨#[92]⟩ ++ v.s.extract k (k + 1), by first | rfl | simp, by first | rfl | simp, by omega, hz2.out, by first | rfl | trivial, hR2.out⟩, ?_⟩
              simp [intOf]
              omega
            · have b1 : (((v.s[k]'hlt2).toNat : Int) == 34) = false := by rw [hc]; rfl
              have b2 : (((v.s[k]'hlt2).toNat : Int) == 92) = true := by rw [hc]; rfl
              clear hc0
              go_wp2_with fail
              refine ⟨⟨k + 1, t ++ ⟨#[92]⟩ ++ v.s.extract k (k + 1), by first | rfl | simp, by first | rfl | simp, by omega, hz2.out, by first | rfl | trivial, hR2.out⟩, ?_⟩
              simp [intOf]
              omega
          · rw [if_neg hq] at hst
            have c34 : (v.s[k]'hlt2).toNat ≠ 34 := byte_ne (hk := hlt2) fun e => hq (.inl e)
            have c92 : (v.s[k]'hlt2).toNat ≠ 92 := byte_ne (hk := hlt2) fun e => hq (.inr e)
            have b1 : (((v.s[k]'hlt2).toNat : Int) == 34) = false := by simp; omega
            have b2 : (((v.s[k]'hlt2).toNat : Int) == 92) = false := by simp; omega
            have hR2 : Hid ((t ++ v.s.extract k (k + 1)).data.toList = 34 :: escL (v.s.data.toList.take (k + 1))) := hid (by
              rw [hst, lst_app, hx, hR.out]; simp)
            have hz2 : Hid ((t ++ v.s.extract k (k + 1)).size ≤ 1 + 2 * (k + 1)) := hid (by
              rw [← lst_len, lst_app, hx]; simp [lst_len]; have := hL.out; omega)
            clear hst hq c34 c92 hx
            go_wp2_with fail
            refine ⟨⟨k + 1, t ++ v.s.extract k (k + 1), by first | rfl | simp, by first | rfl | simp, by omega, hz2.out, by first | rfl | trivial, hR2.out⟩, ?_⟩
            simp [intOf]
            omega
        · have i1 : ¬ ((k : Int) < (v.s.size : Int)) := by omega
          have hR2 : Hid ((t ++ (⟨#[34]⟩ : ByteArray)) = ⟨(printL v).toArray⟩) := hid (by
            apply ByteArray.ext
            apply Array.ext'
            rw [lst_app, hfin.out, hR.out, take_all (by omega)]; rfl)
          clear hlt2
          go_wp2_with fail
          refine bodyPost_ret (v := .tuple #[.string (t ++ (⟨#[34]⟩ : ByteArray)), .int .i64 0]) (by simp [results, Tryz.results74, go_sem]) rfl ⟨?_, hB2.out⟩
          rw [hR2.out, hpe.out]

end Go.Proofs.YtphglnenafdkaaaGreatDoor

namespace Go.Proofs.YtphglnenafdkaaaGreatDoor
end Go.Proofs.YtphglnenafdkaaaGreatDoor

namespace Go.Proofs.YtphglnenafdkaaaGreatDoor
open Go.RowKit
set_option linter.unusedVariables false
set_option linter.unusedSimpArgs false

def lineL (x : Kv) : List UInt8 := x.1.data.toList ++ (32 :: (printL x.2 ++ [10]))
def headL (s : St) : List UInt8 := Lib.itoa s.parts ++ (10 :: (Lib.itoa s.room ++ [10]))
def bytesTo (s : St) (i : Nat) : List UInt8 := headL s ++ (s.L.take i).flatMap lineL
def bytesS (s : St) : List UInt8 := headL s ++ s.L.flatMap lineL
theorem bytesTo_zero (s : St) : bytesTo s 0 = headL s := by simp [bytesTo]
theorem bytesTo_all (s : St) : bytesTo s s.L.length = bytesS s := by unfold bytesTo bytesS; rw [List.take_length]
theorem bytesTo_step (s : St) {i : Nat} (h : i < s.L.length) : bytesTo s (i + 1) = bytesTo s i ++ lineL s.L[i] := by
  unfold bytesTo
  rw [List.take_succ_eq_append_getElem h, List.flatMap_append, List.append_assoc]
  simp
theorem escL_len : ∀ l : List UInt8, (escL l).length ≤ 2 * l.length
  | [] => Nat.le_refl _
  | c :: l => by
    have := escL_len l
    unfold escL at *
    rw [List.flatMap_cons, List.length_append, List.length_cons]
    split <;> simp only [List.length_cons, List.length_nil] <;> omega
theorem print_len {v : Vl} (hok : v.ok = true) (hr : v.rng) : (printL v).length ≤ 200 := by
  unfold printL litL
  rw [if_pos hok]
  split
  · have := Lib.itoa_length_le v.n hr.1 hr.2
    omega
  · split
    · decide
    · have h := ok_forms hok
      have h2 : v.s.size ≤ 64 := by
        rcases h with rfl | ⟨h1, h2⟩ | ⟨h1, h2, h3, h4⟩
        · decide
        · rw [h2]; decide
        · exact h3
      have := escL_len v.s.data.toList
      have e : v.s.data.toList.length = v.s.size := Array.length_toList
      simp
      omega
theorem line_len {x : Kv} (hk : validK x.1 = true) (hok : x.2.ok = true) (hr : x.2.rng) : (lineL x).length ≤ 300 := by
  have h1 := print_len hok hr
  have h2 : x.1.size ≤ 32 := by unfold validK at hk; simp at hk; omega
  have e : x.1.data.toList.length = x.1.size := Array.length_toList
  unfold lineL
  simp only [List.length_append, List.length_cons, List.length_nil]
  omega
theorem flat_le : ∀ {l : List Kv}, (∀ x ∈ l, (lineL x).length ≤ 300) → (l.flatMap lineL).length ≤ 300 * l.length
  | [], _ => Nat.le_refl _
  | x :: l, h => by
    have h1 := h x (List.mem_cons_self ..)
    have h2 := flat_le (l := l) fun y hy => h y (List.mem_cons_of_mem _ hy)
    rw [List.flatMap_cons, List.length_append, List.length_cons]
    omega
theorem bytesTo_len {s : St} (h : ∀ x ∈ s.L, (lineL x).length ≤ 300) (hh : (headL s).length ≤ 60) (hn : s.L.length ≤ 262144) (i : Nat) : (bytesTo s i).length ≤ 100000000 := by
  unfold bytesTo
  have h1 := flat_le (l := s.L.take i) fun x hx => h x (List.mem_of_mem_take hx)
  have h2 : (s.L.take i).length ≤ s.L.length := by rw [List.length_take]; omega
  rw [List.length_append]
  omega
theorem head_len {s : St} (h1 : s.parts ≤ 64) (h2 : s.room ≤ 4096) : (headL s).length ≤ 60 := by
  have a := Lib.itoa_length_le (s.parts : Int) (by omega) (by omega)
  have b := Lib.itoa_length_le (s.room : Int) (by omega) (by omega)
  unfold headL
  simp only [List.length_append, List.length_cons, List.length_nil]
  omega
end Go.Proofs.YtphglnenafdkaaaGreatDoor

namespace Go.Proofs.YtphglnenafdkaaaGreatDoor
open Go.RowKit
set_option linter.unusedVariables false
set_option linter.unusedSimpArgs false

/-! lines -/
def notNl (c : UInt8) : Bool := decide (c ≠ 10)
def notSp (c : UInt8) : Bool := decide (c ≠ 32)
/-- the first line, and what stands behind its end -/
def lnL (l : List UInt8) : Option (List UInt8 × List UInt8) :=
  match l.dropWhile notNl with
  | [] => none
  | _ :: r => some (l.takeWhile notNl, r)
def splitL : List UInt8 → List (List UInt8)
  | [] => [[]]
  | c :: r => if c = 10 then [] :: splitL r else (c :: (splitL r).headD []) :: (splitL r).tail
theorem splitL_eq (c : UInt8) (r : List UInt8) : splitL (c :: r) = if c = 10 then [] :: splitL r else (c :: (splitL r).headD []) :: (splitL r).tail := rfl
theorem splitL_ne (l : List UInt8) : splitL l ≠ [] := by
  cases l with
  | nil => simp [splitL]
  | cons c r => unfold splitL; split <;> simp
theorem nl_cases (l : List UInt8) : (10 : UInt8) ∉ l ∨ ∃ a r, (10 : UInt8) ∉ a ∧ l = a ++ 10 :: r := by
  induction l with
  | nil => left; simp
  | cons c l ih =>
    by_cases h : c = 10
    · right; exact ⟨[], l, by simp, by rw [h]; rfl⟩
    · rcases ih with h1 | ⟨a, r, h1, h2⟩
      · left
        intro hm
        rcases List.mem_cons.1 hm with e | e
        · exact h e.symm
        · exact h1 e
      · right
        refine ⟨c :: a, r, ?_, by rw [h2]; rfl⟩
        intro hm
        rcases List.mem_cons.1 hm with e | e
        · exact h e.symm
        · exact h1 e
theorem while_app {p : UInt8 → Bool} {a r : List UInt8} {c : UInt8} (h : ∀ x ∈ a, p x = true) (hc : p c = false) : (a ++ c :: r).takeWhile p = a ∧ (a ++ c :: r).dropWhile p = c :: r := by
  induction a with
  | nil => simp [hc]
  | cons x a ih =>
    have hx := h x (List.mem_cons_self ..)
    have := ih fun y hy => h y (List.mem_cons_of_mem _ hy)
    rw [List.cons_append, List.takeWhile_cons, List.dropWhile_cons, if_pos hx, if_pos hx, this.1, this.2]
    exact ⟨rfl, rfl⟩
theorem while_all {p : UInt8 → Bool} {a : List UInt8} (h : ∀ x ∈ a, p x = true) : a.takeWhile p = a ∧ a.dropWhile p = [] := by
  induction a with
  | nil => exact ⟨rfl, rfl⟩
  | cons x a ih =>
    have hx := h x (List.mem_cons_self ..)
    have := ih fun y hy => h y (List.mem_cons_of_mem _ hy)
    rw [List.takeWhile_cons, List.dropWhile_cons, if_pos hx, if_pos hx, this.1, this.2]
    exact ⟨rfl, rfl⟩
theorem notNl_all {a : List UInt8} (h : (10 : UInt8) ∉ a) : ∀ x ∈ a, notNl x = true := fun x hx => by
  unfold notNl
  exact decide_eq_true fun e => h (e ▸ hx)
theorem lnL_some {a : List UInt8} (r : List UInt8) (h : (10 : UInt8) ∉ a) : lnL (a ++ 10 :: r) = some (a, r) := by
  unfold lnL
  obtain ⟨h1, h2⟩ := while_app (r := r) (notNl_all h) (show notNl 10 = false from rfl)
  rw [h1, h2]
theorem lnL_none {a : List UInt8} (h : (10 : UInt8) ∉ a) : lnL a = none := by
  unfold lnL
  rw [(while_all (notNl_all h)).2]
theorem splitL_one {a : List UInt8} (h : (10 : UInt8) ∉ a) : splitL a = [a] := by
  induction a with
  | nil => rfl
  | cons c a ih =>
    have hc : c ≠ 10 := fun e => h (e ▸ List.mem_cons_self ..)
    unfold splitL
    rw [if_neg hc, ih fun e => h (List.mem_cons_of_mem _ e)]
    rfl
theorem splitL_cons {a : List UInt8} (r : List UInt8) (h : (10 : UInt8) ∉ a) : splitL (a ++ 10 :: r) = a :: splitL r := by
  induction a with
  | nil => show splitL (10 :: r) = _; rw [splitL_eq, if_pos rfl]
  | cons c a ih =>
    have hc : c ≠ 10 := fun e => h (e ▸ List.mem_cons_self ..)
    rw [List.cons_append, splitL_eq, if_neg hc, ih fun e => h (List.mem_cons_of_mem _ e)]
    rfl
theorem indexNl_none {a : List UInt8} (h : (10 : UInt8) ∉ a) : Lib.indexByte a 10 = -1 := by
  induction a with
  | nil => rfl
  | cons c a ih =>
    have hc : ¬ (c == 10) = true := fun e => h ((beq_iff_eq.1 e) ▸ List.mem_cons_self ..)
    unfold Lib.indexByte
    rw [if_neg hc, ih fun e => h (List.mem_cons_of_mem _ e)]
    rfl
theorem indexB_app {a : List UInt8} {c : UInt8} (r : List UInt8) (h : c ∉ a) : Lib.indexByte (a ++ c :: r) c = (a.length : Int) := by
  induction a with
  | nil => show Lib.indexByte (c :: r) c = _; unfold Lib.indexByte; rw [if_pos (by simp)]; rfl
  | cons b a ih =>
    have hc : ¬ (b == c) = true := fun e => h ((beq_iff_eq.1 e) ▸ List.mem_cons_self ..)
    have h2 := ih fun e => h (List.mem_cons_of_mem _ e)
    rw [List.cons_append]
    unfold Lib.indexByte
    rw [if_neg hc, h2, if_neg (by simp)]
    simp
theorem split_plain : ∀ (n : Nat) (l : List UInt8), l.length ≤ n → Lib.splitK [10] 0 (Lib.count l [10]) l = splitL l := by
  intro n
  induction n with
  | zero =>
    intro l hl
    obtain rfl : l = [] := List.eq_nil_of_length_eq_zero (by omega)
    rfl
  | succ n ih =>
    intro l hl
    rcases nl_cases l with h | ⟨a, r, h, rfl⟩
    · have h1 : Lib.index l [10] = -1 := by rw [Lib.index_one, indexNl_none h]
      rw [Lib.count_miss h1, splitL_one h]
      rfl
    · have h1 : Lib.index (a ++ 10 :: r) [10] = (a.length : Int) := by rw [Lib.index_one, indexB_app r h]
      have hd : (a ++ 10 :: r).drop (a.length + [(10 : UInt8)].length) = r := by
        rw [List.drop_append, List.drop_eq_nil_of_le (by simp)]
        simp
      rw [Lib.count_hit (by simp) h1, hd, splitL_cons r h, show 1 + Lib.count r [10] = Lib.count r [10] + 1 by omega]
      unfold Lib.splitK
      rw [h1, if_neg (by simp)]
      have e : ((a.length : Int)).toNat = a.length := by omega
      rw [e, hd, ih r (by simp at hl; omega)]
      congr 1
      simp
theorem split_of (s : ByteArray) : (Lib.splitB ⟨#[10]⟩ 0 (Lib.countB s ⟨#[10]⟩) s).map (·.data.toList) = splitL s.data.toList := by
  rw [Lib.splitB_data]
  exact split_plain _ _ (Nat.le_refl _)
/-! items -/
def cutL (l : List UInt8) : List UInt8 × List UInt8 := (l.takeWhile notSp, (l.dropWhile notSp).drop 1)
theorem sp_cases (l : List UInt8) : (32 : UInt8) ∉ l ∨ ∃ a r, (32 : UInt8) ∉ a ∧ l = a ++ 32 :: r := by
  induction l with
  | nil => left; simp
  | cons c l ih =>
    by_cases h : c = 32
    · right; exact ⟨[], l, by simp, by rw [h]; rfl⟩
    · rcases ih with h1 | ⟨a, r, h1, h2⟩
      · left
        intro hm
        rcases List.mem_cons.1 hm with e | e
        · exact h e.symm
        · exact h1 e
      · right
        refine ⟨c :: a, r, ?_, by rw [h2]; rfl⟩
        intro hm
        rcases List.mem_cons.1 hm with e | e
        · exact h e.symm
        · exact h1 e
theorem notSp_all {a : List UInt8} (h : (32 : UInt8) ∉ a) : ∀ x ∈ a, notSp x = true := fun x hx => by
  unfold notSp
  exact decide_eq_true fun e => h (e ▸ hx)
theorem cutL_none {a : List UInt8} (h : (32 : UInt8) ∉ a) : cutL a = (a, []) := by
  unfold cutL
  rw [(while_all (notSp_all h)).1, (while_all (notSp_all h)).2]; rfl
theorem cutL_some {a : List UInt8} (r : List UInt8) (h : (32 : UInt8) ∉ a) : cutL (a ++ 32 :: r) = (a, r) := by
  unfold cutL
  obtain ⟨h1, h2⟩ := while_app (r := r) (notSp_all h) (show notSp 32 = false from rfl)
  rw [h1, h2]; rfl
theorem indexSp_none {a : List UInt8} {c : UInt8} (h : c ∉ a) : Lib.indexByte a c = -1 := by
  induction a with
  | nil => rfl
  | cons b a ih =>
    have hc : ¬ (b == c) = true := fun e => h ((beq_iff_eq.1 e) ▸ List.mem_cons_self ..)
    unfold Lib.indexByte
    rw [if_neg hc, ih fun e => h (List.mem_cons_of_mem _ e)]
    rfl
theorem cut_of (l : List UInt8) : (Lib.cut l [32]).1 = (cutL l).1 ∧ (Lib.cut l [32]).2.1 = (cutL l).2 := by
  rcases sp_cases l with h | ⟨a, r, h, rfl⟩
  · rw [cutL_none h]
    unfold Lib.cut
    rw [Lib.index_one, indexSp_none h, if_neg (by decide)]
    exact ⟨rfl, rfl⟩
  · rw [cutL_some r h]
    unfold Lib.cut
    rw [Lib.index_one, indexB_app r h, if_pos (by omega)]
    have e : ((a.length : Int)).toNat = a.length := by omega
    rw [e]
    refine ⟨by simp, ?_⟩
    show (a ++ 32 :: r).drop (a.length + 1) = r
    rw [List.drop_append, List.drop_eq_nil_of_le (by simp)]
    simp
def itemP (a : List UInt8) : Option Kv := if (parseL (cutL a).2).e = 0 then some (⟨(cutL a).1.toArray⟩, (parseL (cutL a).2).v) else none
def itemD (a : List UInt8) : Option Kv := match itemP a with
  | none => none
  | some x => if validK x.1 = true then some x else none
theorem itemP_ok {a : List UInt8} {x : Kv} (h : itemP a = some x) : x.2.ok = true ∧ x.2.rng := by
  unfold itemP at h
  split at h
  · rename_i he
    obtain ⟨v, h1, h2, h3, _⟩ := parse_good he
    injection h with h
    rw [← h]
    simp only
    rw [h1]
    exact ⟨h2, h3⟩
  · cases h
def parP : List (List UInt8) → Option (List Kv)
  | [] => some []
  | a :: M => match itemP a with
    | none => none
    | some x => (parP M).map (x :: ·)
theorem parP_snoc : ∀ (M : List (List UInt8)) (a : List UInt8), parP (M ++ [a]) = match parP M with
    | none => none
    | some X => match itemP a with
      | none => none
      | some x => some (X ++ [x])
  | [], a => by
    show parP [a] = _
    unfold parP parP
    cases itemP a <;> rfl
  | b :: M, a => by
    have ih := parP_snoc M a
    rw [List.cons_append]
    unfold parP
    cases itemP b with
    | none => rfl
    | some y =>
      simp only
      rw [ih]
      cases parP M with
      | none => rfl
      | some X => cases itemP a <;> rfl
theorem parP_len : ∀ {M : List (List UInt8)} {X : List Kv}, parP M = some X → X.length = M.length
  | [], X, h => by injection h with h; rw [← h]; rfl
  | a :: M, X, h => by
    unfold parP at h
    cases hi : itemP a with
    | none => rw [hi] at h; cases h
    | some x =>
      rw [hi] at h
      simp only at h
      cases hp : parP M with
      | none => rw [hp] at h; cases h
      | some Y => rw [hp] at h; injection h with h; rw [← h, List.length_cons, List.length_cons, parP_len hp]
theorem parP_ok : ∀ {M : List (List UInt8)} {X : List Kv}, parP M = some X → ∀ x ∈ X, x.2.ok = true ∧ x.2.rng
  | [], X, h => by injection h with h; rw [← h]; intro x hx; cases hx
  | a :: M, X, h => by
    unfold parP at h
    cases hi : itemP a with
    | none => rw [hi] at h; cases h
    | some y =>
      rw [hi] at h
      simp only at h
      cases hp : parP M with
      | none => rw [hp] at h; cases h
      | some Y =>
        rw [hp] at h; injection h with h
        rw [← h]
        intro x hx
        rcases List.mem_cons.1 hx with rfl | hx
        · exact itemP_ok hi
        · exact parP_ok hp x hx
/-! the document's way -/
def lastLt (acc : List Kv) (x : Kv) : Bool := match acc.getLast? with
  | none => true
  | some y => ltB y.1 x.1
def stepD (p q : Nat) (acc : List Kv) (x : Kv) : Bool := lastLt acc x && decide (cntP p (partK p x.1) (acc ++ [x]) ≤ q)
def foldD (p q : Nat) : List Kv → List (List UInt8) → Option (List Kv)
  | acc, [] => some acc
  | acc, a :: M => match itemD a with
    | none => none
    | some x => if stepD p q acc x = true then foldD p q (acc ++ [x]) M else none
def linesL (l : List UInt8) : Option (List (List UInt8)) := if (splitL l).getLastD [0] = [] then some (splitL l).dropLast else none
theorem linesL_nil : linesL [] = some [] := rfl
theorem linesL_none {a : List UInt8} (h : (10 : UInt8) ∉ a) (h0 : a ≠ []) : linesL a = none := by
  unfold linesL
  rw [splitL_one h]
  exact if_neg h0
theorem linesL_cons {a : List UInt8} (r : List UInt8) (h : (10 : UInt8) ∉ a) : linesL (a ++ 10 :: r) = (linesL r).map (a :: ·) := by
  unfold linesL
  rw [splitL_cons r h]
  obtain ⟨b, m, e⟩ : ∃ b m, splitL r = b :: m := by
    cases h : splitL r with
    | nil => exact absurd h (splitL_ne r)
    | cons b m => exact ⟨b, m, rfl⟩
  rw [e]
  have h1 : (a :: b :: m).getLastD [0] = (b :: m).getLastD [0] := by simp [List.getLastD]
  rw [h1]
  by_cases h2 : (b :: m).getLastD [0] = []
  · rw [if_pos h2, if_pos h2]; rfl
  · rw [if_neg h2, if_neg h2]; rfl
def docL (p q : Nat) (acc : List Kv) (rest : List UInt8) : Option (List Kv) := match linesL rest with
  | none => none
  | some M => foldD p q acc M
theorem docL_nil (p q : Nat) (acc : List Kv) : docL p q acc [] = some acc := rfl
theorem docL_none {p q : Nat} {acc : List Kv} {rest : List UInt8} (h : lnL rest = none) (h0 : rest ≠ []) : docL p q acc rest = none := by
  rcases nl_cases rest with h1 | ⟨a, r, h1, rfl⟩
  · unfold docL; rw [linesL_none h1 h0]
  · rw [lnL_some r h1] at h; cases h
theorem docL_step {p q : Nat} {acc : List Kv} {rest a more : List UInt8} (h : lnL rest = some (a, more)) : docL p q acc rest = match itemD a with
    | none => none
    | some x => if stepD p q acc x = true then docL p q (acc ++ [x]) more else none := by
  rcases nl_cases rest with h1 | ⟨a', r, h1, rfl⟩
  · rw [lnL_none h1] at h; cases h
  · rw [lnL_some r h1] at h
    injection h with h
    injection h with h2 h3
    subst h2 h3
    unfold docL
    rw [linesL_cons r h1]
    cases hl : linesL r with
    | none =>
      simp only [Option.map_none]
      cases itemD a' with
      | none => rfl
      | some x => simp
    | some M =>
      simp only [Option.map_some]
      rfl
def numH (l : List UInt8) : Option (Nat × List UInt8) := match lnL l with
  | none => none
  | some (a, r) => if (numR (parseL a)).2 = true ∧ 1 ≤ (numR (parseL a)).1 ∧ (numR (parseL a)).1 ≤ 4096 then some ((numR (parseL a)).1.toNat, r) else none
/-- what the document reads -/
def loadL (l : List UInt8) : Option St := match numH l with
  | none => none
  | some (p, r) => match numH r with
    | none => none
    | some (q, rest) => if p ≤ 64 then (docL p q [] rest).map fun L => ⟨p, q, L⟩ else none
/-! the program's way -/
def ws0 (X : List Kv) : List Wr := X.map fun x => ⟨x.1, false, x.2⟩
def keys0 (X : List Kv) : List ByteArray := X.map (·.1)
def endP (p q : Nat) (X : List Kv) : Option St := if claimE ⟨p, q, []⟩ (keys0 X) = 0 ∧ applyE (claimS ⟨p, q, []⟩ (keys0 X)) (ws0 X) = 0 then some (applyS (claimS ⟨p, q, []⟩ (keys0 X)) (ws0 X)) else none
def headP (one two : Int × Bool) : Bool := one.2 && two.2 && decide (1 ≤ one.1) && decide (one.1 ≤ 64) && decide (1 ≤ two.1) && decide (two.1 ≤ 4096)
def progL (M : List (List UInt8)) : Option St :=
  if M.length < 3 ∨ M.getLastD [0] ≠ [] then none
  else if headP (numR (parseL (M.getD 0 []))) (numR (parseL (M.getD 1 []))) = false then none
  else match parP ((M.drop 2).dropLast) with
    | none => none
    | some X => endP (numR (parseL (M.getD 0 []))).1.toNat (numR (parseL (M.getD 1 []))).1.toNat X
/-- a rising list whose partitions have room -/
structure Goodly (p q : Nat) (X : List Kv) : Prop where
  key : ∀ x ∈ X, validK x.1 = true
  asc : Asc X
  cnt : ∀ t, t < p → cntP p t X ≤ q
theorem last_lt {acc : List Kv} (ha : Asc acc) {x : Kv} (h : lastLt acc x = true) : Asc (acc ++ [x]) := by
  unfold Asc
  rw [List.pairwise_append]
  refine ⟨ha, List.pairwise_singleton _ _, fun a haa b hb => ?_⟩
  rw [List.mem_singleton.1 hb]
  unfold lastLt at h
  rcases List.eq_nil_or_concat acc with rfl | ⟨m, y, rfl⟩
  · cases haa
  · rw [List.concat_eq_append] at h ha haa
    rw [List.getLast?_concat] at h
    simp only at h
    unfold Asc at ha
    rw [List.pairwise_append] at ha
    rcases List.mem_append.1 haa with h1 | h1
    · exact ltB_trans (ha.2.2 a h1 y (by simp)) h
    · rw [List.mem_singleton.1 h1]; exact h
theorem asc_last {acc X : List Kv} {x : Kv} (h : Asc (acc ++ x :: X)) : lastLt acc x = true := by
  unfold lastLt
  cases hl : acc.getLast? with
  | none => rfl
  | some y =>
    unfold Asc at h
    rw [List.pairwise_append] at h
    exact h.2.2 y (List.mem_of_getLast? hl) x (List.mem_cons_self ..)
theorem cnt_app (p t : Nat) (X Y : List Kv) : cntP p t (X ++ Y) = cntP p t X + cntP p t Y := by unfold cntP; rw [List.countP_append]
theorem fold_good {p q : Nat} (hp : 0 < p) : ∀ (M : List (List UInt8)) (acc Y : List Kv), Goodly p q acc → (foldD p q acc M = some Y ↔ ∃ X, parP M = some X ∧ Y = acc ++ X ∧ Goodly p q Y)
  | [], acc, Y, ha => by
    constructor
    · intro h
      injection h with h
      exact ⟨[], rfl, by rw [← h]; simp, h ▸ ha⟩
    · rintro ⟨X, h1, h2, _⟩
      injection h1 with h1
      rw [h2, ← h1]
      show some acc = _
      simp
  | a :: M, acc, Y, ha => by
    unfold foldD
    unfold parP
    unfold itemD
    cases hi : itemP a with
    | none => exact ⟨fun h => (by cases h), fun ⟨X, h, _⟩ => (by cases h)⟩
    | some x =>
      simp only
      by_cases hv : validK x.1 = true
      · rw [if_pos hv]
        simp only
        by_cases hs : stepD p q acc x = true
        · rw [if_pos hs]
          unfold stepD at hs
          rw [Bool.and_eq_true] at hs
          have hc := of_decide_eq_true hs.2
          have ha2 : Goodly p q (acc ++ [x]) := ⟨fun y hy => by
              rcases List.mem_append.1 hy with hy | hy
              · exact ha.key y hy
              · rw [List.mem_singleton.1 hy]; exact hv, last_lt ha.asc hs.1, fun t ht => by
              by_cases e : partK p x.1 = t
              · rw [← e]; exact hc
              · rw [cnt_app]
                have h0 : cntP p t [x] = 0 := by unfold cntP; simp [e]
                rw [h0]; exact ha.cnt t ht⟩
          rw [fold_good hp M _ Y ha2]
          constructor
          · rintro ⟨X, h1, h2, h3⟩
            refine ⟨x :: X, by rw [h1]; rfl, by rw [h2]; simp, h3⟩
          · rintro ⟨X, h1, h2, h3⟩
            cases hpm : parP M with
            | none => rw [hpm] at h1; cases h1
            | some Z =>
              rw [hpm] at h1
              injection h1 with h1
              exact ⟨Z, rfl, by rw [h2, ← h1]; simp, h3⟩
        · rw [if_neg hs]
          constructor
          · intro h; cases h
          · rintro ⟨X, h1, h2, h3⟩
            exfalso
            apply hs
            cases hpm : parP M with
            | none => rw [hpm] at h1; cases h1
            | some Z =>
              rw [hpm] at h1
              injection h1 with h1
              rw [h2, ← h1] at h3
              unfold stepD
              rw [Bool.and_eq_true]
              refine ⟨asc_last h3.asc, decide_eq_true ?_⟩
              have := h3.cnt (partK p x.1) (partK_lt _ hp)
              rw [show acc ++ x :: Z = (acc ++ [x]) ++ Z by simp, cnt_app] at this
              omega
      · rw [if_neg hv]
        constructor
        · intro h; cases h
        · rintro ⟨X, h1, h2, h3⟩
          exfalso
          apply hv
          cases hpm : parP M with
          | none => rw [hpm] at h1; cases h1
          | some Z =>
            rw [hpm] at h1
            injection h1 with h1
            rw [h2, ← h1] at h3
            exact h3.key x (by simp)
end Go.Proofs.YtphglnenafdkaaaGreatDoor

namespace Go.Proofs.YtphglnenafdkaaaGreatDoor
open Go.Shelf
def laysSort_ren : Go.Shelf.Ren := ⟨fun | 6 => 75 | 15 => 92 | 14 => 94 | 28 => 124 | 29 => 125 | 20 => 126 | 21 => 127 | 22 => 128 | 23 => 129 | 24 => 130 | 25 => 131 | 26 => 132 | 27 => 133 | 46 => 156 | 47 => 151 | 48 => 152 | 49 => 157 | 50 => 158 | 57 => 169 | n => n, fun | 22 => 62 | 24 => 70 | 25 => 129 | 3 => 3 | 39 => 136 | 0 => 0 | 53 => 159 | 55 => 118 | 4 => 4 | 46 => 152 | 45 => 151 | 50 => 95 | 5 => 5 | 9 => 9 | 66 => 174 | 70 => 178 | 76 => 190 | 77 => 191 | n => n, fun | n => n⟩
theorem laysSort : Go.Proofs.SlLaysF0.n6 Tryz.prog laysSort_ren := {
  mixed := by kernel_rfl
  f6 := ⟨Tryz.f75.name, by decide, Tryz.func75.trans (congrArg some (by kernel_rfl))⟩
  f14 := ⟨Tryz.f94.name, by decide, Tryz.func94.trans (congrArg some (by kernel_rfl))⟩
  f15 := Tryz.func92.trans (congrArg some (by kernel_rfl))
  f20 := ⟨Tryz.f126.name, by decide, Tryz.func126.trans (congrArg some (by kernel_rfl))⟩
  f21 := ⟨Tryz.f127.name, by decide, Tryz.func127.trans (congrArg some (by kernel_rfl))⟩
  f22 := ⟨Tryz.f128.name, by decide, Tryz.func128.trans (congrArg some (by kernel_rfl))⟩
  f23 := ⟨Tryz.f129.name, by decide, Tryz.func129.trans (congrArg some (by kernel_rfl))⟩
  f24 := ⟨Tryz.f130.name, by decide, Tryz.func130.trans (congrArg some (by kernel_rfl))⟩
  f25 := ⟨Tryz.f131.name, by decide, Tryz.func131.trans (congrArg some (by kernel_rfl))⟩
  f26 := ⟨Tryz.f132.name, by decide, Tryz.func132.trans (congrArg some (by kernel_rfl))⟩
  f27 := ⟨Tryz.f133.name, by decide, Tryz.func133.trans (congrArg some (by kernel_rfl))⟩
  f28 := Tryz.func124.trans (congrArg some (by kernel_rfl))
  f29 := Tryz.func125.trans (congrArg some (by kernel_rfl))
  f46 := ⟨Tryz.f156.name, by decide, Tryz.func156.trans (congrArg some (by kernel_rfl))⟩
  f47 := Tryz.func151.trans (congrArg some (by kernel_rfl))
  f48 := Tryz.func152.trans (congrArg some (by kernel_rfl))
  f49 := ⟨Tryz.f157.name, by decide, Tryz.func157.trans (congrArg some (by kernel_rfl))⟩
  f50 := ⟨Tryz.f158.name, by decide, Tryz.func158.trans (congrArg some (by kernel_rfl))⟩
  f57 := ⟨Tryz.f169.name, by decide, Tryz.func169.trans (congrArg some (by kernel_rfl))⟩
  t0 := Tryz.underlying0
  a0 := Tryz.isAgg0
  z0 := Tryz.sizeOf0
  v0 := Tryz.zeroValue0
  t3 := Tryz.underlying3
  a3 := Tryz.isAgg3
  z3 := Tryz.sizeOf3
  v3 := Tryz.zeroValue3
  t4 := Tryz.underlying4
  a4 := Tryz.isAgg4
  z4 := Tryz.sizeOf4
  v4 := Tryz.zeroValue4
  t5 := Tryz.underlying5
  a5 := Tryz.isAgg5
  z5 := Tryz.sizeOf5
  v5 := Tryz.zeroValue5
  t9 := Tryz.underlying9
  a9 := Tryz.isAgg9
  z9 := Tryz.sizeOf9
  v9 := Tryz.zeroValue9
  t22 := Tryz.underlying62
  a22 := Tryz.isAgg62
  z22 := Tryz.sizeOf62
  v22 := Tryz.zeroValue62
  t25 := Tryz.underlying129
  a25 := Tryz.isAgg129
  z25 := Tryz.sizeOf129
  v25 := Tryz.zeroValue129
  t39 := Tryz.underlying136
  a39 := Tryz.isAgg136
  z39 := Tryz.sizeOf136
  v39 := Tryz.zeroValue136
  t45 := Tryz.underlying151
  a45 := Tryz.isAgg151
  z45 := Tryz.sizeOf151
  v45 := Tryz.zeroValue151
  t46 := Tryz.underlying152
  a46 := Tryz.isAgg152
  z46 := Tryz.sizeOf152
  v46 := Tryz.zeroValue152
  t50 := Tryz.underlying95
  a50 := Tryz.isAgg95
  z50 := Tryz.sizeOf95
  v50 := Tryz.zeroValue95
  t53 := Tryz.underlying159
  a53 := Tryz.isAgg159
  z53 := Tryz.sizeOf159
  v53 := Tryz.zeroValue159
  t55 := Tryz.underlying118
  a55 := Tryz.isAgg118
  z55 := Tryz.sizeOf118
  v55 := Tryz.zeroValue118
  t66 := Tryz.underlying174
  a66 := Tryz.isAgg174
  z66 := Tryz.sizeOf174
  v66 := Tryz.zeroValue174
  t70 := Tryz.underlying178
  a70 := Tryz.isAgg178
  z70 := Tryz.sizeOf178
  v70 := Tryz.zeroValue178
  t76 := Tryz.underlying190
  a76 := Tryz.isAgg190
  z76 := Tryz.sizeOf190
  v76 := Tryz.zeroValue190
  t77 := Tryz.underlying191
  a77 := Tryz.isAgg191
  z77 := Tryz.sizeOf191
  v77 := Tryz.zeroValue191 }
end Go.Proofs.YtphglnenafdkaaaGreatDoor

namespace Go.Proofs.YtphglnenafdkaaaGreatDoor
open Go.RowKit Go.Sort Go.Shelf Go.Lib
set_option linter.unusedVariables false
set_option linter.unusedSimpArgs false

instance : Inhabited Vl := ⟨vl0⟩
def encI (x : Kv) : List Value := [.string x.1, .int .i64 x.2.k, .int .i64 x.2.n, .string x.2.s]
theorem encI_len (x : Kv) : (encI x).length = 4 := rfl
theorem encI_one (x : Kv) : ∀ v ∈ encI x, v.oneCell' = true := by
  intro v hv
  simp only [encI, List.mem_cons, List.not_mem_nil, or_false] at hv
  rcases hv with rfl | rfl | rfl | rfl <;> rfl
theorem kvCells_snoc (L : List Kv) (x : Kv) : kvCells (L ++ [x]) = kvCells L ++ encI x := by unfold kvCells; simp [encI]
theorem kvCells_one (L : List Kv) : ∀ v ∈ kvCells L, v.oneCell' = true := by
  intro v hv
  obtain ⟨x, _, hx⟩ := List.mem_flatMap.1 hv
  exact encI_one x v hx
theorem flat_get {L : List Kv} {t : Nat} (ht : t < L.length * 4) : (kvCells L)[t]? = some ((flatK encI 4 L.toArray)[t]!) := by
  rw [get_flatK encI 4 L.toArray t (by simpa using ht)]
  have hi : t / 4 < L.length := by omega
  have hx : L.toArray[t / 4]! = L[t / 4] := by simp [hi]
  rw [hx]
  obtain ⟨h1, h2, h3, h4⟩ := kvCells_at (L := L) (i := t / 4) (x := L[t / 4]) (by simp [hi])
  have hr : t % 4 < 4 := Nat.mod_lt _ (by decide)
  have ht4 : t = t / 4 * 4 + t % 4 := by omega
  generalize L[t / 4] = x at *
  have hc : t % 4 = 0 ∨ t % 4 = 1 ∨ t % 4 = 2 ∨ t % 4 = 3 := by omega
  rcases hc with e | e | e | e <;> rw [e] at ht4 ⊢
  · rw [ht4]; simpa [encI] using h1
  · rw [ht4]; simpa [encI] using h2
  · rw [ht4]; simpa [encI] using h3
  · rw [ht4]; simpa [encI] using h4
theorem holds_kv {w : World} {g cap : Nat} {cur : Array Value} {e : TypeId} {L : List Kv} (hb : w.heap[g]? = some (.cells cur e (0, 0))) (ht : cur.toList.take (L.length * 4) = kvCells L) : HoldsK encI 4 w g 0 L.toArray := by
  intro j hj
  have hj' : j < L.length * 4 := by simpa using hj
  have h1 := flat_get hj'
  rw [← ht, List.getElem?_take_of_lt hj', Array.getElem?_toList] at h1
  refine ⟨?_, by simp [World.frozen?, hb]⟩
  simp only [World.cell?, hb, Nat.zero_add, Option.isSome_none, Bool.false_eq_true, if_false, id]
  exact h1
theorem heap_sortedK {w : World} {g n : Nat} {os : Array Obj} {cur : Array Value} {e : TypeId} {fr : Nat × Nat} (d : Array Kv) (hb : w.heap[g]? = some (.cells cur e fr)) :
    (sortWorldK encI 4 w g 0 n d os).heap[g]? = some (.cells (putCells id 0 (flatK encI 4 d) cur) e fr) := by
  have hg : g < w.heap.size := (Array.getElem?_eq_some_iff.1 hb).1
  unfold sortWorldK putRowK
  rw [heap_grow_old _ _ (by simpa using hg)]
  simp [putRow, mapBlock, Sort.ahead, Array.getElem?_modify, hb, onCells]
theorem grownBy_sortedK {w : World} {g n : Nat} {os : Array Obj} (d : Array Kv) : w.grownBy (sortWorldK encI 4 w g 0 n d os) (some g) := by
  unfold sortWorldK putRowK
  refine ⟨rfl, rfl, rfl, by simp, fun k hk hne => ?_⟩
  rw [heap_grow_old _ _ (by simpa using hk)]
  have : g ≠ k := fun e => hne (by rw [e])
  simp [putRow, mapBlock, Sort.ahead, Array.getElem?_modify, this]
theorem ownsRow_sortedK {w : World} {base g cap n : Nat} {e : TypeId} {os : Array Obj} {cur : Array Value} {ss ts : List Kv} (hl : ts.length = ss.length) (hbase : base ≤ g) (hb : w.heap[g]? = some (.cells cur e (0, 0)))
    (h1 : ss.length ≤ cap) (h2 : cap ≤ maxLen) (h3 : cur.size = cap * 4) :
    (sortWorldK encI 4 w g 0 n ts.toArray os).ownsRow base e 4 (.slice (some ⟨g, 0, none⟩) ss.length cap) ss.length (kvCells ts) := by
  refine ⟨by rw [kvCells_len, hl], .inr ⟨g, cap, _, rfl, hbase, heap_sortedK _ hb, h1, h2, by simp [putCells, h3], ?_⟩⟩
  apply List.ext_getElem?
  intro j
  by_cases hj : j < ts.length * 4
  · rw [List.getElem?_take_of_lt (by omega), Array.getElem?_toList, flat_get hj]
    simp [putCells, hj, show j < cur.size by omega]
  · rw [List.getElem?_take_eq_none (by omega), List.getElem?_eq_none (by rw [kvCells_len]; omega)]
/-! the order -/
def cfK (x y : Kv) : Int := Lib.compareBytes x.1.data.toList y.1.data.toList
theorem ltOf_kv (x y : Kv) : ltOf cfK x y = ltB x.1 y.1 := by
  have h := ltB_iff x.1 y.1
  rw [ByteArray.toList_eq, ByteArray.toList_eq] at h
  have hr := ord_bytes.rng x.1.data.toList y.1.data.toList
  unfold ltOf cfK
  rw [Bool.eq_iff_iff, decide_eq_true_eq, h]
  omega
theorem swo_kv : SWO (ltOf cfK) where
  irrefl x := by rw [ltOf_kv]; exact ltB_irrefl _
  trans x y z h1 h2 := by rw [ltOf_kv] at *; exact ltB_trans h1 h2
  ntrans x y z h1 h2 := by
    rw [ltOf_kv] at *
    cases h : ltB x.1 z.1 with
    | false => rfl
    | true =>
      cases h3 : ltB y.1 x.1 with
      | true => rw [ltB_trans h3 h] at h2; cases h2
      | false => rw [ltB_tri h1 h3] at h; rw [h] at h2; cases h2
theorem sorted_kv {out M : List Kv} {d' : Array Kv} (hM : Asc M) (hp : out.Perm M) (h1 : PermIn 0 out.toArray.size out.toArray d') (h2 : SortedIn (ltOf cfK) 0 out.toArray.size d') : d'.toList = M := by
  obtain ⟨hsz, _, hpe⟩ := h1
  have hsz' : d'.size = out.length := by simpa using hsz
  have e1 : (d'.extract 0 out.toArray.size).toList = d'.toList := by
    rw [show out.toArray.size = d'.size by rw [hsz]]; simp
  have e2 : (out.toArray.extract 0 out.toArray.size).toList = out := by simp
  rw [e1, e2] at hpe
  have hpm := hpe.trans hp
  refine asc_eq ?_ hM hpm
  unfold Asc
  rw [List.pairwise_iff_getElem]
  intro i j hi hj hij
  have hs := h2 i j (Nat.zero_le _) hij (by simp at hj ⊢; omega)
  rw [ltOf_kv] at hs
  have gi : d'[i]! = d'.toList[i] := by simp at hi; simp [hi]
  have gj : d'[j]! = d'.toList[j] := by simp at hj; simp [hj]
  rw [gi, gj] at hs
  cases h : ltB (d'.toList[i]).1 (d'.toList[j]).1 with
  | true => rfl
  | false =>
    have e := ltB_tri h hs
    have hn : (d'.toList.map (·.1)).Nodup := (hpm.map _).nodup_iff.2 (asc_nodup hM)
    rw [List.nodup_iff_pairwise_ne, List.pairwise_map, List.pairwise_iff_getElem] at hn
    exact absurd e (hn i j hi hj hij)
/-! what has come -/
def vlV (v : Vl) : Value := .agg #[.int .i64 v.k, .int .i64 v.n, .string v.s]
theorem vlV_inj {u v : Vl} (h : vlV u = vlV v) : u = v := by
  unfold vlV at h
  obtain ⟨a, b, c⟩ := u
  obtain ⟨a', b', c'⟩ := v
  injection h with h
  simp at h
  obtain ⟨h1, h2, h3⟩ := h
  subst h1; subst h2; subst h3; rfl
def encP (x : Kv) : Value × Value := (.string x.1, vlV x.2)
theorem dv_some {L : List Kv} {k : ByteArray} {u : Value} (ha : Asc L) (h : Dv L k = some u) : (k, valK k L) ∈ dumpL L ∧ u = vlV (valK k L) := by
  unfold Dv at h
  by_cases h0 : (valK k L).k = 0
  · rw [if_pos h0] at h; cases h
  · rw [if_neg h0] at h
    injection h with h
    have hk : hasK k L = true := by
      cases hh : hasK k L with
      | true => rfl
      | false => exact absurd (by rw [valK_none hh]; rfl) h0
    obtain ⟨x, hx, hxk⟩ := hasK_mem.1 hk
    have := valK_mem ha hx
    rw [hxk] at this
    refine ⟨List.mem_filter.2 ⟨?_, by simp [h0]⟩, h.symm⟩
    rw [this, ← hxk]; exact hx
theorem dump_mem {L : List Kv} (ha : Asc L) {x : Kv} (h : x ∈ dumpL L) : Dv L x.1 = some (vlV x.2) := by
  obtain ⟨h1, h2⟩ := List.mem_filter.1 h
  have := valK_mem ha h1
  simp at h2
  unfold Dv
  rw [this, if_neg h2]; rfl
theorem nodup_of_map {α β : Type} (f : α → β) {l : List α} (h : (l.map f).Nodup) : l.Nodup := by
  rw [List.nodup_iff_pairwise_ne, List.pairwise_map] at h
  rw [List.nodup_iff_pairwise_ne]
  exact h.imp fun h e => h (by rw [e])
theorem nodup_map {α β : Type} {f : α → β} (hf : ∀ a b, f a = f b → a = b) {l : List α} (h : l.Nodup) : (l.map f).Nodup := by
  rw [List.nodup_iff_pairwise_ne] at h
  rw [List.nodup_iff_pairwise_ne, List.pairwise_map]
  exact h.imp fun h e => h (hf _ _ e)
theorem kvp_inj : ∀ a b : Kv, ((a.1, vlV a.2) : ByteArray × Value) = (b.1, vlV b.2) → a = b := fun a b e => by
  obtain ⟨a1, a2⟩ := a; obtain ⟨b1, b2⟩ := b
  injection e with e1 e2
  simp only at e1 e2
  rw [e1, vlV_inj e2]
theorem map_perm {w : World} {b : Nat} {L : List Kv} {l : List (ByteArray × Value)} (ha : Asc L) (h : MapIs strE w b l) (hd : ∀ x, getK x l = Dv L x) : l.Perm ((dumpL L).map fun x => (x.1, vlV x.2)) := (List.perm_ext_iff_of_nodup (nodup_of_map _ h.nodup) (nodup_map kvp_inj (nodup_of_map _ (asc_nodup (dump_asc ha))))).2 fun p => by
  obtain ⟨y, u⟩ := p
  rw [← getK_mem h.nodup, hd]
  constructor
  · intro hy
    obtain ⟨h4, h5⟩ := dv_some ha hy
    exact List.mem_map.2 ⟨_, h4, by rw [h5]⟩
  · intro hy
    obtain ⟨x, hx, e⟩ := List.mem_map.1 hy
    injection e with e1 e2
    rw [← e1, ← e2]; exact dump_mem ha hx
theorem map_len {w : World} {b : Nat} {L : List Kv} {l : List (ByteArray × Value)} (ha : Asc L) (h : MapIs strE w b l) (hd : ∀ x, getK x l = Dv L x) : l.length = (dumpL L).length := by
  rw [(map_perm ha h hd).length_eq, List.length_map]
/-- what came of the values' map is what dump tells, in some order -/
theorem done_dump {w : World} {b : Nat} {L : List Kv} {l : List (ByteArray × Value)} {es : Array MapEntry} {out : List Kv} (ha : Asc L) (h : MapIs strE w b l) (hd : ∀ x, getK x l = Dv L x) (hpr : pairs es.toList = encs strE l) (ho : (pairs es.toList).Perm (out.map encP)) : out.Perm (dumpL L) := by
  have e1 : out.map encP = encs strE (out.map fun x => (x.1, vlV x.2)) := by unfold encs; rw [List.map_map]; rfl
  rw [hpr, e1] at ho
  have h4 := (encs_inj w ho).symm.trans (map_perm ha h hd)
  exact encs_inj.perm_of_map (f := fun x : Kv => (x.1, vlV x.2)) (fun a b e => kvp_inj a b e) h4
theorem done_le {κ : Type} [DecidableEq κ] {P : Program} {k : TypeId} {E : KeyEnc P k κ} {es : Array MapEntry} {seen : Array Nat} {l : List (κ × Value)} (hpr : pairs es.toList = encs E l) : (doneOf es seen).length ≤ l.length := by
  have h1 : (pairs es.toList).length = l.length := by rw [hpr]; simp [encs]
  have h2 : (doneOf es seen).length ≤ (pairs es.toList).length := by unfold doneOf pairs; simp only [List.length_map]; exact List.length_filter_le _ _
  omega
/-! how many there are -/
theorem len_parts {α : Type} (f : α → Nat) (r : Nat) : ∀ (n : Nat) (l : List α), (∀ x ∈ l, f x < n) → (∀ p, p < n → l.countP (fun x => decide (f x = p)) ≤ r) → l.length ≤ n * r := by
  intro n
  induction n with
  | zero =>
    intro l h _
    cases l with
    | nil => simp
    | cons x l => have := h x (List.mem_cons_self ..); omega
  | succ n ih =>
    intro l h hc
    have h1 := ih (l.filter fun x => !decide (f x = n)) (fun x hx => by
      have h2 := List.mem_filter.1 hx
      have := h x h2.1
      simp at h2
      omega) fun p hp => by
        refine Nat.le_trans ?_ (hc p (by omega))
        exact (List.filter_sublist).countP_le
    have h2 := hc n (by omega)
    have h3 : l.length = (l.filter fun x => decide (f x = n)).length + (l.filter fun x => !decide (f x = n)).length := by
      rw [← List.countP_eq_length_filter, ← List.countP_eq_length_filter]
      have := List.length_eq_countP_add_countP (l := l) (fun x => decide (f x = n))
      rw [this]
      congr 1
      exact List.countP_congr fun x _ => by simp
    rw [← List.countP_eq_length_filter] at h3
    rw [Nat.succ_mul]
    omega
theorem St.Ok.len {s : St} (h : s.Ok) : s.L.length ≤ 262144 := by
  have := len_parts (fun x : Kv => partK s.parts x.1) s.room s.parts s.L (fun x _ => partK_lt _ (by have := h.parts; omega)) fun p hp => h.cnt p hp
  have h1 := h.parts.2
  have h2 := h.room.2
  have : s.parts * s.room ≤ 64 * 4096 := Nat.mul_le_mul h1 h2
  omega
theorem St.Ok.dlen {s : St} (h : s.Ok) : (dumpL s.L).length ≤ 262144 := Nat.le_trans (List.length_filter_le _ _) h.len
end Go.Proofs.YtphglnenafdkaaaGreatDoor

namespace Go.Proofs.YtphglnenafdkaaaGreatDoor
open Go.RowKit
set_option linter.unusedVariables false
set_option linter.unusedSimpArgs false

/-- partition p's keys; those of the partitions below i -/
def keysP (n p : Nat) (L : List Kv) : List ByteArray := (L.filter fun x => decide (partK n x.1 = p)).map (·.1)
def keysTo (n i : Nat) (L : List Kv) : List ByteArray := (L.filter fun x => decide (partK n x.1 < i)).map (·.1)
def encK (k : ByteArray) : Value × Value := (.string k, .int .i64 1)
theorem keysTo_zero (n : Nat) (L : List Kv) : keysTo n 0 L = [] := by simp [keysTo]
theorem keysTo_all {n : Nat} (hn : 0 < n) (L : List Kv) : keysTo n n L = L.map (·.1) := by
  unfold keysTo
  congr 1
  exact List.filter_eq_self.2 fun x _ => by simpa using partK_lt x.1 hn
theorem filter_step {α : Type} (f : α → Nat) (i : Nat) : ∀ L : List α, ((L.filter fun x => decide (f x < i)) ++ (L.filter fun x => decide (f x = i))).Perm (L.filter fun x => decide (f x < i + 1))
  | [] => List.Perm.refl _
  | a :: L => by
    have ih := filter_step f i L
    by_cases h1 : f a < i
    · rw [List.filter_cons_of_pos (by simpa using h1), List.filter_cons_of_neg (by simp; omega), List.filter_cons_of_pos (by simp; omega)]
      exact ih.cons _
    · by_cases h2 : f a = i
      · rw [List.filter_cons_of_neg (by simpa using h1), List.filter_cons_of_pos (by simpa using h2), List.filter_cons_of_pos (by simp; omega)]
        exact List.perm_middle.trans (ih.cons _)
      · rw [List.filter_cons_of_neg (by simpa using h1), List.filter_cons_of_neg (by simpa using h2), List.filter_cons_of_neg (by simp; omega)]
        exact ih
theorem keysTo_step (n i : Nat) (L : List Kv) : (keysTo n i L ++ keysP n i L).Perm (keysTo n (i + 1) L) := by
  unfold keysTo keysP
  rw [← List.map_append]
  exact (filter_step (fun x : Kv => partK n x.1) i L).map _
theorem keysP_mem {n p : Nat} {L : List Kv} {k : ByteArray} : k ∈ keysP n p L ↔ hasK k L = true ∧ partK n k = p := by
  unfold keysP
  rw [hasK_mem]
  constructor
  · intro h
    obtain ⟨x, hx, rfl⟩ := List.mem_map.1 h
    obtain ⟨h1, h2⟩ := List.mem_filter.1 hx
    exact ⟨⟨x, h1, rfl⟩, by simpa using h2⟩
  · rintro ⟨⟨x, hx, rfl⟩, h2⟩
    exact List.mem_map.2 ⟨x, List.mem_filter.2 ⟨hx, by simpa using h2⟩, rfl⟩
theorem keysP_nodup {n p : Nat} {L : List Kv} (ha : Asc L) : (keysP n p L).Nodup := (List.filter_sublist.map _).nodup (asc_nodup ha)
theorem kp1_inj : ∀ a b : ByteArray, ((a, Value.int .i64 1) : ByteArray × Value) = (b, Value.int .i64 1) → a = b := fun a b e => by injection e
theorem claims_perm {w : World} {b n p : Nat} {L : List Kv} {l : List (ByteArray × Value)} (ha : Asc L) (h : MapIs strE w b l) (hd : ∀ x, getK x l = Dc L n p x) : l.Perm ((keysP n p L).map fun k => (k, Value.int .i64 1)) :=
  (List.perm_ext_iff_of_nodup (nodup_of_map _ h.nodup) (nodup_map kp1_inj (keysP_nodup ha))).2 fun q => by
    obtain ⟨y, u⟩ := q
    rw [← getK_mem h.nodup, hd]
    unfold Dc
    constructor
    · intro hy
      by_cases hc : hasK y L = true ∧ partK n y = p
      · rw [if_pos hc] at hy
        injection hy with hy
        exact List.mem_map.2 ⟨y, keysP_mem.2 hc, by rw [hy]⟩
      · rw [if_neg hc] at hy; cases hy
    · intro hy
      obtain ⟨k, hk, e⟩ := List.mem_map.1 hy
      injection e with e1 e2
      subst e1
      rw [if_pos (keysP_mem.1 hk), e2]
theorem claims_len {w : World} {b n p : Nat} {L : List Kv} {l : List (ByteArray × Value)} (ha : Asc L) (h : MapIs strE w b l) (hd : ∀ x, getK x l = Dc L n p x) : l.length = (keysP n p L).length := by
  rw [(claims_perm ha h hd).length_eq, List.length_map]
theorem done_claims {w : World} {b n p : Nat} {L : List Kv} {l : List (ByteArray × Value)} {es : Array MapEntry} {out : List ByteArray} (ha : Asc L) (h : MapIs strE w b l) (hd : ∀ x, getK x l = Dc L n p x) (hpr : pairs es.toList = encs strE l) (ho : (pairs es.toList).Perm (out.map encK)) : out.Perm (keysP n p L) := by
  have e1 : out.map encK = encs strE (out.map fun k => (k, Value.int .i64 1)) := by unfold encs; rw [List.map_map]; rfl
  rw [hpr, e1] at ho
  have h4 := (encs_inj w ho).symm.trans (claims_perm ha h hd)
  exact encs_inj.perm_of_map (f := fun k : ByteArray => (k, Value.int .i64 1)) (fun a b e => kp1_inj a b e) h4
theorem bl_lt : ∀ a b : List UInt8, Op.bytesLess a b = decide (a < b)
  | _, [] => by simp [Op.bytesLess]
  | [], _ :: _ => by simp [Op.bytesLess]
  | a :: x, b :: y => by
    have ih := bl_lt x y
    unfold Op.bytesLess
    rw [ih]
    by_cases h1 : a < b
    · simp [h1, List.cons_lt_cons_iff]
    · by_cases h2 : a = b
      · subst h2; simp [List.cons_lt_cons_iff]
      · simp [h1, h2, List.cons_lt_cons_iff]
/-- slices.Sort on the keys, in whatever order they come -/
theorem sort_keys {L : List Kv} {out : List ByteArray} (ha : Asc L) (hp : out.Perm (L.map (·.1))) : (out.map ByteArray.toList).mergeSort (fun x y => decide (x ≤ y)) = L.map fun x => x.1.toList := by
  have h1 : ((out.map ByteArray.toList).mergeSort (fun x y => decide (x ≤ y))).Perm (L.map fun x => x.1.toList) := by
    refine (List.mergeSort_perm _ _).trans ?_
    have := hp.map ByteArray.toList
    rw [List.map_map] at this
    exact this
  have h2 := List.pairwise_mergeSort (le := fun x y : List UInt8 => decide (x ≤ y)) (fun a b c h1 h2 => by simp only [decide_eq_true_eq] at *; exact List.le_trans h1 h2) (fun a b => by simp only [Bool.or_eq_true, decide_eq_true_eq]; exact List.le_total a b) (out.map ByteArray.toList)
  have h3 : (L.map fun x => x.1.toList).Pairwise fun a b => decide (a ≤ b) = true := by
    rw [List.pairwise_map]
    refine ha.imp fun {a b} h => ?_
    unfold ltB at h
    rw [bl_lt] at h
    simp only [decide_eq_true_eq] at *
    exact List.le_of_lt h
  exact List.Perm.eq_of_pairwise (fun a b _ _ h1 h2 => by simp only [decide_eq_true_eq] at *; exact List.le_antisymm h1 h2) h2 h3 h1
end Go.Proofs.YtphglnenafdkaaaGreatDoor

namespace Go.Proofs.YtphglnenafdkaaaGreatDoor
open Go.Shelf
def lays190_ren : Go.Shelf.Ren := ⟨fun | 190 => 70 | 125 => 92 | 258 => 91 | 128 => 124 | 129 => 125 | 302 => 115 | 303 => 116 | 304 => 117 | 305 => 118 | 306 => 119 | 307 => 120 | 308 => 121 | 309 => 122 | 310 => 123 | 333 => 150 | 329 => 151 | 330 => 152 | 334 => 153 | 335 => 154 | 336 => 155 | 344 => 168 | n => n, fun | 31 => 25 | 9 => 9 | 3 => 3 | 46 => 136 | 0 => 0 | 51 => 159 | 53 => 118 | 4 => 4 | 183 => 152 | 182 => 151 | 131 => 95 | 5 => 5 | 218 => 174 | 222 => 178 | 228 => 190 | 229 => 191 | n => n, fun | n => n⟩
theorem lays190 : Go.Proofs.Lays.n190 Tryz.prog lays190_ren := {
  mixed := by kernel_rfl
  f125 := Tryz.func92.trans (congrArg some (by kernel_rfl))
  f128 := Tryz.func124.trans (congrArg some (by kernel_rfl))
  f129 := Tryz.func125.trans (congrArg some (by kernel_rfl))
  f190 := Tryz.func70.trans (congrArg some (by kernel_rfl))
  f258 := Tryz.func91.trans (congrArg some (by kernel_rfl))
  f302 := Tryz.func115.trans (congrArg some (by kernel_rfl))
  f303 := Tryz.func116.trans (congrArg some (by kernel_rfl))
  f304 := Tryz.func117.trans (congrArg some (by kernel_rfl))
  f305 := Tryz.func118.trans (congrArg some (by kernel_rfl))
  f306 := Tryz.func119.trans (congrArg some (by kernel_rfl))
  f307 := Tryz.func120.trans (congrArg some (by kernel_rfl))
  f308 := Tryz.func121.trans (congrArg some (by kernel_rfl))
  f309 := Tryz.func122.trans (congrArg some (by kernel_rfl))
  f310 := Tryz.func123.trans (congrArg some (by kernel_rfl))
  f329 := Tryz.func151.trans (congrArg some (by kernel_rfl))
  f330 := Tryz.func152.trans (congrArg some (by kernel_rfl))
  f333 := Tryz.func150.trans (congrArg some (by kernel_rfl))
  f334 := Tryz.func153.trans (congrArg some (by kernel_rfl))
  f335 := Tryz.func154.trans (congrArg some (by kernel_rfl))
  f336 := Tryz.func155.trans (congrArg some (by kernel_rfl))
  f344 := Tryz.func168.trans (congrArg some (by kernel_rfl))
  t0 := Tryz.underlying0
  a0 := Tryz.isAgg0
  z0 := Tryz.sizeOf0
  v0 := Tryz.zeroValue0
  t3 := Tryz.underlying3
  a3 := Tryz.isAgg3
  z3 := Tryz.sizeOf3
  v3 := Tryz.zeroValue3
  t4 := Tryz.underlying4
  a4 := Tryz.isAgg4
  z4 := Tryz.sizeOf4
  v4 := Tryz.zeroValue4
  t5 := Tryz.underlying5
  a5 := Tryz.isAgg5
  z5 := Tryz.sizeOf5
  v5 := Tryz.zeroValue5
  t9 := Tryz.underlying9
  a9 := Tryz.isAgg9
  z9 := Tryz.sizeOf9
  v9 := Tryz.zeroValue9
  t31 := Tryz.underlying25
  a31 := Tryz.isAgg25
  z31 := Tryz.sizeOf25
  v31 := Tryz.zeroValue25
  t46 := Tryz.underlying136
  a46 := Tryz.isAgg136
  z46 := Tryz.sizeOf136
  v46 := Tryz.zeroValue136
  t51 := Tryz.underlying159
  a51 := Tryz.isAgg159
  z51 := Tryz.sizeOf159
  v51 := Tryz.zeroValue159
  t53 := Tryz.underlying118
  a53 := Tryz.isAgg118
  z53 := Tryz.sizeOf118
  v53 := Tryz.zeroValue118
  t131 := Tryz.underlying95
  a131 := Tryz.isAgg95
  z131 := Tryz.sizeOf95
  v131 := Tryz.zeroValue95
  t182 := Tryz.underlying151
  a182 := Tryz.isAgg151
  z182 := Tryz.sizeOf151
  v182 := Tryz.zeroValue151
  t183 := Tryz.underlying152
  a183 := Tryz.isAgg152
  z183 := Tryz.sizeOf152
  v183 := Tryz.zeroValue152
  t218 := Tryz.underlying174
  a218 := Tryz.isAgg174
  z218 := Tryz.sizeOf174
  v218 := Tryz.zeroValue174
  t222 := Tryz.underlying178
  a222 := Tryz.isAgg178
  z222 := Tryz.sizeOf178
  v222 := Tryz.zeroValue178
  t228 := Tryz.underlying190
  a228 := Tryz.isAgg190
  z228 := Tryz.sizeOf190
  v228 := Tryz.zeroValue190
  t229 := Tryz.underlying191
  a229 := Tryz.isAgg191
  z229 := Tryz.sizeOf191
  v229 := Tryz.zeroValue191 }
open Go.Sort Go.RowKit in
theorem slices_Sort_string (blk off cap : Nat) (ss : List (List UInt8)) (w : World) (hH : Holds encStr w blk off ss.toArray) (hblk : blk < w.heap.size) (hsz : ss.length < 4611686018427387904) :
    Calls Tryz.prog 70 #[.slice (some ⟨blk, off, none⟩) ss.length cap] w fun e w' =>
      e = .returned (.tuple #[]) ∧ ∃ n os, w' = grow (putRow encStr (Sort.ahead w n) blk off (ss.mergeSort fun x y => decide (x ≤ y)).toArray) os := Any.slices_Sort_string lays190 blk off cap ss w hH hblk hsz
open Go.RowKit Go.Sort in
/-- .. and plain. (LAID: no walk: one application.) -/
theorem slices_Sort_string_none (p : Option Addr) (cap : Nat) (w : World) :
    Calls Tryz.prog 70 #[.slice p 0 cap] w fun e w' => e = .returned (.tuple #[]) ∧ w' = w := Any.slices_Sort_string_none lays190 p cap w
end Go.Proofs.YtphglnenafdkaaaGreatDoor

namespace Go.Proofs.YtphglnenafdkaaaGreatDoor
open Go.RowKit Go.Sort Go.Shelf
set_option linter.unusedVariables false
set_option linter.unusedSimpArgs false

theorem enc_of (k : ByteArray) : encStr k.toList = .string k := by
  rw [ByteArray.toList_eq]
theorem strs_get {l : List ByteArray} {j : Nat} (hj : j < l.length) : (strs l)[j]? = some (encStr ((l.map ByteArray.toList).toArray[j]!)) := by
  have h1 : (l.map ByteArray.toList).toArray[j]! = l[j].toList := by simp [hj]
  rw [h1, enc_of]
  simp [strs, hj]
theorem holds_strs {w : World} {g : Nat} {cur : Array Value} {e : TypeId} {l : List ByteArray} (hb : w.heap[g]? = some (.cells cur e (0, 0))) (ht : cur.toList.take (l.length * 1) = strs l) : Holds encStr w g 0 (l.map ByteArray.toList).toArray := by
  intro j hj
  have hj' : j < l.length := by simpa using hj
  have h1 := strs_get hj'
  rw [← ht, List.getElem?_take_of_lt (by omega), Array.getElem?_toList] at h1
  refine ⟨?_, by simp [World.frozen?, hb]⟩
  simp only [World.cell?, hb, Nat.zero_add, Option.isSome_none, Bool.false_eq_true, if_false]
  exact h1
theorem heap_sortedS {w : World} {g n : Nat} {os : Array Obj} {cur : Array Value} {e : TypeId} {fr : Nat × Nat} (d : Array (List UInt8)) (hb : w.heap[g]? = some (.cells cur e fr)) :
    (grow (putRow encStr (Sort.ahead w n) g 0 d) os).heap[g]? = some (.cells (putCells encStr 0 d cur) e fr) := by
  have hg : g < w.heap.size := (Array.getElem?_eq_some_iff.1 hb).1
  rw [heap_grow_old _ _ (by simpa using hg)]
  simp [putRow, mapBlock, Sort.ahead, Array.getElem?_modify, hb, onCells]
theorem grownBy_sortedS {w : World} {g n : Nat} {os : Array Obj} (d : Array (List UInt8)) : w.grownBy (grow (putRow encStr (Sort.ahead w n) g 0 d) os) (some g) := by
  refine ⟨rfl, rfl, rfl, by simp, fun k hk hne => ?_⟩
  rw [heap_grow_old _ _ (by simpa using hk)]
  have : g ≠ k := fun e => hne (by rw [e])
  simp [putRow, mapBlock, Sort.ahead, Array.getElem?_modify, this]
theorem ownsRow_sortedS {w : World} {base g cap n : Nat} {e : TypeId} {os : Array Obj} {cur : Array Value} {ss ts : List ByteArray} (hl : ts.length = ss.length) (hbase : base ≤ g) (hb : w.heap[g]? = some (.cells cur e (0, 0)))
    (h1 : ss.length ≤ cap) (h2 : cap ≤ maxLen) (h3 : cur.size = cap * 1) :
    (grow (putRow encStr (Sort.ahead w n) g 0 (ts.map ByteArray.toList).toArray) os).ownsRow base e 1 (.slice (some ⟨g, 0, none⟩) ss.length cap) ss.length (strs ts) := by
  refine ⟨by simp [strs, hl], .inr ⟨g, cap, _, rfl, hbase, heap_sortedS _ hb, h1, h2, by simp [putCells, h3], ?_⟩⟩
  apply List.ext_getElem?
  intro j
  by_cases hj : j < ts.length
  · rw [List.getElem?_take_of_lt (by omega), Array.getElem?_toList, strs_get hj]
    simp [putCells, hj, show j < cur.size by omega]
  · rw [List.getElem?_take_eq_none (by omega), List.getElem?_eq_none (by simp [strs]; omega)]
theorem sortk_any {base : Nat} {A : Option Addr} {c : Nat} (out : List ByteArray) (L : List Kv) (w : World) (ha : Asc L) (hp : out.Perm (L.map (·.1))) (hn : out.length ≤ 262144) (hown : w.ownsRow base 9 1 (.slice A out.length c) out.length (strs out)) :
    Calls Tryz.prog 70 #[.slice A out.length c] w fun e w' => e = .returned (.tuple #[]) ∧ w'.ownsRow base 9 1 (.slice A out.length c) out.length (strs (L.map (·.1))) ∧ w.grownBy w' (Value.slice A out.length c).ownBlock := by
  have hlen := hp.length_eq
  rcases hown.2 with ⟨hnil, h0⟩ | ⟨g, cap, cur, hv, hbase, hb, h1, h2, h3, h4⟩
  · rw [h0] at hown ⊢
    refine (slices_Sort_string_none A c w).mono ?_
    rintro e w' ⟨rfl, rfl⟩
    obtain rfl := List.eq_nil_of_length_eq_zero h0
    have : L.map (·.1) = [] := List.eq_nil_of_length_eq_zero hlen.symm
    rw [this]
    exact ⟨rfl, hown, World.grownBy.refl _ _⟩
  · injection hv with hA hn2 hc
    subst hA
    have hlt : g < w.heap.size := (Array.getElem?_eq_some_iff.1 hb).1
    have hcon := slices_Sort_string g 0 c (out.map ByteArray.toList) w (holds_strs hb h4) hlt (by simp; omega)
    rw [sort_keys ha hp, List.length_map] at hcon
    refine hcon.mono ?_
    rintro e w' ⟨rfl, n, os, rfl⟩
    refine ⟨rfl, ?_, grownBy_sortedS _⟩
    have := ownsRow_sortedS (n := n) (os := os) (ss := out) (ts := L.map (·.1)) hlen.symm hbase hb h1 h2 h3
    rw [hc]
    rw [List.map_map] at this
    exact this
end Go.Proofs.YtphglnenafdkaaaGreatDoor

namespace Go.Proofs.YtphglnenafdkaaaGreatDoor
open Go.RowKit Go.Sort Go.Shelf Go.Lib
set_option linter.unusedVariables false
set_option linter.unusedSimpArgs false

theorem info_item : (Tryz.prog.info? 70).map (fun i => (i.zero, i.size, i.bytes)) = some (some (.agg #[.string ⟨#[]⟩, .int .i64 0, .int .i64 0, .string ⟨#[]⟩]), 4, 48) := by kernel_rfl
theorem cmp_any (x y : Kv) (W : World) : Calls Tryz.prog 76 #[.agg (encI x).toArray, .agg (encI y).toArray] W fun e w' => e = .returned (.int .i64 (cfK x y)) ∧ ∃ q os', w' = grow (W.drewN q) os' := by
  have hc := fun W => strings_Compare x.1 y.1 W
  have hr : Hid (cfK x y = Lib.compareBytes x.1.data.toList y.1.data.toList) := hid rfl
  generalize Lib.compareBytes x.1.data.toList y.1.data.toList = r at hc hr
  obtain ⟨k, v⟩ := x
  obtain ⟨j, u⟩ := y
  simp only [encI] at hc ⊢
  go_enter Tryz.func76, Tryz.ntmps76
  go_wp2_with (go_at_call 77; refine (hc _).mono ?_; rintro e w' ⟨rfl, rfl⟩)
  go_ret
  exact ⟨by rw [hr.out]; rfl, 0, _, by rw [alloc_eq_grow, alloc_eq_grow, grow_grow]; rfl⟩
theorem sort_any {base : Nat} {A : Option Addr} {c : Nat} (out M : List Kv) (w : World) (ha : Asc M) (hp : out.Perm M) (hn : out.length ≤ 262144) (hown : w.ownsRow base 70 4 (.slice A out.length c) out.length (kvCells out)) :
    Calls Tryz.prog 75 #[.slice A out.length c, .func (.func 76) #[] #[]] w fun e w' => e = .returned (.tuple #[]) ∧ w'.ownsRow base 70 4 (.slice A out.length c) out.length (kvCells M) ∧ w.grownBy w' (Value.slice A out.length c).ownBlock := by
  rcases hown.2 with ⟨hnil, h0⟩ | ⟨g, cap, cur, hv, hbase, hb, h1, h2, h3, h4⟩
  · have hcon := AnyF.slices_SortFunc_none laysSort A c (.func (.func 76) #[] #[]) w
    change Calls Tryz.prog 75 _ _ _ at hcon
    rw [h0] at hown ⊢
    refine hcon.mono ?_
    rintro e w' ⟨rfl, rfl⟩
    obtain rfl := List.eq_nil_of_length_eq_zero h0
    obtain rfl : M = [] := by
      have := hp.length_eq
      exact List.eq_nil_of_length_eq_zero this.symm
    exact ⟨rfl, hown, World.grownBy.refl _ _⟩
  · injection hv with hA hn2 hc
    subst hA
    have eg : ∀ args w, (callFunc 76 args).run Tryz.prog w = .ok (.enter 76 args) w := enters_of Tryz.func76 (by kernel_rfl) rfl
    have hlt : g < w.heap.size := (Array.getElem?_eq_some_iff.1 hb).1
    have hcon := AnyQ.slices_SortFunc laysSort 4 Tryz.isAgg70 Tryz.sizeOf70 encI encI_len encI_one cfK swo_kv 76 #[] g 0 c out.toArray w eg (fun m os dk hs x y => by simpa using cmp_any x y _) (holds_kv (cap := cap) hb h4) hlt (by simp; omega)
    change Calls Tryz.prog 75 _ _ _ at hcon
    have e1 : out.toArray.size = out.length := by simp
    rw [e1] at hcon
    refine hcon.mono ?_
    rintro e w' ⟨rfl, d', n, os, hpm, hso, rfl⟩
    have hM := sorted_kv ha hp (by rw [e1]; exact hpm) (by rw [e1]; exact hso)
    have hd' : d' = M.toArray := by rw [← hM]
    subst hd'
    refine ⟨rfl, ?_, grownBy_sortedK _⟩
    have := ownsRow_sortedK (n := n) (os := os) (ss := out) (ts := M) hp.length_eq.symm hbase hb h1 h2 h3
    rw [hc]
    exact this
section
variable {s : St} {w : World} {vb : Nat}
set_option maxRecDepth 100000 in
set_option maxHeartbeats 4000000 in
theorem dump_any (h : MapF strE w vb (Dv s.L)) (hok : s.Ok) : Calls Tryz.prog 55 #[.map (some vb)] w fun e w' => ∃ A c, e = .returned (.slice A (dumpL s.L).length c) ∧ w'.ownsRow (w.heap.size + 1) 70 4 (.slice A (dumpL s.L).length c) (dumpL s.L).length (kvCells (dumpL s.L)) ∧ Below w.heap.size w w' := by
  obtain ⟨l, hml, hd⟩ := h
  have hvl := hml.lt
  have hll : l.length ≤ 262144 := by rw [map_len hok.asc hml hd]; exact hok.dlen
  obtain ⟨es, clock, hes, hpr, hst⟩ := id hml
  have hrg := run_range_map (P := Tryz.prog) w 74 9 38 vb es clock Tryz.underlying74 hes
  obtain ⟨i0, hi0, hz0, hz1, hz2⟩ := info_parts info_item
  have hM := hid hml
  have hD := hid hd
  have hP := hid hpr
  have hK := hid hok
  have hS := hid hst
  have hE := hid hes
  have hV := hid hvl
  have hL := hid hll
  clear hml hd hpr hok hst hes hvl hll
  go_enter Tryz.func55, Tryz.ntmps55
  go_wp2_with fail
  go_loopw [3] (fun v wr => ∃ (seen : Array Nat) (c0 : Nat) (out : List Kv) (A : Option Addr) (c : Nat), v = .slice A out.length c ∧ wr.heap[w.heap.size]? = some (.mapIter (some vb) clock seen c0) ∧ clock ≤ c0 ∧ wr.ownsRow (w.heap.size + 1) 70 4 (.slice A out.length c) out.length (kvCells out) ∧ Below w.heap.size w wr ∧ (doneOf es seen).Perm (out.map encP)) (fun _ wr => (leftOf es (wr.iterSeen w.heap.size)).size)
  case atStart => exact ⟨#[], clock, [], none, 0, rfl, heap_alloc_new _ _, Nat.le_refl _, World.ownsRow_nil _ _ _ _, (Below.refl _ _).alloc (Nat.le_refl _) _, by rw [done_none]; exact List.Perm.nil⟩
  case round =>
    clear hrg
    obtain ⟨seen, c0, out, A, c, rfl, hr, hc0, hown, hB0, hdone⟩ := hrel
    have hesr := (hB0.block _ hV.out).trans hE.out
    have hseen0 := hid (seen_of hr)
    have hol : out.length ≤ 262144 := by
      have h1 := hdone.length_eq
      have h2 := done_le (E := strE) (seen := seen) hP.out
      have := hL.out
      simp at h1
      omega
    rcases range_step (P := Tryz.prog) hr hesr hS.out hc0 with ⟨h0, hnx⟩ | ⟨e, wn, he, hns, hsh, hun, hszn, hrn, hesn, hnx, hent⟩
    · have hperm : out.Perm (dumpL s.L) := done_dump hK.out.asc hM.out hD.out hP.out (by rw [← done_all h0]; exact hdone)
      have hso := hid (sort_any (c := c) out (dumpL s.L) wr (dump_asc hK.out.asc) hperm hol hown)
      have hlen := hid hperm.length_eq
      have hB := hid hB0
      have hO := hid hown
      clear hperm h0 hr hesr hown hB0 hdone hol
      go_wp2_with fail
      refine hso.out.mono ?_
      rintro e w3 ⟨rfl, hown3, hg3⟩
      have hfin : Hid (w3.ownsRow (w.heap.size + 1) 70 4 (.slice A out.length c) out.length (kvCells (dumpL s.L)) ∧ Below w.heap.size w w3) := hid ⟨hown3, hB.out.grown hg3 hB.out.size fun k hk => by have := (hO.out.lt k hk).1; omega⟩
      clear hown3 hg3
      go_wp2_with fail
      go_ret
      rw [hlen.out] at hfin ⊢
      exact ⟨A, c, rfl, hfin.out.1, hfin.out.2⟩
    · obtain ⟨p, hp, hek, hev⟩ := done_list (E := strE) (w := w) (b := vb) (clock := clock) hP.out he
      have hget := (getK_mem hM.out.nodup).2 (show (p.1, p.2) ∈ l from hp)
      rw [hD.out] at hget
      obtain ⟨hdm, hev2⟩ := dv_some hK.out.asc hget
      obtain ⟨y, hy⟩ : ∃ y, y = p.1 := ⟨_, rfl⟩
      obtain ⟨v, hv⟩ : ∃ v, v = valK p.1 s.L := ⟨_, rfl⟩
      rw [← hv] at hev2
      have hek : e.key = .string y := by rw [hek, hy]; rfl
      have hev : e.val = .agg #[.int .i64 v.k, .int .i64 v.n, .string v.s] := by rw [hev, hev2]; rfl
      have hpush := hid ((done_push hS.out.2.1 he hns).trans (hdone.cons _))
      rw [hek, hev] at hnx hent hpush
      have hownn : wn.ownsRow (w.heap.size + 1) 70 4 (.slice A out.length c) out.length (kvCells out) := own_updB hown hun fun k hk _ e => by omega
      have hBn : Below w.heap.size w wn := hB0.trans (hun.below (B := w.heap.size) hB0.size fun k hk e => by omega)
      have hHB := hid hBn
      have hHO := hid hownn
      have hHr := hid hrn
      have hsh' := hid hsh
      have hol' := hid hol
      clear hp hget hdm hev2 hek hev hy hv hown hB0 hdone hr hesr hun hrn hesn hBn hownn he hns hsh hol
      clear hszn
      go_wp2_with (
        at_builtin
        refine wpList_append_rd _ rfl (.tmp 13) (.tmp 17) 62 rfl (w.heap.size + 1) 70 i0 _ 4 48 Tryz.underlying62 hi0 hz0 hz1 hz2 rfl (by omega) (.slice A out.length c) out.length (kvCells out) rfl ((hHO.out.alloc _).alloc _) (fun b => b = wn.heap.size + 1) (some ⟨wn.heap.size + 1, 0, none⟩) 1 1 (encI (y, v)) rfl (Rd.new _ 70 4 1 (encI (y, v)).toArray _ (by simp) rfl) (encI_one _) (by have := hol'.out; simp only [maxLen]; omega) (by have := hol'.out; omega) (by have h1 := hHB.out.size; have := (Array.getElem?_eq_some_iff.1 hHr.out).1; simp; omega) ?_
        intro v3 w3 hown3 hg3 hat3
        obtain ⟨A3, c3, rfl, hc3, _⟩ := own_form hown3)
      have hne : (Value.slice A out.length c).ownBlock ≠ some w.heap.size := fun e => by have := (hHO.out.lt _ e).1; omega
      have hrl : w.heap.size < wn.heap.size := (Array.getElem?_eq_some_iff.1 hHr.out).1
      have hr3 : w3.heap[w.heap.size]? = some (.mapIter (some vb) clock (seen.push e.born) clock) := (hg3.block _ (by simp; omega) (Ne.symm hne)).trans ((Below.heap_alloc _ _ _ (by simp; omega)).trans ((Below.heap_alloc _ _ _ hrl).trans hHr.out))
      go_roundw
      case rel =>
        refine ⟨seen.push e.born, clock, out ++ [(y, v)], A3, c3, by simp, hr3, Nat.le_refl _, by rw [kvCells_snoc, List.length_append]; exact hown3, ?_, ?_⟩
        · exact ((hHB.out.alloc hHB.out.size _).alloc (by have := hHB.out.size; simp; omega) _).grown hg3 (by have := hHB.out.size; simp; omega) fun k hk => by have := (hHO.out.lt k hk).1; omega
        · rw [List.map_append]
          exact hpush.out.trans (List.perm_append_comm (l₁ := [encP (y, v)]) (l₂ := out.map encP))
      case measure =>
        rw [seen_of hr3, hseen0.out]
        exact hsh'.out
end
end Go.Proofs.YtphglnenafdkaaaGreatDoor

namespace Go.Proofs.YtphglnenafdkaaaGreatDoor
open Go.RowKit
set_option linter.unusedVariables false
set_option linter.unusedSimpArgs false

theorem info_map : (Tryz.prog.info? 78).map (fun i => (i.zero, i.size, i.bytes)) = some (some (.map none), 1, 8) := by kernel_rfl
theorem st_ok {p r : Nat} (hp : 1 ≤ p ∧ p ≤ 64) (hr : 1 ≤ r ∧ r ≤ 4096) : St.Ok ⟨p, r, []⟩ := ⟨hp, hr, by simp [Asc], by simp, by simp, fun q _ => by simp [cntP]⟩
def goodPR (p r : Int) : Bool := decide (1 ≤ p) && decide (p ≤ 64) && decide (1 ≤ r) && decide (r ≤ 4096)
theorem new_bad (p r : Int) (w : World) (h : goodPR p r = false) : Calls Tryz.prog 14 #[.int .i64 p, .int .i64 r] w fun e w' => e = .returned (.tuple #[.pointer none, .int .i64 2]) ∧ w' = w := by
  have hc : p < 1 ∨ (1 ≤ p ∧ 64 < p) ∨ (1 ≤ p ∧ p ≤ 64 ∧ r < 1) ∨ (1 ≤ p ∧ p ≤ 64 ∧ 1 ≤ r ∧ 4096 < r) := by
    unfold goodPR at h
    simp at h
    omega
  clear h
  rcases hc with h | ⟨h1, h⟩ | ⟨h1, h2, h⟩ | ⟨h1, h2, h3, h⟩
  · have t1 : decide (p < 1) = true := decide_eq_true h
    clear h
    go_enter Tryz.func14, Tryz.ntmps14
    go_wp2_with fail
    go_ret2
    exact ⟨rfl, rfl⟩
  · have t1 : decide (p < 1) = false := decide_eq_false (by omega)
    have t2 : decide (64 < p) = true := decide_eq_true h
    clear h h1
    go_enter Tryz.func14, Tryz.ntmps14
    go_wp2_with fail
    go_ret2
    exact ⟨rfl, rfl⟩
  · have t1 : decide (p < 1) = false := decide_eq_false (by omega)
    have t2 : decide (64 < p) = false := decide_eq_false (by omega)
    have t3 : decide (r < 1) = true := decide_eq_true h
    clear h h1 h2
    go_enter Tryz.func14, Tryz.ntmps14
    go_wp2_with fail
    go_ret2
    exact ⟨rfl, rfl⟩
  · have t1 : decide (p < 1) = false := decide_eq_false (by omega)
    have t2 : decide (64 < p) = false := decide_eq_false (by omega)
    have t3 : decide (r < 1) = false := decide_eq_false (by omega)
    have t4 : decide (4096 < r) = true := decide_eq_true h
    clear h h1 h2 h3
    go_enter Tryz.func14, Tryz.ntmps14
    go_wp2_with fail
    go_ret2
    exact ⟨rfl, rfl⟩
/-- under way: k maps are made -/
structure NewRel (w wr : World) (r k : Nat) (A : Option Addr) (c : Nat) (mb : Nat → Nat) : Prop where
  blk : Blk wr (w.heap.size + 1) 76 #[.int .i64 r, .slice A k c, .map (some w.heap.size)]
  own : wr.ownsRow (w.heap.size + 2) 78 1 (.slice A k c) k ((List.range k).map fun i => .map (some (mb i)))
  mp : ∀ i, i < k → MapF strE wr (mb i) (fun _ => none) ∧ w.heap.size + 2 ≤ mb i
  inj : ∀ i j, i < k → j < k → mb i = mb j → i = j
  vals : MapF strE wr w.heap.size fun _ => none
  bel : Below w.heap.size w wr
theorem NewRel.fin {w wr : World} {r k : Nat} {A : Option Addr} {c : Nat} {mb : Nat → Nat} (h : NewRel w wr r k A c mb) (hk : 1 ≤ k ∧ k ≤ 64) (hr : 1 ≤ r ∧ r ≤ 4096) : PAt (fun j => w.heap.size ≤ j ∧ j < wr.heap.size) wr (w.heap.size + 1) ⟨k, r, []⟩ := by
  rcases h.own.2 with ⟨_, h0⟩ | ⟨g, cap, cur, hv, hbase, hb, h1, h2, h3, h4⟩
  · omega
  · injection hv with hA _ _
    subst hA
    have hgl : g < wr.heap.size := (Array.getElem?_eq_some_iff.1 hb).1
    refine ⟨g, c, mb, w.heap.size, h.blk, ⟨cur, hb, fun p hp => ?_⟩, fun p hp => ?_, fun p q hp hq => h.inj p q hp hq, ?_, fun p hp => ?_, ⟨⟨by omega, h.blk.lt⟩, ⟨by omega, hgl⟩, ⟨Nat.le_refl _, h.vals.lt⟩, fun p hp => ⟨by have := (h.mp p hp).2; omega, (h.mp p hp).1.lt⟩⟩, fun j hj => hj.2, st_ok hk hr⟩
    · have hp' : p < k := hp
      have := congrArg (fun l => l[p]?) h4
      simp only [Nat.mul_one] at this
      rw [List.getElem?_take_of_lt hp', Array.getElem?_toList] at this
      rw [this, List.getElem?_map, List.getElem?_range hp']; rfl
    · refine (h.mp p hp).1.congr fun y => ?_
      simp [Dc, hasK]
    · refine h.vals.congr fun y => ?_
      simp [Dv, valK, vl0]
    · have := (h.mp p hp).2; omega
set_option maxRecDepth 100000 in
set_option maxHeartbeats 4000000 in
theorem new_ok (p r : Nat) (w : World) (hp : 1 ≤ p ∧ p ≤ 64) (hr : 1 ≤ r ∧ r ≤ 4096) : Calls Tryz.prog 14 #[.int .i64 p, .int .i64 r] w fun e w' => ∃ S g, e = .returned (.tuple #[.pointer (some ⟨g, 0, none⟩), .int .i64 0]) ∧ PAt S w' g ⟨p, r, []⟩ ∧ (∀ j, S j → w.heap.size ≤ j) ∧ Below w.heap.size w w' := by
  have t1 : decide ((p : Int) < 1) = false := decide_eq_false (by omega)
  have t2 : decide (64 < (p : Int)) = false := decide_eq_false (by omega)
  have t3 : decide ((r : Int) < 1) = false := decide_eq_false (by omega)
  have t4 : decide (4096 < (r : Int)) = false := decide_eq_false (by omega)
  have t2n : decide (64 < p) = false := decide_eq_false (by omega)
  have t4n : decide (4096 < r) = false := decide_eq_false (by omega)
  have hmm := @run_makeMap Tryz.prog
  obtain ⟨ip, hip, hp0, hp1, hp2⟩ := info_parts info_map
  have hpp := hid hp
  have hrr := hid hr
  have hP : (p : Int) ≤ 64 := by omega
  clear hp hr
  go_enter Tryz.func14, Tryz.ntmps14
  go_upto_region 4 with fail
  have hb0 : Below w.heap.size w ((w.alloc (.map #[] 0)).alloc (.cells #[.int .i64 r, .slice none 0 0, .map (some w.heap.size)] 76)) := below_two _ _
  have R0 : NewRel w ((w.alloc (.map #[] 0)).alloc (.cells #[.int .i64 r, .slice none 0 0, .map (some w.heap.size)] 76)) r 0 none 0 (fun _ => 0) :=
    ⟨Blk.new' _ _ _ (by simp), World.ownsRow_nil _ _ _ _, fun i hi => by omega, fun i j hi => by omega, (MapF.new w).keep (Below.heap_alloc _ _ _ (by simp)), hb0⟩
  have R0 := hid R0
  generalize (w.alloc (.map #[] 0)).alloc (.cells #[.int .i64 r, .slice none 0 0, .map (some w.heap.size)] 76) = W1 at *
  clear hb0
  go_wp2_with fail
  go_loopw [26] (fun v wr => ∃ (k : Nat) (A : Option Addr) (c : Nat) (mb : Nat → Nat), v = .int .i64 k ∧ k ≤ p ∧ NewRel w wr r k A c mb) (fun v _ => p - (intOf v).toNat)
  case atStart => exact ⟨0, none, 0, _, rfl, Nat.zero_le _, R0.out⟩
  case round =>
    clear R0
    obtain ⟨k, A, c, mb, rfl, hk, R⟩ := hrel
    have R := hid R
    have c1 : wr.cell? ⟨w.heap.size + 1, 1, none⟩ = some (.slice A k c) := R.out.blk.cell 1
    by_cases hlt : k < p
    · have i1 : (k : Int) < (p : Int) := by omega
      have hsz := R.out.bel.size
      have c1a : ((wr.alloc (.map #[] 0)).alloc (.cells #[.map (some wr.heap.size)] 78)).cell? ⟨w.heap.size + 1, 1, none⟩ = some (.slice A k c) := ((R.out.blk.alloc _).alloc _).cell 1
      have hgl := hid R.out.blk.lt
      have hownA := hid ((R.out.own.alloc (.map #[] 0)).alloc (.cells #[.map (some wr.heap.size)] 78))
      have hsz' := hid hsz
      have hPk := hid (show k ≤ 64 by omega)
      clear hsz c1a
      go_wp2_with (
        at_builtin
        refine wpList_append_rd _ rfl (.tmp 32) (.tmp 34) 73 rfl (w.heap.size + 2) 78 ip _ 1 8 Tryz.underlying73 hip hp0 hp1 hp2 rfl (by omega) (.slice A k c) k _ rfl hownA.out (fun b => b = wr.heap.size + 1) (some ⟨wr.heap.size + 1, 0, none⟩) 1 1 [.map (some wr.heap.size)] rfl (Rd.new _ 78 1 1 #[.map (some wr.heap.size)] _ (by simp) rfl) (by simp [Value.oneCell']) (by have := hPk.out; simp only [maxLen]; omega) (by have := hPk.out; omega) (by have := hgl.out; simp; omega) ?_
        intro v3 w3 hown3 hg3 hat3
        obtain ⟨A3, c3, rfl, hc3, _⟩ := own_form hown3
        have hgn : some (w.heap.size + 1) ≠ (Value.slice A k c).ownBlock := fun e => by have := (R.out.own.lt _ e.symm).1; omega
        have b3 : Blk w3 (w.heap.size + 1) 76 #[.int .i64 r, .slice A k c, .map (some w.heap.size)] := ((R.out.blk.alloc _).alloc _).grown hg3 hgn
        have x1 : w3.cell? ⟨w.heap.size + 1, 1, none⟩ = some (.slice A k c) := b3.cell 1
        have xf := b3.frozen
        have hb3 := hid b3
        have hgg := hid hg3
        have hoo := hid hown3
        clear b3 hg3 hown3 hgn)
      have hu3 : Upd (fun j => (Value.slice A k c).ownBlock = some j) wr w3 := (((Upd.refl _ wr).alloc _).alloc _).grown hgg.out fun q hq _ => hq
      have hu4 : Upd (fun j => (Value.slice A k c).ownBlock = some j ∨ j = w.heap.size + 1) wr (w3.setCell ⟨w.heap.size + 1, 1, none⟩ (.slice A3 (k + 1) c3)) := (hu3.mono fun j _ h => .inl h).setCell (p := ⟨w.heap.size + 1, 1, none⟩) (fun _ => .inr rfl) _
      have hnm : ∀ {b D}, MapF strE wr b D → ¬ ((Value.slice A k c).ownBlock = some b ∨ b = w.heap.size + 1) := fun {b D} hm h => by
        rcases h with h | h
        · rcases R.out.own.2 with ⟨hn, _⟩ | ⟨gr, cap, cur, hv, _, hbb, _⟩
          · rw [hn] at h; cases h
          · rw [hv] at h
            injection h with h
            exact hm.ne_blk hbb h.symm
        · exact hm.ne_blk R.out.blk h
      go_roundw
      case rel =>
        have hwl : w.heap.size + 1 < wr.heap.size := hgl.out
        refine ⟨k + 1, A3, c3, fun j => if j = k then wr.heap.size else mb j, by go_num, hlt, ⟨?_, ?_, fun i hi => ?_, fun i j hi hj e => ?_, (R.out.vals.upd hu4 (hnm R.out.vals)), ?_⟩⟩
        · exact hb3.out.set_ 1 _
        · have h1 : (w3.setCell ⟨w.heap.size + 1, 1, none⟩ (.slice A3 (k + 1) c3)).ownsRow (w.heap.size + 2) 78 1 (.slice A3 (k + 1) c3) (k + 1) ((List.range k).map (fun i => .map (some (mb i))) ++ [.map (some wr.heap.size)]) := own_updB hoo.out ((Upd.refl (fun j => j = w.heap.size + 1) w3).setCell (p := ⟨w.heap.size + 1, 1, none⟩) (fun _ => rfl) _) fun q hq _ e => by omega
          rw [List.range_succ, List.map_append]
          have e : (List.range k).map (fun i => Value.map (some (if i = k then wr.heap.size else mb i))) = (List.range k).map (fun i => Value.map (some (mb i))) := List.map_congr_left fun i hi => by rw [if_neg (by have := List.mem_range.1 hi; omega)]
          rw [e]
          simpa using h1
        · by_cases e : i = k
          · subst e
            rw [if_pos rfl]
            refine ⟨?_, by omega⟩
            have h0 : MapF strE (wr.alloc (.map #[] 0)) wr.heap.size fun _ => none := MapF.new wr
            have h1 : w3.heap[wr.heap.size]? = (wr.alloc (.map #[] 0)).heap[wr.heap.size]? := (hgg.out.block _ (by simp; omega) fun e => by
              have := (R.out.own.lt _ e.symm).2
              omega).trans (Below.heap_alloc _ _ _ (by simp))
            exact (h0.keep h1).keep (Below.heap_setCell _ _ _ _ (by simp only; omega))
          · rw [if_neg e]
            have := R.out.mp i (by omega)
            exact ⟨this.1.upd hu4 (hnm this.1), this.2⟩
        · have hml : ∀ i, i < k → mb i < wr.heap.size := fun i hi => (R.out.mp i hi).1.lt
          by_cases e1 : i = k
          · by_cases e2 : j = k
            · omega
            · rw [if_pos e1, if_neg e2] at e
              have := hml j (by omega); omega
          · by_cases e2 : j = k
            · rw [if_neg e1, if_pos e2] at e
              have := hml i (by omega); omega
            · rw [if_neg e1, if_neg e2] at e
              exact R.out.inj i j (by omega) (by omega) e
        · exact R.out.bel.trans ((hu4.below (B := w.heap.size) (by omega) fun j hj h => by
            rcases h with h | h
            · have := (R.out.own.lt _ h).1; omega
            · omega))
      case measure => simp [intOf]; omega
    · obtain rfl : k = p := by omega
      have hfin := hid (R.out.fin hpp.out hrr.out)
      have hB := hid R.out.bel
      clear R
      go_wp2_with fail
      go_ret2
      exact ⟨_, _, rfl, hfin.out, fun j hj => hj.1, hB.out⟩
end Go.Proofs.YtphglnenafdkaaaGreatDoor

namespace Go.Proofs.YtphglnenafdkaaaGreatDoor
open Go.RowKit
set_option linter.unusedVariables false
set_option linter.unusedSimpArgs false

/-- a view at block g: its values' map has what L had -/
structure VIn (S : Nat → Prop) (w : World) (g : Nat) (L : List Kv) (vb : Nat) : Prop where
  blk : Blk w g 99 #[.map (some vb)]
  vals : MapF strE w vb (Dv L)
  inS : S g ∧ S vb
  lt : ∀ j, S j → j < w.heap.size
def VAt (S : Nat → Prop) (w : World) (g : Nat) (L : List Kv) : Prop := ∃ vb, VIn S w g L vb
section
variable {S : Nat → Prop} {w w' : World} {g vb : Nat} {L : List Kv}
theorem VIn.keep (h : VIn S w g L vb) (hk : ∀ b, S b → w'.heap[b]? = w.heap[b]?) (hs : w.heap.size ≤ w'.heap.size) : VIn S w' g L vb :=
  ⟨(hk _ h.inS.1).trans h.blk, h.vals.keep (hk _ h.inS.2), h.inS, fun j hj => Nat.lt_of_lt_of_le (h.lt j hj) hs⟩
theorem VAt.below (h : VAt S w g L) (hb : Below w.heap.size w w') : VAt S w' g L := by obtain ⟨_, h⟩ := h; exact ⟨_, h.keep (fun b hb' => hb.block b (h.lt b hb')) hb.size⟩
theorem VAt.upd {M : Nat → Prop} (h : VAt S w g L) (hu : Upd M w w') (hM : ∀ b, S b → ¬ M b) : VAt S w' g L := by obtain ⟨_, h⟩ := h; exact ⟨_, h.keep (fun b hb => hu.block b (h.lt b hb) (hM b hb)) hu.size⟩
theorem VAt.lt (h : VAt S w g L) : ∀ j, S j → j < w.heap.size := by obtain ⟨_, h⟩ := h; exact h.lt
end
theorem valK_zero {s : St} (h : s.Ok) {k : ByteArray} (h0 : (valK k s.L).k = 0) : valK k s.L = vl0 := by
  cases hh : hasK k s.L with
  | false => exact valK_none hh
  | true =>
    obtain ⟨x, hx, hk⟩ := hasK_mem.1 hh
    have h1 := valK_mem h.asc hx
    rw [hk] at h1
    have h2 := h.val x hx
    rw [← h1] at h2
    unfold Vl.ok at h2
    rw [if_pos h0] at h2
    simp at h2
    have e : valK k s.L = ⟨(valK k s.L).k, (valK k s.L).n, (valK k s.L).s⟩ := rfl
    rw [e, h0, h2.1, h2.2]; rfl
theorem dv_get {s : St} (h : s.Ok) (k : ByteArray) : (Dv s.L k).getD (.agg #[.int .i64 0, .int .i64 0, .string ⟨#[]⟩]) = .agg #[.int .i64 (valK k s.L).k, .int .i64 (valK k s.L).n, .string (valK k s.L).s] := by
  unfold Dv
  by_cases h0 : (valK k s.L).k = 0
  · rw [if_pos h0, valK_zero h h0]; rfl
  · rw [if_neg h0]; rfl
theorem zero_val (w : World) : (zeroValue 38).run Tryz.prog w = .ok (.agg #[.int .i64 0, .int .i64 0, .string ⟨#[]⟩]) w := by kernel_rfl
section
variable {S : Nat → Prop} {w w' : World} {g : Nat} {s : St}
set_option maxRecDepth 100000 in
theorem vget_any (k : ByteArray) (h : VAt S w g s.L) (hok : s.Ok) : Calls Tryz.prog 29 #[.pointer (some ⟨g, 0, none⟩), .string k] w fun e w' => e = .returned (.agg #[.int .i64 (valK k s.L).k, .int .i64 (valK k s.L).n, .string (valK k s.L).s]) ∧ Below w.heap.size w w' := by
  have hB : Below w.heap.size w (w.alloc (.cells #[.int .i64 0, .int .i64 0, .string ⟨#[]⟩] 38)) := (Below.refl _ _).alloc (Nat.le_refl _) _
  obtain ⟨vb, h2⟩ := h.below hB
  have hl0 := h2.vals.lookup Tryz.underlying74 zero_val k
  rw [dv_get hok] at hl0
  have hl : (Instr.lookup 74 (.map (some vb)) (.string k) false).run Tryz.prog _ = .ok _ _ := hl0
  have c2 : (w.alloc (.cells #[.int .i64 0, .int .i64 0, .string ⟨#[]⟩] 38)).cell? ⟨g, 0, none⟩ = some (.map (some vb)) := h2.blk.cell 0
  generalize (valK k s.L).k = a at *
  generalize (valK k s.L).n = b at *
  generalize (valK k s.L).s = c at *
  clear h h2 hB hl0 hok
  go_enter Tryz.func29, Tryz.ntmps29
  go_wp2_with fail
  refine bodyPost_ret (v := .agg #[.int .i64 a, .int .i64 b, .string c]) ?_ rfl ?_
  · exact results_cell_row (P := Tryz.prog) rfl _ _ w.heap.size 38 _ (0, 0) _ rfl (Blk.new w _ _) Tryz.underlying38 rfl (by kernel_rfl)
  · exact ⟨rfl, (Below.refl _ _).alloc (Nat.le_refl _) _⟩
set_option maxRecDepth 100000 in
theorem dumpM_any (h : PAt S w g s) : Calls Tryz.prog 32 #[.pointer (some ⟨g, 0, none⟩)] w fun e w' => ∃ A c, e = .returned (.slice A (dumpL s.L).length c) ∧ w'.ownsRow (w.heap.size + 1) 70 4 (.slice A (dumpL s.L).length c) (dumpL s.L).length (kvCells (dumpL s.L)) ∧ Below w.heap.size w w' := by
  obtain ⟨cb, cc, mb, vb, h⟩ := h
  have c2 := h.cells.2.2
  have hd := hid (dump_any h.vals h.ok)
  clear h
  go_enter Tryz.func32, Tryz.ntmps32
  go_wp2_with fail
  refine hd.out.mono ?_
  rintro e w2 ⟨A, c, rfl, h1, h2⟩
  have h1 := hid h1
  have h2 := hid h2
  go_wp2_with fail
  go_ret
  exact ⟨A, c, rfl, h1.out, h2.out⟩
set_option maxRecDepth 100000 in
set_option maxHeartbeats 4000000 in
theorem view_any (h : PAt S w g s) : Calls Tryz.prog 19 #[.pointer (some ⟨g, 0, none⟩)] w fun e w' => ∃ S' v, e = .returned (.pointer (some ⟨v, 0, none⟩)) ∧ VAt S' w' v s.L ∧ (∀ j, S' j → w.heap.size ≤ j) ∧ Below w.heap.size w w' := by
  obtain ⟨cb, cc, mb, vb, h⟩ := h
  have hok := hid h.ok
  have hb0 : Below w.heap.size w ((w.alloc (.map #[] 0)).alloc (.cells #[.map (some w.heap.size)] 99)) := below_two _ _
  have h2 := h.below hb0
  have c2 := h2.cells.2.2
  obtain ⟨l, hml, hd⟩ := h2.vals
  obtain ⟨es, clock, hes, hpr, hst⟩ := id hml
  have hmm := @run_makeMap Tryz.prog
  have hrg := run_range_map (P := Tryz.prog) ((w.alloc (.map #[] 0)).alloc (.cells #[.map (some w.heap.size)] 99)) 74 9 38 vb es clock Tryz.underlying74 hes
  have kv0 := hid (Blk.new' (w.alloc (.map #[] 0)) 99 #[.map (some w.heap.size)] (g := w.heap.size + 1) (by simp))
  have hm0 := hid ((MapF.new (E := strE) w).keep (Below.heap_alloc (w.alloc (.map #[] 0)) (.cells #[.map (some w.heap.size)] 99) _ (by simp)))
  have hsz := hid (show ((w.alloc (.map #[] 0)).alloc (.cells #[.map (some w.heap.size)] 99)).heap.size = w.heap.size + 2 by simp)
  have hM := hid hml
  have hD := hid hd
  have hP := hid hpr
  have hS := hid hst
  have hE := hid hes
  have hV := hid h.vals.lt
  have hB1 := hid hb0
  clear h h2 hml hd hpr hst hes hb0
  go_enter Tryz.func19, Tryz.ntmps19
  go_upto_region 4 with fail
  generalize (w.alloc (.map #[] 0)).alloc (.cells #[.map (some w.heap.size)] 99) = W1 at *
  go_wp2_with fail
  have hvlt : Hid (vb < W1.heap.size) := hid (by have := hV.out; have := hsz.out; omega)
  rw [hsz.out]
  go_loopw [] (fun wr => ∃ (seen : Array Nat) (c0 : Nat) (out : List (ByteArray × Value)), wr.heap[w.heap.size + 2]? = some (.mapIter (some vb) clock seen c0) ∧ clock ≤ c0 ∧ MapF strE wr w.heap.size (fun y => getK y out) ∧ Blk wr (w.heap.size + 1) 99 #[.map (some w.heap.size)] ∧ Below w.heap.size w wr ∧ (doneOf es seen).Perm (encs strE out) ∧ (∀ x ∈ out, ∃ v : Vl, x.2 = vlV v)) (fun wr => (leftOf es (wr.iterSeen (w.heap.size + 2))).size)
  case atStart =>
    refine ⟨#[], clock, [], ?_, Nat.le_refl _, ?_, kv0.out.alloc _, hB1.out.alloc hB1.out.size _, by rw [done_none]; exact List.Perm.nil, fun x hx => by cases hx⟩
    · rw [← hsz.out]; exact heap_alloc_new _ _
    · exact (hm0.out.keep (Below.heap_alloc _ _ _ (by have := hsz.out; omega))).congr fun y => rfl
  case round =>
    clear hrg
    obtain ⟨seen, c0, out, hr, hc0, hmo, hkv, hB0, hdone, hvs⟩ := hrel
    have hesr := (hB0.block _ hV.out).trans ((hB1.out.block _ hV.out).symm.trans hE.out)
    have hseen0 := hid (seen_of hr)
    rcases range_step (P := Tryz.prog) hr hesr hS.out hc0 with ⟨h0, hnx⟩ | ⟨e, wn, he, hns, hsh, hun, hszn, hrn, hesn, hnx, hent⟩
    · have hpl : l.Perm out := encs_inj (E := strE) W1 (by rw [← hP.out, ← done_all h0]; exact hdone)
      have hfin : Hid (VAt (fun j => w.heap.size ≤ j ∧ j < wr.heap.size) wr (w.heap.size + 1) s.L) := hid ⟨_, hkv, hmo.congr fun y => by
        rw [← hD.out]
        have hno : (out.map (·.1)).Nodup := (hpl.map _).nodup_iff.1 hM.out.nodup
        cases hg : getK y l with
        | none =>
          rw [getK_none] at hg ⊢
          exact fun p hp => hg p (hpl.symm.subset hp)
        | some u => exact (getK_mem hno).2 (hpl.subset ((getK_mem hM.out.nodup).1 hg)), ⟨⟨by omega, hkv.lt⟩, ⟨Nat.le_refl _, hmo.lt⟩⟩, fun j hj => hj.2⟩
      have hB := hid hB0
      clear hpl h0 hr hesr hmo hkv hB0 hdone hvs
      go_wp2_with fail
      go_ret
      exact ⟨_, _, rfl, hfin.out, fun j hj => hj.1, hB.out⟩
    · obtain ⟨p, hp, hek, hev⟩ := done_list (E := strE) (w := W1) (b := vb) (clock := clock) hP.out he
      have hget := (getK_mem hM.out.nodup).2 (show (p.1, p.2) ∈ l from hp)
      rw [hD.out] at hget
      obtain ⟨hdm, hev2⟩ := dv_some hok.out.asc hget
      obtain ⟨y, hy⟩ : ∃ y, y = p.1 := ⟨_, rfl⟩
      obtain ⟨v, hv⟩ : ∃ v, v = valK p.1 s.L := ⟨_, rfl⟩
      rw [← hv] at hev2
      have hek : e.key = .string y := by rw [hek, hy]; rfl
      have hev : e.val = .agg #[.int .i64 v.k, .int .i64 v.n, .string v.s] := by rw [hev, hev2]; rfl
      have hpush := hid ((done_push hS.out.2.1 he hns).trans (hdone.cons _))
      rw [hek, hev] at hnx hent hpush
      have hwl : w.heap.size + 2 < wn.heap.size := (Array.getElem?_eq_some_iff.1 hrn).1
      have hmon := hmo.upd hun (fun e => by omega)
      have hkvn := hkv.upd hun (fun e => by omega)
      have hBn : Below w.heap.size w wn := hB0.trans (hun.below (B := w.heap.size) hB0.size fun k hk e => by omega)
      have hvs' := hid hvs
      have hsh' := hid hsh
      clear hp hget hdm hev2 hek hev hy hv hmo hkv hB0 hdone hr hesr hun hesn he hns hsh hszn hvs
      go_upto_region 7 with fail
      have kz := Blk.new wn 38 #[.int .i64 v.k, .int .i64 v.n, .string v.s]
      have hkv5 := hid (hkvn.alloc (.cells #[.int .i64 v.k, .int .i64 v.n, .string v.s] 38))
      have hmo5 := hmon.keep (Below.heap_alloc wn (.cells #[.int .i64 v.k, .int .i64 v.n, .string v.s] 38) _ (by omega))
      have hr5 := (Below.heap_alloc wn (.cells #[.int .i64 v.k, .int .i64 v.n, .string v.s] 38) _ hwl).trans hrn
      have hB5 := hid (hBn.alloc hBn.size (.cells #[.int .i64 v.k, .int .i64 v.n, .string v.s] 38))
      generalize wn.alloc (.cells #[.int .i64 v.k, .int .i64 v.n, .string v.s] 38) = w5 at *
      have x0 := kz.cell 0
      have x1 := kz.cell 1
      have x2 := kz.cell 2
      simp only [List.getElem?_toArray, List.getElem?_cons_zero, List.getElem?_cons_succ] at x0 x1 x2
      have v0 : w5.cell? ⟨w.heap.size + 1, 0, none⟩ = some (.map (some w.heap.size)) := hkv5.out.cell 0
      generalize wn.heap.size = m at *
      have hmod : MapF strE w5.drew w.heap.size _ := hmo5
      obtain ⟨w6, hmu0, hm60, hg60, _⟩ := hmod.update Tryz.underlying74 y (.agg #[.int .i64 v.k, .int .i64 v.n, .string v.s])
      have hmu : (Instr.mapUpdate 74 (.map (some w.heap.size)) (.string y) (.agg #[.int .i64 v.k, .int .i64 v.n, .string v.s])).run Tryz.prog w5.drew = .ok () w6 := hmu0
      have hu6 : Upd (fun j => j = w.heap.size) w5 w6 := (Upd.refl (fun j => j = w.heap.size) w5).drew.trans (upd_grown hg60 fun j hj => by injection hj with hj; exact hj.symm) fun _ _ h => h
      have hm6 := hid hm60
      have hU6 := hid hu6
      have hr6 := hid ((hu6.block _ (Array.getElem?_eq_some_iff.1 hr5).1 (by omega)).trans hr5)
      clear kz hmon hkvn hBn hmo5 hmod hmu0 hm60 hg60 hu6 hwl hrn hr5
      go_still_tail 6, (by kernel_rfl)
      change wpList _ _ _ _ _ w5.drew
      go_wp2_with fail
      go_roundw
      case rel =>
        refine ⟨seen.push e.born, clock, (y, vlV v) :: out, hr6.out, Nat.le_refl _, hm6.out.congr fun z => by rw [getK_cons]; rfl, hkv5.out.upd hU6.out (by omega), hB5.out.trans (hU6.out.below (B := w.heap.size) hB5.out.size fun k hk e => by omega), hpush.out, fun x hx => ?_⟩
        rcases List.mem_cons.1 hx with rfl | hx
        · exact ⟨v, rfl⟩
        · exact hvs'.out x hx
      case measure =>
        rw [seen_of hr6.out, hseen0.out]
        exact hsh'.out
end
end Go.Proofs.YtphglnenafdkaaaGreatDoor

namespace Go.Proofs.YtphglnenafdkaaaGreatDoor
open Go.RowKit
set_option linter.unusedVariables false
set_option linter.unusedSimpArgs false

theorem info_strK : (Tryz.prog.info? 9).map (fun i => (i.zero, i.size, i.bytes)) = some (some (.string ⟨#[]⟩), 1, 16) := by kernel_rfl
theorem strs_snoc (l : List ByteArray) (k : ByteArray) : strs (l ++ [k]) = strs l ++ [.string k] := by simp [strs]
theorem keysTo_len {n i : Nat} {L : List Kv} (hL : L.length ≤ 262144) : (keysTo n i L).length ≤ 262144 := by
  unfold keysTo
  rw [List.length_map]
  exact Nat.le_trans (List.length_filter_le _ _) hL
theorem own_updC {M : Nat → Prop} {w w' : World} {base : Nat} {e : TypeId} {size n : Nat} {v : Value} {xs : List Value} (h : w.ownsRow base e size v n xs) (hu : Upd M w w') (hM : ∀ k, M k → ∃ a b c d, w.heap[k]? = some (.mapIter a b c d)) : w'.ownsRow base e size v n xs := by
  refine ⟨h.1, ?_⟩
  rcases h.2 with hn | ⟨g, cap, cur, rfl, hg, hh, rest⟩
  · exact .inl hn
  · have hl : g < w.heap.size := (Array.getElem?_eq_some_iff.1 hh).1
    exact .inr ⟨g, cap, cur, rfl, hg, (hu.block g hl fun hm => by obtain ⟨_, _, _, _, h1⟩ := hM g hm; rw [hh] at h1; cases h1).trans hh, rest⟩
theorem own_not {w : World} {base b : Nat} {e : TypeId} {size n : Nat} {v : Value} {xs : List Value} {m : Option Nat} {a d : Nat} {q : Array Nat} (h : w.ownsRow base e size v n xs) (hb : w.heap[b]? = some (.mapIter m a q d)) : v.ownBlock ≠ some b := by
  intro e
  rcases h.2 with ⟨rfl, _⟩ | ⟨g, cap, cur, rfl, hg, hh, rest⟩
  · cases e
  · injection e with e
    simp only at e
    rw [e, hb] at hh; cases hh
section
variable {S : Nat → Prop} {w : World} {g : Nat} {s : St}
set_option maxRecDepth 100000 in
set_option maxHeartbeats 4000000 in
theorem keys_any (h : PAt S w g s) : Calls Tryz.prog 43 #[.pointer (some ⟨g, 0, none⟩)] w fun e w' => ∃ A c, e = .returned (.slice A s.L.length c) ∧ w'.ownsRow w.heap.size 9 1 (.slice A s.L.length c) s.L.length (strs (s.L.map (·.1))) ∧ Below w.heap.size w w' := by
  obtain ⟨cb, cc, mb, vb, h⟩ := h
  have HH := hid h
  have c1 := h.cells.2.1
  obtain ⟨i0, hi0, hz0, hz1, hz2⟩ := info_parts info_strK
  have hlen := hid h.ok.len
  have hpr := hid h.ok.parts
  have hP : (s.parts : Int) ≤ 64 := by have := h.ok.parts; omega
  clear h
  go_enter Tryz.func43, Tryz.ntmps43
  go_wp2_with fail
  go_loopw [3, 14] (fun u v wr => ∃ (i : Nat) (out : List ByteArray) (A : Option Addr) (c : Nat), u = .slice A out.length c ∧ v = .int .i64 i ∧ i ≤ s.parts ∧ wr.ownsRow w.heap.size 9 1 (.slice A out.length c) out.length (strs out) ∧ Below w.heap.size w wr ∧ out.Perm (keysTo s.parts i s.L)) (fun _ v _ => s.parts - (intOf v).toNat)
  case atStart => exact ⟨0, [], none, 0, rfl, rfl, Nat.zero_le _, World.ownsRow_nil _ _ _ _, Below.refl _ _, by rw [keysTo_zero]⟩
  case round =>
    obtain ⟨i, out, A, c, rfl, rfl, hi, hown0, hb0, hpm0⟩ := hrel
    have hO := hid hown0
    have hB := hid hb0
    have hpm := hid hpm0
    have hol := hid (show out.length ≤ 262144 by rw [hpm0.length_eq]; exact keysTo_len hlen.out)
    by_cases hlt : i < s.parts
    · have i1 : (i : Int) < (s.parts : Int) := by omega
      obtain ⟨l, hml, hd⟩ := HH.out.cl i hlt
      obtain ⟨es, clock, hes, hprs, hst⟩ := id hml
      have hlm := hid (HH.out.lt _ (HH.out.inS.2.2.2 i hlt))
      have hesr0 : wr.heap[mb i]? = some (.map es clock) := (hb0.block _ hlm.out).trans hes
      have hrg := run_range_map (P := Tryz.prog) wr 78 9 3 (mb i) es clock Tryz.underlying78 hesr0
      have y0 : wr.cell? ⟨cb, i, none⟩ = some (.map (some (mb i))) := ((Upd.of_below (M := fun j => w.heap.size ≤ j) hb0 fun _ _ h => h).cell (HH.out.rowc i hlt) (by have := HH.out.lt _ HH.out.inS.2.1; omega))
      have hM := hid hml
      have hD := hid hd
      have hPr := hid hprs
      have hS := hid hst
      have hE := hid hes
      have hll := hid (show l.length ≤ 262144 by rw [claims_len HH.out.ok.asc hml hd]; unfold keysP; rw [List.length_map]; exact Nat.le_trans (List.length_filter_le _ _) hlen.out)
      have hsum := hid (show ∀ new : List ByteArray, new.length ≤ l.length → (out ++ new).length ≤ 524288 from fun new hn => by have := hol.out; have := hll.out; simp; omega)
      clear hml hd hprs hst hes hown0 hb0 hpm0 hesr0
      go_wp2_with fail
      rename World => W1
      clear hrg y0 c1
      have hitl := hid hB.out.size
      go_loopw [3] (fun v wr => ∃ (seen : Array Nat) (c0 : Nat) (new : List ByteArray) (A : Option Addr) (c : Nat), v = .slice A (out ++ new).length c ∧ wr.heap[W1.heap.size]? = some (.mapIter (some (mb i)) clock seen c0) ∧ clock ≤ c0 ∧ wr.ownsRow w.heap.size 9 1 (.slice A (out ++ new).length c) (out ++ new).length (strs (out ++ new)) ∧ Below w.heap.size w wr ∧ (doneOf es seen).Perm (new.map encK)) (fun _ wr => (leftOf es (wr.iterSeen W1.heap.size)).size)
      case atStart => exact ⟨#[], clock, [], A, c, by rw [List.append_nil], heap_alloc_new _ _, Nat.le_refl _, by rw [List.append_nil]; exact hO.out.alloc _, hB.out.alloc hB.out.size _, by rw [done_none]; exact List.Perm.nil⟩
      case round =>
        obtain ⟨seen, c0, new, A2, c2, rfl, hr, hc0, hown, hB0, hdone⟩ := hrel
        have hesr := (hB0.block _ hlm.out).trans hE.out
        have hseen0 := hid (seen_of hr)
        have hnl : new.length ≤ l.length := by
          have h1 := hdone.length_eq
          have h2 := done_le (E := strE) (seen := seen) hPr.out
          simp at h1
          omega
        have hol2 := hid (hsum.out new hnl)
        clear hnl
        rcases range_step (P := Tryz.prog) hr hesr hS.out hc0 with ⟨h0, hnx⟩ | ⟨e, wn, he, hns, hsh, hun, hszn, hrn, hesn, hnx, hent⟩
        · have hperm : new.Perm (keysP s.parts i s.L) := done_claims HH.out.ok.asc hM.out hD.out hPr.out (by rw [← done_all h0]; exact hdone)
          have hpm2 := hid ((hpm.out.append hperm).trans (keysTo_step s.parts i s.L))
          have hB2 := hid hB0
          have hO2 := hid hown
          have hj : IntKind.i64.wrap ((i : Int) + 1) = (i : Int) + 1 := by rw [IntKind.wrap_i64]; omega
          generalize out ++ new = out2 at *
          clear hperm h0 hr hesr hown hB0 hdone hsum
          go_wp2_with fail
          go_roundw
          case rel => exact ⟨i + 1, out2, A2, c2, rfl, by simp, hlt, hO2.out, hB2.out, hpm2.out⟩
          case measure => simp [intOf]; omega
        · obtain ⟨p, hp, hek, hev⟩ := done_list (E := strE) (w := w) (b := mb i) (clock := clock) hPr.out he
          have hget := (getK_mem hM.out.nodup).2 (show (p.1, p.2) ∈ l from hp)
          rw [hD.out] at hget
          obtain ⟨y, hy⟩ : ∃ y, y = p.1 := ⟨_, rfl⟩
          have hek : e.key = .string y := by rw [hek, hy]; rfl
          have hev : e.val = .int .i64 1 := by
            rw [hev]
            unfold Dc at hget
            split at hget
            · injection hget with hget; exact hget.symm
            · cases hget
          have hpush := hid ((done_push hS.out.2.1 he hns).trans (hdone.cons _))
          rw [hek, hev] at hnx hent hpush
          have hownn : wn.ownsRow w.heap.size 9 1 (.slice A2 (out ++ new).length c2) (out ++ new).length (strs (out ++ new)) := own_updC hown hun fun k e => ⟨_, _, _, _, (congrArg (fun j => wr.heap[j]?) (show k = W1.heap.size from e)).trans hr⟩
          have hBn : Below w.heap.size w wn := hB0.trans (hun.below (B := w.heap.size) hB0.size fun k hk e => by have := hitl.out; omega)
          have hHB := hid hBn
          have hHO := hid hownn
          have hHr := hid hrn
          have hsh' := hid hsh
          clear hp hget hek hev hy hown hB0 hdone hr hesr hun hrn hesn hBn hownn he hns hsh hszn hsum
          have hlo := hid (show (out ++ new).length + 1 ≤ 1000000 by have := hol2.out; omega)
          have hne := hid (own_not hHO.out hHr.out)
          have hrl := hid (show W1.heap.size < wn.heap.size from (Array.getElem?_eq_some_iff.1 hHr.out).1)
          go_wp2_with (
            at_builtin
            refine wpList_append_rd _ rfl (.tmp 24) (.tmp 26) 25 rfl w.heap.size 9 i0 _ 1 16 Tryz.underlying25 hi0 hz0 hz1 hz2 rfl (by omega) (.slice A2 (out ++ new).length c2) (out ++ new).length (strs (out ++ new)) rfl (hHO.out.alloc _) (fun b => b = wn.heap.size) (some ⟨wn.heap.size, 0, none⟩) 1 1 [.string y] rfl (Rd.new _ 9 1 1 #[.string y] _ rfl rfl) (by simp [Value.oneCell']) (by have := hlo.out; simp only [maxLen]; omega) (by have := hlo.out; omega) (by have h1 := hHB.out.size; simp; omega) ?_
            intro v3 w3 hown3 hg3 hat3
            obtain ⟨A3, c3, rfl, hc3, _⟩ := own_form hown3)
          have hr3 : w3.heap[W1.heap.size]? = some (.mapIter (some (mb i)) clock (seen.push e.born) clock) := (hg3.block _ (by have := hrl.out; simp; omega) (Ne.symm hne.out)).trans ((Below.heap_alloc _ _ _ hrl.out).trans hHr.out)
          go_roundw
          case rel =>
            refine ⟨seen.push e.born, clock, new ++ [y], A3, c3, by simp [Nat.add_assoc], hr3, Nat.le_refl _, ?_, ?_, ?_⟩
            · rw [← List.append_assoc, strs_snoc, List.length_append]; exact hown3
            · exact (hHB.out.alloc hHB.out.size _).grown hg3 (by have := hHB.out.size; simp; omega) fun k hk => (hHO.out.lt k hk).1
            · rw [List.map_append]
              exact hpush.out.trans (List.perm_append_comm (l₁ := [encK y]) (l₂ := new.map encK))
          case measure =>
            rw [seen_of hr3, hseen0.out]
            exact hsh'.out
    · obtain rfl : i = s.parts := by omega
      have hso := hid (sortk_any (c := c) out s.L wr HH.out.ok.asc (by rw [← keysTo_all (n := s.parts) (by have := hpr.out; omega)]; exact hpm.out) hol.out hO.out)
      have hln := hid (show out.length = s.L.length by have := hpm.out.length_eq; rw [keysTo_all (by have := hpr.out; omega)] at this; simpa using this)
      clear hlt hown0 hb0 hpm0 c1
      generalize s.parts = np at *
      go_wp2_with fail
      refine hso.out.mono ?_
      rintro e w3 ⟨rfl, hown3, hg3⟩
      have hfin : Hid (w3.ownsRow w.heap.size 9 1 (.slice A out.length c) out.length (strs (s.L.map (·.1))) ∧ Below w.heap.size w w3) := hid ⟨hown3, hB.out.grown hg3 hB.out.size fun k hk => (hO.out.lt k hk).1⟩
      clear hown3 hg3
      go_wp2_with fail
      go_ret
      rw [hln.out] at hfin ⊢
      exact ⟨A, c, rfl, hfin.out.1, hfin.out.2⟩
end
end Go.Proofs.YtphglnenafdkaaaGreatDoor

namespace Go.Proofs.YtphglnenafdkaaaGreatDoor
end Go.Proofs.YtphglnenafdkaaaGreatDoor

namespace Go.Proofs.YtphglnenafdkaaaGreatDoor
open Go.RowKit
set_option linter.unusedVariables false
set_option linter.unusedSimpArgs false

/-- a number's text -/
def dg (n : Int) : ByteArray := ⟨(Lib.itoa n).toArray⟩
theorem dg_size {n : Int} (h0 : -9223372036854775808 ≤ n) (h1 : n ≤ 9223372036854775807) : (dg n).size ≤ 21 := by
  have := Lib.itoa_length_le n h0 h1
  unfold dg ByteArray.size
  simpa using this
theorem digits_dg (n : Int) (h0 : -9223372036854775808 ≤ n) (h1 : n ≤ 9223372036854775807) (w : World) (he : Env w) :
    Calls Tryz.prog 41 #[.int .i64 n] w fun e w' => e = .returned (.string (dg n)) ∧ Below w.heap.size w w' := digits_any n h0 h1 w he
theorem isBuf_below {T e : TypeId} {B b : Nat} {bs : List Value} {w w' : World} (h : Lib.IsBuffer T e B b bs w) (hb : Below w.heap.size w w') : Lib.IsBuffer T e B b bs w' := by
  have hlt := h.lt
  obtain ⟨hB, v, lr, hbk, hown, hne⟩ := h
  exact ⟨hB, v, lr, (hb.block b hlt).trans hbk, own_updB hown (Upd.of_below' hb (fun _ => False)) (fun _ _ _ h => h), hne⟩
theorem byteCells_one (l : List UInt8) : ∀ v ∈ Lib.byteCells l, v.oneCell' = true := by
  intro v hv
  obtain ⟨x, _, rfl⟩ := List.mem_map.1 hv
  rfl
theorem head_text (s : St) : (dg s.parts ++ ⟨#[10]⟩ ++ dg s.room ++ ⟨#[10]⟩ : ByteArray).data.toList = headL s := by
  simp [dg, headL, ByteArray.data_append]
/-- a value's text -/
def pt (v : Vl) : ByteArray := ⟨(printL v).toArray⟩
theorem pt_size {v : Vl} (hok : v.ok = true) (hr : v.rng) : (pt v).size ≤ 200 := by
  have := print_len hok hr
  unfold pt ByteArray.size
  simpa using this
theorem line_text (x : Kv) : (x.1 ++ ⟨#[32]⟩ ++ pt x.2 ++ ⟨#[10]⟩ : ByteArray).data.toList = lineL x := by
  simp [pt, lineL, ByteArray.data_append]
theorem own_others {w w' : World} {base b : Nat} {t u : TypeId} {size n : Nat} {v : Value} {xs : List Value} (h : w.ownsRow base t size v n xs) (hk : Lib.OthersKept u (some b) w w') (hb : b < base) (ht : t ≠ u) : w'.ownsRow base t size v n xs := by
  refine ⟨h.1, ?_⟩
  rcases h.2 with hn | ⟨g, cap, cur, rfl, hg, hh, rest⟩
  · exact .inl hn
  · exact .inr ⟨g, cap, cur, rfl, hg, hk g _ hh (fun e => by injection e with e; omega) (fun c fz e => by injection e with _ e; exact ht e), rest⟩
theorem others_below {u : TypeId} {b : Option Nat} {w w' : World} (h : Below w.heap.size w w') : Lib.OthersKept u b w w' := fun k o hk _ _ => (h.block k (Array.getElem?_eq_some_iff.1 hk).1).trans hk
section
variable {S : Nat → Prop} {w : World} {g : Nat} {s : St}
set_option maxRecDepth 100000 in
theorem parts_any (h : PAt S w g s) : Calls Tryz.prog 42 #[.pointer (some ⟨g, 0, none⟩)] w fun e w' => e = .returned (.int .i64 s.parts) ∧ w' = w := by
  obtain ⟨cb, cc, mb, vb, h⟩ := h
  have c1 := h.cells.2.1
  clear h
  go_enter Tryz.func42, Tryz.ntmps42
  go_wp2_with fail
  go_ret
  exact ⟨rfl, rfl⟩
set_option maxRecDepth 100000 in
set_option maxHeartbeats 4000000 in
theorem bytes_any (h : PAt S w g s) (he : Env w) (hr : ∀ x ∈ s.L, x.2.rng) : Calls Tryz.prog 13 #[.pointer (some ⟨g, 0, none⟩)] w fun e w' => ∃ v, e = .returned v ∧ w'.ownsRow w.heap.size 5 1 v (bytesS s).length (Lib.byteCells (bytesS s)) ∧ Below w.heap.size w w' := by
  have HP := hid h
  have HE := hid he
  have HR := hid hr
  have hB0 : Hid (Below w.heap.size w (w.alloc (.cells #[.slice none 0 0, .int .i64 0, .int .i8 0] 83))) := hid ((Below.refl _ _).alloc (Nat.le_refl _) _)
  have hI0 := hid (Lib.fresh_isBuffer 83 5 w)
  clear h he hr
  go_enter Tryz.func13, Tryz.ntmps13
  go_upto_region 4 with fail
  generalize w.alloc (.cells #[.slice none 0 0, .int .i64 0, .int .i8 0] 83) = w1 at *
  have hkeep := hid (show ∀ W, Below w1.heap.size w1 W → W.cell? ⟨g, 0, none⟩ = some (.int .i64 s.room) from fun W hb => by
    obtain ⟨cb, cc, mb, vb, h⟩ := HP.out.below (hB0.out.trans (hb.mono hB0.out.size))
    exact h.cells.1)
  have hkw := hid (show ∀ W, Below w.heap.size w W → W.cell? ⟨g, 0, none⟩ = some (.int .i64 s.room) from fun W hb => by
    obtain ⟨cb, cc, mb, vb, h⟩ := HP.out.below hb
    exact h.cells.1)
  have hkP := hid (show ∀ W, Below w1.heap.size w1 W → PAt S W g s from fun W hb => HP.out.below (hB0.out.trans (hb.mono hB0.out.size)))
  have hkE := hid (show ∀ W, Below w1.heap.size w1 W → Env W from fun W hb => HE.out.below (hB0.out.trans (hb.mono hB0.out.size)))
  have hpr := hid (show (0 : Int) ≤ s.parts ∧ (s.parts : Int) ≤ 64 by have := HP.out.ok.parts; omega)
  have hrr := hid (show (0 : Int) ≤ s.room ∧ (s.room : Int) ≤ 4096 by have := HP.out.ok.room; omega)
  have z1 : (dg s.parts).size ≤ 21 := dg_size (by omega) (by have := hpr.out; omega)
  have z2 : (dg s.room).size ≤ 21 := dg_size (by omega) (by have := hrr.out; omega)
  have z3 : ByteArray.size ⟨#[10]⟩ = 1 := rfl
  have hs1 : ∀ W, (Op.stringOp .add (dg s.parts) ⟨#[10]⟩).run Tryz.prog W = .ok (.string (dg s.parts ++ ⟨#[10]⟩)) W := fun W => run_string_add_sum W _ _ (by omega)
  have hs2 : ∀ W, (Op.stringOp .add (dg s.parts ++ ⟨#[10]⟩) (dg s.room)).run Tryz.prog W = .ok (.string (dg s.parts ++ ⟨#[10]⟩ ++ dg s.room)) W := fun W => run_string_add_sum W _ _ (by simp only [ByteArray.size_append]; omega)
  have hs3 : ∀ W, (Op.stringOp .add (dg s.parts ++ ⟨#[10]⟩ ++ dg s.room) ⟨#[10]⟩).run Tryz.prog W = .ok (.string (dg s.parts ++ ⟨#[10]⟩ ++ dg s.room ++ ⟨#[10]⟩)) W := fun W => run_string_add_sum W _ _ (by simp only [ByteArray.size_append]; omega)
  go_cut [] (fun wx => Lib.IsBuffer 83 5 w.heap.size w.heap.size (Lib.byteCells (headL s)) wx ∧ Below w.heap.size w wx)
  case first =>
    have hbX : Hid (Below w1.heap.size w1 w1.drew) := hid (Below.refl _ _).drew
    go_region_held3 (fun W => W.cell? ⟨g, 0, none⟩ = some (.int .i64 s.room)) (first | exact hkw.out _ hbY.out | exact hkeep.out _ hbX.out | exact hkeep.out _ hbX.out.drew)
      (first
        | (go_at_call 42; refine (parts_any (hkP.out _ hbX.out)).mono ?_; rintro e wb ⟨rfl, hwq⟩; obtain rfl := hwq.symm)
        | (go_at_call 41; refine (digits_dg _ (by have := hpr.out; have := hrr.out; omega) (by have := hpr.out; have := hrr.out; omega) _ (hkE.out _ hbX.out)).mono ?_; rintro e wb ⟨rfl, hbb⟩; have hbX : Hid (Below w1.heap.size w1 wb) := hid (hbX.out.trans (hbb.mono hbX.out.size)); clear hbb)
        | (go_at_call 40; refine (Buffer_WriteString_k w.heap.size w.heap.size [] _ _ (isBuf_below hI0.out hbX.out) (hB0.out.trans (hbX.out.mono hB0.out.size)).size (by simp) (by simp only [List.length_nil, ByteArray.size_append, z3]; omega)).mono ?_; rintro e wb ⟨rfl, hIb0, hbb, _⟩; have hIb := hid hIb0; have hbY : Hid (Below w.heap.size w wb) := hid ((hB0.out.trans (hbX.out.mono hB0.out.size)).trans hbb); clear hbb hIb0))
    all_goals go_wp2_with fail
    all_goals go_meet
    all_goals exact ⟨by have h := hIb.out; rw [head_text] at h; simpa using h, hbY.out⟩
  case rest =>
    obtain ⟨hI1, hB1⟩ := hcut
    have HI := hid hI1
    have HB := hid hB1
    have hks := hid (keys_any (HP.out.below hB1))
    clear hI1 hB1 hs1 hs2 hs3 z1 z2 hkeep hkw hkP hkE hB0 hI0
    go_wp2_with fail
    refine hks.out.mono ?_
    rintro e wk ⟨A, c, rfl, hown0, hbk⟩
    have hO := hid hown0
    have hI2 := hid (isBuf_below HI.out hbk)
    have hB2 := hid (HB.out.trans (hbk.mono HB.out.size))
    have hbl := hid (HI.out.lt)
    have hln := hid (bytesTo_len (s := s) (fun x hx => line_len (HP.out.ok.key x hx) (HP.out.ok.val x hx) (HR.out x hx)) (head_len (by have := HP.out.ok.parts; omega) (by have := HP.out.ok.room; omega)) HP.out.ok.len)
    clear hown0 hbk HI HB hks
    generalize hlL : s.L.length = n at *
    have hnn : (n : Int) ≤ 262144 := by have := HP.out.ok.len; omega
    go_wp2_with fail
    go_loopw [25] (fun v wr => ∃ i : Nat, v = .int .i64 i ∧ i ≤ n ∧ Lib.IsBuffer 83 5 w.heap.size w.heap.size (Lib.byteCells (bytesTo s i)) wr ∧ Below w.heap.size w wr ∧ Lib.OthersKept 5 (some w.heap.size) wk wr) (fun v _ => n - (intOf v).toNat)
    case atStart => exact ⟨0, rfl, Nat.zero_le _, by rw [bytesTo_zero]; exact hI2.out, hB2.out, .refl _ _ _⟩
    case round =>
      obtain ⟨i, rfl, hi, hI0, hB0, hK0⟩ := hrel
      have hI := hid hI0
      have hB := hid hB0
      have hK := hid hK0
      by_cases hlt : i < n
      · have i1 : (i : Int) < (n : Int) := by omega
        have hlt' : i < s.L.length := by omega
        obtain ⟨x, hx⟩ : ∃ x, x = s.L[i] := ⟨_, rfl⟩
        have hmem : x ∈ s.L := by rw [hx]; exact List.getElem_mem hlt'
        have hOr := own_others hO.out hK0 hbl.out (by decide)
        obtain ⟨b, o, rfl, _, _, y0⟩ := rd_strs (ks := s.L.map (·.1)) (i := i) (by rw [List.length_map, hlL]; exact Rd.of_own' hOr) (by simpa using hlt')
        rw [show (s.L.map (·.1))[i]'(by simpa using hlt') = x.1 by simp [hx]] at y0
        obtain ⟨cb, cc, mb, vb, hin⟩ := HP.out.below hB0
        have c2 := hin.cells.2.2
        have hget := hin.get x.1
        rw [valK_mem HP.out.ok.asc hmem] at hget
        have hvk := hid (HP.out.ok.key x hmem)
        have hvo := hid (HP.out.ok.val x hmem)
        have hvr := hid (HR.out x hmem)
        have hstep := hid (bytesTo_step s hlt')
        have hxx := hid hx
        have hpr9 := hid (print_any x.2 wr (by
          rcases ok_forms hvo.out with e | ⟨_, e⟩ | ⟨_, _, e, _⟩
          · rw [e]; decide
          · rw [e]; decide
          · omega) hvr.out (HE.out.below hB0))
        clear hx hI0 hB0 hK0 hOr hin hmem
        go_wp2_with fail
        refine hpr9.out.mono ?_
        rintro e wq ⟨rfl, hbq⟩
        rw [show (⟨(printL x.2).toArray⟩ : ByteArray) = pt x.2 from rfl]
        have hIq := hid (isBuf_below hI.out hbq)
        have hBq := hid (hB.out.trans (hbq.mono hB.out.size))
        have hKq := hid (hK.out.trans (others_below hbq))
        have z1 : x.1.size ≤ 32 := by have := hvk.out; unfold validK at this; simp at this; omega
        have z2 : (pt x.2).size ≤ 200 := pt_size hvo.out hvr.out
        have z3 : ByteArray.size ⟨#[10]⟩ = 1 := rfl
        have z4 : ByteArray.size ⟨#[32]⟩ = 1 := rfl
        have hsz := hid (show (x.1 ++ ⟨#[32]⟩ ++ pt x.2 ++ ⟨#[10]⟩ : ByteArray).size ≤ 1000 by simp only [ByteArray.size_append]; omega)
        have hs1 : ∀ W, (Op.stringOp .add x.1 ⟨#[32]⟩).run Tryz.prog W = .ok (.string (x.1 ++ ⟨#[32]⟩)) W := fun W => run_string_add_sum W _ _ (by omega)
        have hs2 : ∀ W, (Op.stringOp .add (x.1 ++ ⟨#[32]⟩) (pt x.2)).run Tryz.prog W = .ok (.string (x.1 ++ ⟨#[32]⟩ ++ pt x.2)) W := fun W => run_string_add_sum W _ _ (by simp only [ByteArray.size_append]; omega)
        have hs3 : ∀ W, (Op.stringOp .add (x.1 ++ ⟨#[32]⟩ ++ pt x.2) ⟨#[10]⟩).run Tryz.prog W = .ok (.string (x.1 ++ ⟨#[32]⟩ ++ pt x.2 ++ ⟨#[10]⟩)) W := fun W => run_string_add_sum W _ _ (by simp only [ByteArray.size_append]; omega)
        clear hbq z1 z2 z3 z4 y0 c2 hget hI hB hK hpr9
        go_wp2_with fail
        refine (Buffer_WriteString_k w.heap.size w.heap.size _ _ _ hIq.out hBq.out.size (byteCells_one _) (by have h1 := hln.out i; have h2 := hsz.out; rw [Lib.byteCells_length]; omega)).mono ?_
        rintro e wb ⟨rfl, hIb0, hbb, hkb⟩
        have hfin : Hid (∃ i' : Nat, Value.int .i64 ((i : Int) + 1) = .int .i64 i' ∧ i' ≤ n ∧ Lib.IsBuffer 83 5 w.heap.size w.heap.size (Lib.byteCells (bytesTo s i')) wb ∧ Below w.heap.size w wb ∧ Lib.OthersKept 5 (some w.heap.size) wk wb) := hid ⟨i + 1, by simp, hlt, by rw [hstep.out, Lib.byteCells_append, ← hxx.out, ← line_text]; exact hIb0, hBq.out.trans hbb, hKq.out.trans hkb⟩
        have hj : IntKind.i64.wrap ((i : Int) + 1) = (i : Int) + 1 := by rw [IntKind.wrap_i64]; omega
        clear hIb0 hbb hkb hIq hBq hKq hs1 hs2 hs3
        go_wp2_with fail
        go_roundw
        case rel => exact hfin.out
        case measure => simp [intOf]; omega
      · obtain rfl : i = n := by omega
        have hby := Buffer_Bytes w.heap.size w.heap.size _ wr hI.out
        rw [← hlL, bytesTo_all] at hby
        have hby := hid hby
        clear hlt hI0 hB0 hK0
        go_wp2_with fail
        refine hby.out.mono ?_
        rintro e w9 ⟨v, rfl, hov, q, rfl⟩
        have hfin : Hid ((wr.drewN q).ownsRow w.heap.size 5 1 v (bytesS s).length (Lib.byteCells (bytesS s)) ∧ Below w.heap.size w (wr.drewN q)) := hid ⟨by rw [Lib.byteCells_length] at hov; exact hov, below_drewN hB.out q⟩
        clear hov hby
        go_wp2_with fail
        go_ret
        exact ⟨v, rfl, hfin.out.1, hfin.out.2⟩
end
end Go.Proofs.YtphglnenafdkaaaGreatDoor

namespace Go.Proofs.YtphglnenafdkaaaGreatDoor
open Go.RowKit
set_option linter.unusedVariables false
set_option linter.unusedSimpArgs false

def RngL (L : List Kv) : Prop := ∀ x ∈ L, x.2.rng
theorem rng_vl0 : vl0.rng := by unfold Vl.rng vl0; constructor <;> decide
theorem rng_claim {s : St} {ks : List ByteArray} (h : RngL s.L) : RngL (claimS s ks).L := by
  unfold claimS
  split
  · intro x hx
    rcases insAll_mem hx with ⟨_, e⟩ | hx
    · rw [e]; exact rng_vl0
    · exact h x hx
  · exact h
theorem rng_upAll : ∀ {ws : List Wr} {L : List Kv}, RngL L → (∀ x ∈ ws, x.v.rng) → RngL (upAll L ws)
  | [], L, h, _ => h
  | x :: ws, L, h, hw => rng_upAll (ws := ws) (L := upK x.key x.v L) (fun y hy => by
      rcases up_mem hy with ⟨_, e⟩ | hy
      · rw [e]; exact hw x (List.mem_cons_self ..)
      · exact h y hy) fun y hy => hw y (List.mem_cons_of_mem _ hy)
theorem rng_apply {s : St} {ws : List Wr} (h : RngL s.L) (hw : ∀ x ∈ ws, x.v.rng) : RngL (applyS s ws).L := by
  unfold applyS
  split
  · exact rng_upAll h hw
  · exact h
theorem wrE_ne5 (s : St) (ws : List Wr) (i : Nat) : wrE s ws i ≠ 5 := by
  unfold wrE
  simp only
  split
  · decide
  · split
    · decide
    · split
      · decide
      · split
        · decide
        · split <;> decide
theorem claim_has {s : St} {ks : List ByteArray} (h : claimE s ks = 0) {k : ByteArray} (hk : k ∈ ks) : hasK k (claimS s ks).L = true := by
  unfold claimS
  rw [if_pos h]
  show hasK k (insAll s.L ks) = true
  rw [insAll_has]
  have : ks.any (fun j => decide (j = k)) = true := List.any_eq_true.2 ⟨k, hk, by simp⟩
  rw [this]; rfl
section
variable {S : Nat → Prop} {w : World} {g : Nat} {s : St}
set_option maxRecDepth 100000 in
theorem claims_any (h : PAt S w g s) (p : Nat) (hp : p < s.parts) : Calls Tryz.prog 53 #[.pointer (some ⟨g, 0, none⟩), .int .i64 p] w fun e w' => e = .returned (.int .i64 (cntP s.parts p s.L)) ∧ w' = w := by
  have hpt := hid (parts_any h)
  obtain ⟨cb, cc, mb, vb, h⟩ := h
  have c1 := h.cells.2.1
  have y0 := h.rowc p hp
  have hsz := fun ty => h.size p hp ty
  have t1 : decide ((p : Int) < 0) = false := decide_eq_false (by omega)
  have t2 : decide ((s.parts : Int) ≤ (p : Int)) = false := decide_eq_false (by omega)
  have t3 : decide (s.parts ≤ p) = false := decide_eq_false (by omega)
  have i1 : (p : Int) < (s.parts : Int) := by omega
  clear h hp
  go_enter Tryz.func53, Tryz.ntmps53
  go_wp2_with fail
  refine hpt.out.mono ?_
  rintro e wq ⟨rfl, hwq⟩
  obtain rfl := hwq.symm
  go_wp2_with fail
  go_ret
  exact ⟨rfl, rfl⟩
end
end Go.Proofs.YtphglnenafdkaaaGreatDoor


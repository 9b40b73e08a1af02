/- Texts of the proof, joined: SClaimP, SClaim, KValid, SMay, SApply, SActs, SNew, SShelf. -/
import Derived.Test.YtphglnenafdkaaaGreatDoorT04
import Derived.Lib.Hide
import Derived.Shelf.Small.Bits
import Derived.Shelf.Small.Strs
import Derived.Shelf.Strconv.Itoa0
import Derived.Shelf.Strconv.Itoa1
import Derived.Shelf.LaysM
import Derived.Shelf.Strconv.Itoa2
import Derived.Shelf.Strconv.Itoa3
import Derived.Shelf.Strconv.Itoa4
import Derived.Shelf.Bytes.Len
import Derived.Shelf.Bytes.TryGrow
import Derived.Shelf.Bytes.GrowSliceCatch
import Derived.Shelf.Bytes.GrowSlice
import Derived.Shelf.Bytes.Bytes
import Derived.Shelf.Strconv.ParseIntEmpty
import Derived.Shelf.Strconv.Clone
import Derived.Shelf.Strconv.SyntaxError
import Derived.Shelf.LaysC
import Derived.Shelf.Strconv.ToError
import Derived.Shelf.Strconv.Lower
import Derived.Shelf.Strconv.ParseUint10
import Derived.Shelf.Strconv.ParseUint10Empty
import Derived.Shelf.Strconv.ParseUint10Any
import Derived.Shelf.Strconv.ParseInt10
import Derived.Shelf.Strconv.RangeError
import Derived.Shelf.Strconv.ToErrorRange
import Derived.Shelf.Strconv.ParseUintEmpty
import Derived.Shelf.Strconv.ParseUint10b64
import Derived.Shelf.Strconv.ParseUint10b32
import Derived.Shelf.Strconv.ParseUint10b16
import Derived.Shelf.Strconv.ParseUint10b8
import Derived.Shelf.Strconv.ParseUint10At
import Derived.Shelf.Strconv.ParseInt10At64
import Derived.Shelf.Strconv.ParseInt10At32
import Derived.Shelf.Strconv.ParseInt10At16
import Derived.Shelf.Strconv.ParseInt10At8
import Derived.Shelf.Strconv.ParseInt10All
import Derived.Shelf.Strconv.ParseIntPublic10
import Derived.Shelf.Strconv.ErrVarParseInt
import Derived.Shelf.Strings.Search1
import Derived.Shelf.Bytes.GrowRow0Kept
import Derived.Shelf.Strings.Search2
import Derived.Shelf.Bytes.GrowRowKept
import Derived.Shelf.Strings.Search3
import Derived.Shelf.Bytes.GrowNilKept
import Derived.Shelf.Strings.Cut
import Derived.Shelf.Bytes.GrowKept
import Derived.Shelf.Strings.Count
import Derived.Shelf.Strings.Shaped
import Derived.Shelf.Bytes.WriteStringKept
import Derived.Shelf.Sort.Plain
import Derived.Shelf.Bytes.ResetKept
import Derived.Shelf.Bytes.BufferK
import Derived.Shelf.Strings.Split
import Derived.Shelf.Strings.SplitShaped
import Derived.Shelf.Unicode.DecodeSlow
import Derived.Shelf.Slices.In.SortNone
import Derived.Ground.SlgfProg
import Derived.Shelf.SlicesE.IndexFunc
import Derived.Shelf.SlSortCmp.WholeK
import Derived.Shelf.SlGeneric
import Derived.Ground.SlsfProg
import Derived.Test.YtphglnenafdkaaaGreatDoorProg
namespace Go.Proofs.YtphglnenafdkaaaGreatDoor
open Go.RowKit
set_option linter.unusedVariables false
set_option linter.unusedSimpArgs false

/-- a row of numbers -/
def IArr (w : World) (b n : Nat) (f : Nat → Nat) : Prop := ∃ cs, Blk w b 3 cs ∧ cs.size = n ∧ ∀ j, j < n → cs[j]? = some (.int .i64 (f j : Nat))
section
variable {w w' : World} {b n : Nat} {f : Nat → Nat}
theorem IArr.cell (h : IArr w b n f) {j : Nat} (hj : j < n) : w.cell? ⟨b, j, none⟩ = some (.int .i64 (f j : Nat)) := by
  obtain ⟨cs, h1, h2, h3⟩ := h
  exact (h1.cell _).trans (h3 j hj)
theorem IArr.frozen (h : IArr w b n f) (j : Nat) : w.frozen? ⟨b, j, none⟩ = false := by
  obtain ⟨cs, h1, h2, h3⟩ := h
  exact h1.frozen j
theorem IArr.lt (h : IArr w b n f) : b < w.heap.size := by obtain ⟨cs, h1, _⟩ := h; exact h1.lt
theorem IArr.upd {N : Nat → Prop} (h : IArr w b n f) (hu : Upd N w w') (hN : ¬ N b) : IArr w' b n f := by
  obtain ⟨cs, h1, h2⟩ := h
  exact ⟨cs, h1.upd hu hN, h2⟩
theorem IArr.below (h : IArr w b n f) (hb : Below w.heap.size w w') : IArr w' b n f := by
  obtain ⟨cs, h1, h2⟩ := h
  exact ⟨cs, h1.below_all hb, h2⟩
theorem IArr.congr {f' : Nat → Nat} (h : IArr w b n f) (hf : ∀ j, j < n → f j = f' j) : IArr w b n f' := by
  obtain ⟨cs, h1, h2, h3⟩ := h
  exact ⟨cs, h1, h2, fun j hj => by rw [h3 j hj, hf j hj]⟩
theorem IArr.set (h : IArr w b n f) {i : Nat} (hi : i < n) (v : Nat) : IArr (w.setCell ⟨b, i, none⟩ (.int .i64 (v : Nat))) b n (fun j => if j = i then v else f j) := by
  obtain ⟨cs, h1, h2, h3⟩ := h
  refine ⟨_, h1.set_ i _, by simp [h2], fun j hj => ?_⟩
  by_cases e : j = i
  · subst e
    simp only [if_true]
    rw [Array.getElem?_setIfInBounds_self_of_lt (by omega)]
  · simp only [if_neg e]
    rw [Array.getElem?_setIfInBounds_ne (Ne.symm e)]
    exact h3 j hj
end
theorem info_int : (Tryz.prog.info? 3).map (fun i => (i.zero, i.size, i.bytes)) = some (some (.int .i64 0), 1, 8) := by kernel_rfl
theorem make_parts (N : Nat) (hN : N ≤ 64) (w : World) : (Instr.makeSlice 72 (.int .i64 (N : Int)) (.int .i64 (N : Int))).run Tryz.prog w = .ok (.slice (some ⟨w.heap.size, 0, none⟩) N N) (w.alloc (.cells (madeCells #[.int .i64 0] N) 3)) := by
  obtain ⟨i0, hi0, hz0, hz1, hz2⟩ := info_parts info_int
  have h := run_makeSlice (P := Tryz.prog) w 72 3 i0 _ Tryz.underlying72 hi0 hz0 .i64 .i64 (N : Int) (N : Int) (by omega) (Int.le_refl _) (by simp only [Int.toNat_natCast]; rw [hz1]; omega) (by rw [hz2]; omega) (by omega)
  simp only [Int.toNat_natCast, hz1, Nat.mul_one] at h
  exact h
theorem IArr.new (w : World) (N : Nat) : IArr (w.alloc (.cells (madeCells #[.int .i64 0] N) 3)) w.heap.size N fun _ => 0 := by
  have hl := toList_madeCells_one (.int .i64 0) N
  refine ⟨_, Blk.new w _ _, ?_, fun j hj => ?_⟩
  · have := congrArg List.length hl
    simpa using this
  · have := congrArg (fun l => l[j]?) hl
    simpa [hj] using this
/-! the closure -/
theorem notvalid_any (k : ByteArray) (w : World) (hk : k.size ≤ 9223372036854775806) : Calls Tryz.prog 35 #[.string k] w fun e w' => e = .returned (.bool (!validK k)) ∧ w' = w := by
  have hv := hid (validk_any k w hk)
  generalize validK k = b at *
  go_enter Tryz.func35, Tryz.ntmps35
  go_wp2_with fail
  refine hv.out.mono ?_
  rintro e w2 ⟨rfl, rfl⟩
  go_wp2_with fail
  go_ret
  exact ⟨by first | rfl | simp, rfl⟩
def strs (ks : List ByteArray) : List Value := ks.map .string
theorem rd_strs {S : Nat → Prop} {w : World} {A : Option Addr} {ks : List ByteArray} (h : Rd S w 1 A ks.length (strs ks)) {i : Nat} (hi : i < ks.length) : ∃ b o, A = some ⟨b, o, none⟩ ∧ S b ∧ b < w.heap.size ∧ w.cell? ⟨b, o + i, none⟩ = some (.string ks[i]) := by
  obtain ⟨b, o, rfl, hS, hl, hc⟩ := h.at_ hi
  exact ⟨b, o, rfl, hS, hl, hc i _ (by simp [strs, hi])⟩
set_option maxRecDepth 100000 in
set_option maxHeartbeats 1000000 in
theorem indexfunc_any {Sk : Nat → Prop} {w : World} {A : Option Addr} {c : Nat} (ks : List ByteArray) (h : Rd Sk w 1 A ks.length (strs ks)) (hs : ∀ k ∈ ks, k.size ≤ 9223372036854775806) (hn : ks.length ≤ 1000000) : Calls Tryz.prog 63 #[.slice A ks.length c, .func (.func 35) #[] #[]] w fun e w' => (∃ v : Int, e = .returned (.int .i64 v) ∧ decide (0 ≤ v) = ks.any fun k => !validK k) ∧ w' = w := by
  have hr := hid h
  clear h
  go_enter Tryz.func63, Tryz.ntmps63
  go_wp2_with fail
  go_loopw [8] (fun v wr => ∃ k : Nat, v = .int .i64 k ∧ k ≤ ks.length ∧ wr = w ∧ ∀ j (hj : j < ks.length), j < k → validK ks[j] = true) (fun v _ => ks.length - (intOf v).toNat)
  case atStart => exact ⟨0, rfl, Nat.zero_le _, rfl, fun j _ h => by omega⟩
  case round =>
    obtain ⟨k, rfl, hk, rfl, ha0⟩ := hrel
    have ha := hid ha0
    clear ha0
    by_cases hlt : k < ks.length
    · have i1 : (k : Int) < (ks.length : Int) := by omega
      have hs9 : (ks.length : Int) ≤ 1000000 := by omega
      obtain ⟨b, o, rfl, _, hbl, hc⟩ := rd_strs hr.out hlt
      have hv := hid (notvalid_any ks[k] wr (hs _ (List.getElem_mem hlt)))
      cases hb0 : validK ks[k] with
      | true =>
        have hb := hid hb0
        rw [hb0] at hv
        clear hb0 hbl
        go_wp2_with fail
        refine hv.out.mono ?_
        rintro e w2 ⟨rfl, rfl⟩
        go_wp2_with fail
        go_roundw
        case rel => exact ⟨k + 1, by go_num, hlt, by first | rfl | trivial, fun j hj hjk => by
          by_cases e : j = k
          · subst e; exact hb.out
          · exact ha.out j hj (by omega)⟩
        case measure => simp [intOf]; omega
      | false =>
        have hfin : Hid (decide (0 ≤ (k : Int)) = ks.any fun k => !validK k) := hid (by
          rw [decide_eq_true (by omega)]
          exact (List.any_eq_true.2 ⟨ks[k], List.getElem_mem hlt, by rw [hb0]; rfl⟩).symm)
        rw [hb0] at hv
        clear hb0 hbl
        go_wp2_with fail
        refine hv.out.mono ?_
        rintro e w2 ⟨rfl, rfl⟩
        go_wp2_with fail
        go_ret
        exact ⟨⟨_, rfl, hfin.out⟩, by first | rfl | trivial⟩
    · obtain rfl : k = ks.length := by omega
      have hfin : Hid (decide (0 ≤ (-1 : Int)) = ks.any fun k => !validK k) := hid (by
        rw [decide_eq_false (by omega)]
        symm
        rw [List.any_eq_false]
        intro x hx
        obtain ⟨j, hj, rfl⟩ := List.mem_iff_getElem.1 hx
        rw [ha.out j hj hj]; simp)
      clear hr
      go_wp2_with fail
      go_ret
      exact ⟨⟨_, rfl, hfin.out⟩, by first | rfl | trivial⟩
theorem contains_any {Sk : Nat → Prop} {w : World} {A : Option Addr} {c : Nat} (ks : List ByteArray) (h : Rd Sk w 1 A ks.length (strs ks)) (hs : ∀ k ∈ ks, k.size ≤ 9223372036854775806) (hn : ks.length ≤ 1000000) : Calls Tryz.prog 34 #[.slice A ks.length c, .func (.func 35) #[] #[]] w fun e w' => e = .returned (.bool (ks.any fun k => !validK k)) ∧ w' = w := by
  have hv := hid (indexfunc_any (c := c) ks h hs hn)
  generalize (ks.any fun k => !validK k) = b at *
  clear h
  go_enter Tryz.func34, Tryz.ntmps34
  go_wp2_with fail
  refine hv.out.mono ?_
  rintro e w2 ⟨⟨v, rfl, hvb⟩, rfl⟩
  have hh := hid hvb
  clear hvb
  go_wp2_with fail
  go_ret
  exact ⟨by rw [← hh.out]; rfl, rfl⟩
/-! a key gets its place -/
section
variable {S : Nat → Prop} {w w' : World} {g cb cc vb : Nat} {mb : Nat → Nat} {s : St}
theorem PIn.ins {k : ByteArray} {p : Nat} (h : PIn S w g s cb cc mb vb) (hp : partK s.parts k = p) (hu : w.grownBy w' (some (mb p))) (hm : MapF strE w' (mb p) fun y => if y = k then some (.int .i64 1) else Dc s.L s.parts p y) (hok : St.Ok { s with L := insK k s.L }) :
    PIn S w' g { s with L := insK k s.L } cb cc mb vb ∧ Upd S w w' := by
  have hpl : p < s.parts := by rw [← hp]; exact partK_lt k (by have := h.ok.parts; omega)
  have hU : Upd (fun j => j = mb p) w w' := upd_grown hu fun j hj => by injection hj with hj; exact hj.symm
  obtain ⟨cs, h1, h2⟩ := h.row
  have hne : ∀ {b t cs}, Blk w b t cs → ¬ b = mb p := fun hb e => (h.cl p hpl).ne_blk hb e.symm
  refine ⟨⟨h.blk.upd hU (hne h.blk), ⟨cs, h1.upd hU (hne h1), h2⟩, fun q hq => ?_, h.inj, ?_, h.vne, h.inS, fun j hj => Nat.lt_of_lt_of_le (h.lt j hj) hU.size, hok⟩, hU.mono fun j _ hj => hj ▸ h.inS.2.2.2 p hpl⟩
  · show MapF strE w' (mb q) (Dc (insK k s.L) s.parts q)
    by_cases e : q = p
    · subst e
      refine hm.congr fun y => ?_
      unfold Dc
      rw [hasK_ins]
      by_cases e : y = k
      · subst e; simp [hp]
      · have : ¬ k = y := fun h => e h.symm
        simp [e, this]
    · refine ((h.cl q hq).upd hU fun e2 => e (h.inj q p hq hpl e2)).congr fun y => ?_
      unfold Dc
      rw [hasK_ins]
      by_cases e3 : k = y
      · subst e3
        have : ¬ partK s.parts k = q := by rw [hp]; exact fun h => e h.symm
        simp [this]
      · simp [e3]
  · refine (h.vals.upd hU fun e => h.vne p hpl e.symm).congr fun y => ?_
    unfold Dv
    simp only [valK_ins h.ok.asc]
end
/-! what is refused, what is not -/
section
variable {s : St} {ks : List ByteArray}
theorem claimE_key (h : (ks.any fun k => !validK k) = true) : claimE s ks = 30 := by unfold claimE; rw [if_pos h]
theorem rise_no {k : Nat} (hk : k + 1 < ks.length) (h : ltB ks[k] ks[k + 1] = false) : riseB ks = false := by
  unfold riseB
  rw [List.all_eq_false]
  refine ⟨k, List.mem_range.2 (by omega), ?_⟩
  simp [List.getD_eq_getElem?_getD, hk, show k < ks.length by omega, h]
theorem rise_yes (h : ∀ j (hj : j + 1 < ks.length), ltB ks[j] ks[j + 1] = true) : riseB ks = true := by
  unfold riseB
  rw [List.all_eq_true]
  intro j hj
  have := List.mem_range.1 hj
  have h2 := h j (by omega)
  simp [List.getD_eq_getElem?_getD, show j + 1 < ks.length by omega, show j < ks.length by omega, h2]
theorem claimE_rise (h : (ks.any fun k => !validK k) = false) (h2 : riseB ks = false) : claimE s ks = 40 := by unfold claimE; rw [if_neg (by simp [h]), if_pos h2]
theorem claimE_full (h : (ks.any fun k => !validK k) = false) (h2 : riseB ks = true) {p : Nat} (hp : p < s.parts) (h3 : 0 < moreK s ks p) (h4 : s.room < cntP s.parts p s.L + moreK s ks p) : claimE s ks = 5 := by
  unfold claimE
  rw [if_neg (by simp [h]), if_neg (by simp [h2])]
  exact if_pos (List.any_eq_true.2 ⟨p, List.mem_range.2 hp, by simp [h3, h4]⟩)
theorem claimE_ok (h : (ks.any fun k => !validK k) = false) (h2 : riseB ks = true) (h3 : ∀ p, p < s.parts → ¬ (0 < moreK s ks p ∧ s.room < cntP s.parts p s.L + moreK s ks p)) : claimE s ks = 0 := by
  unfold claimE
  rw [if_neg (by simp [h]), if_neg (by simp [h2]), if_neg]
  intro h4
  obtain ⟨p, hp, h5⟩ := List.any_eq_true.1 h4
  simp at h5
  exact h3 p (List.mem_range.1 hp) h5
theorem claimS_no (h : claimE s ks ≠ 0) : claimS s ks = s := by unfold claimS; rw [if_neg h]
theorem claimS_yes (h : claimE s ks = 0) : claimS s ks = { s with L := insAll s.L ks } := by unfold claimS; rw [if_pos h]
/-- the first of the keys may be claimed too -/
theorem claimE_take (h : claimE s ks = 0) (k : Nat) : claimE s (ks.take k) = 0 := by
  unfold claimE at h
  split at h; · cases h
  rename_i h1
  split at h; · cases h
  rename_i h2
  split at h; · cases h
  rename_i h3
  refine claimE_ok ?_ ?_ fun p hp h4 => h3 ?_
  · rw [List.any_eq_false]
    intro x hx
    simp at h1
    simp [h1 x (List.mem_of_mem_take hx)]
  · refine rise_yes fun j hj => ?_
    have hl : (ks.take k).length ≤ ks.length := by simp; omega
    have := rise_lt (ks := ks) (by simpa using h2) j (j + 1) (by omega) (by omega)
    simpa [List.getD_eq_getElem?_getD, show j + 1 < ks.length by omega, show j < ks.length by omega] using this
  · have hle : moreK s (ks.take k) p ≤ moreK s ks p := (List.take_sublist k ks).countP_le
    exact List.any_eq_true.2 ⟨p, List.mem_range.2 hp, by simp; omega⟩
theorem pre_ok (h : s.Ok) (he : claimE s ks = 0) (k : Nat) : St.Ok { s with L := insAll s.L (ks.take k) } := by
  have := claim_ok h (ks.take k)
  rwa [claimS_yes (claimE_take he k)] at this
theorem insAll_snoc {L : List Kv} (l : List ByteArray) (k : ByteArray) : insAll L (l ++ [k]) = insK k (insAll L l) := by unfold insAll; rw [List.foldl_append]; rfl
theorem take_snoc {α : Type} {l : List α} {k : Nat} (h : k < l.length) : l.take (k + 1) = l.take k ++ [l[k]] := by
  rw [List.take_add_one, List.getElem?_eq_getElem h]; rfl
end
end Go.Proofs.YtphglnenafdkaaaGreatDoor

namespace Go.Proofs.YtphglnenafdkaaaGreatDoor
open Go.RowKit
set_option linter.unusedVariables false
set_option linter.unusedSimpArgs false

section
variable {S : Nat → Prop} {w w' : World} {g : Nat} {s : St}
theorem claimed_b (k : ByteArray) (h : PAt S w g s) (hk : k.size ≤ 9223372036854775806) : Calls Tryz.prog 24 #[.pointer (some ⟨g, 0, none⟩), .string k] w fun e w' => e = .returned (.bool (hasK k s.L)) ∧ Below w.heap.size w w' :=
  (claimed_any k h hk).mono fun e w' ⟨h1, q, h2⟩ => ⟨h1, by rw [h2]; exact below_drewN (Below.refl _ _) q⟩
set_option maxRecDepth 100000 in
set_option maxHeartbeats 4000000 in
theorem claim_any {Sk : Nat → Prop} {A : Option Addr} {c : Nat} (ks : List ByteArray) (h : PAt S w g s) (hr : Rd Sk w 1 A ks.length (strs ks)) (hd : ∀ b, Sk b → ¬ S b) (hs : ∀ k ∈ ks, k.size ≤ 9223372036854775806) (hn : ks.length ≤ 1000000) :
    Calls Tryz.prog 10 #[.pointer (some ⟨g, 0, none⟩), .slice A ks.length c] w fun e w' => e = .returned (.int .i64 (claimE s ks)) ∧ PAt S w' g (claimS s ks) ∧ Upd S w w' := by
  obtain ⟨cb, cc, mb, vb, h⟩ := h
  have hcon := hid (contains_any (c := c) ks hr hs hn)
  have HH := hid h
  have HR := hid hr
  have HS := hid hs
  have hN : (ks.length : Int) ≤ 1000000 := by omega
  clear h hr hs hn
  go_enter Tryz.func10, Tryz.ntmps10
  go_wp2_with fail
  refine hcon.out.mono ?_
  rintro e w2 ⟨rfl, rfl⟩
  clear hcon
  cases hv0 : (ks.any fun k => !validK k) with
  | true =>
    have hfin : Hid (claimE s ks = 30 ∧ PAt S w2 g (claimS s ks)) := hid (by
      have he := claimE_key (s := s) hv0
      exact ⟨he, by rw [claimS_no (by rw [he]; decide)]; exact ⟨_, _, _, _, HH.out⟩⟩)
    clear hv0
    go_wp2_with fail
    go_ret
    exact ⟨by rw [hfin.out.1]; rfl, hfin.out.2, Upd.refl _ _⟩
  | false =>
  have hv := hid hv0
  clear hv0
  go_wp2_with fail
  go_loopw [5] (fun v wr => ∃ (k : Nat), v = .int .i64 k ∧ 1 ≤ k ∧ (k ≤ ks.length ∨ k = 1) ∧ Below w2.heap.size w2 wr ∧ ∀ j (hj : j + 1 < ks.length), j + 1 < k → ltB ks[j] ks[j + 1] = true) (fun v _ => ks.length - (intOf v).toNat)
  case atStart => exact ⟨1, rfl, Nat.le_refl _, .inr rfl, Below.refl _ _, fun j hj h => by omega⟩
  case round =>
    obtain ⟨k, rfl, hk1, hkn, hB0, ha0⟩ := hrel
    have hB := hid hB0
    have ha := hid ha0
    clear hB0 ha0
    by_cases hlt : k < ks.length
    · obtain ⟨j, hjk⟩ : ∃ j, j + 1 = k := ⟨k - 1, by omega⟩
      have hj : j < ks.length := by omega
      have hR2 := HR.out.below_all hB.out
      obtain ⟨b, o, rfl, _, _, hc1⟩ := rd_strs hR2 hj
      obtain ⟨b', o', e, _, _, hc2⟩ := rd_strs hR2 hlt
      injection e with e; injection e with e1 e2; subst e1; subst e2
      have i0 : (j : Int) < (ks.length : Int) := by omega
      have i1 : (k : Int) < (ks.length : Int) := by omega
      have x1 : IntKind.i64.wrap ((k : Int) - 1) = (j : Int) := by rw [IntKind.wrap_i64]; omega
      have hjk := hid hjk
      cases hl0 : ltB ks[j] ks[k] with
      | true =>
        have hl : Op.bytesLess (ks[j]).toList (ks[k]).toList = true := hl0
        have hl1 := hid hl0
        clear hl0 hR2 hk1 hkn
        go_wp2_with fail
        go_quiet (fail)
        go_wp2_with fail
        go_roundw
        case rel => exact ⟨k + 1, by go_num, by omega, .inl hlt, below_drewN hB.out _, fun i hi hik => by
          have e := hjk.out
          by_cases e2 : i = j
          · subst e2
            have := hl1.out
            simp only [← e] at this
            exact this
          · exact ha.out i hi (by omega)⟩
        case measure => simp [intOf]; omega
      | false =>
        have hl : Op.bytesLess (ks[j]).toList (ks[k]).toList = false := hl0
        have hfin : Hid (claimE s ks = 40 ∧ ∀ w', Below w2.heap.size w2 w' → PAt S w' g (claimS s ks)) := hid (by
          have e := hjk.out
          have hr : riseB ks = false := rise_no (k := j) (by omega) (by subst e; exact hl0)
          have he := claimE_rise (s := s) hv.out hr
          exact ⟨he, fun w' hb => by rw [claimS_no (by rw [he]; decide)]; exact ⟨_, _, _, _, HH.out.below hb⟩⟩)
        clear hl0 hR2 hk1 hkn
        go_wp2_with fail
        go_quiet (fail)
        go_wp2_with fail
        go_ret
        exact ⟨by rw [hfin.out.1]; rfl, hfin.out.2 _ (below_drewN hB.out _), .of_below (below_drewN hB.out _) fun k hk h => by omega⟩
    · have hrise := hid (rise_yes fun j hj => ha.out j hj (by omega))
      clear ha hk1 hkn
      have c1 : wr.cell? ⟨g, 1, none⟩ = some (.slice (some ⟨cb, 0, none⟩) s.parts cc) := (HH.out.below hB.out).cells.2.1
      have hmk := make_parts s.parts HH.out.ok.parts.2 wr
      go_upto_region 11 with fail
      have hm0 := IArr.new wr s.parts
      have hB2 : Below w2.heap.size w2 (wr.alloc (.cells (madeCells #[.int .i64 0] s.parts) 3)) := hB.out.alloc hB.out.size _
      have hml : w2.heap.size ≤ wr.heap.size := hB.out.size
      generalize wr.alloc (.cells (madeCells #[.int .i64 0] s.parts) 3) = w3 at *
      generalize wr.heap.size = m at *
      have HM := hid hm0
      have HB3 := hid hB2
      have HL := hid hml
      clear hm0 hB2 hml hmk c1 hB hlt
      go_wp2_with fail
      go_loopw [41] (fun v wr => ∃ (k : Nat), v = .int .i64 k ∧ k ≤ ks.length ∧ IArr wr m s.parts (fun p => (ks.take k).countP fun x => !hasK x s.L && decide (partK s.parts x = p)) ∧ Below w2.heap.size w2 wr) (fun v _ => ks.length - (intOf v).toNat)
      case atStart => exact ⟨0, rfl, Nat.zero_le _, HM.out.congr fun j hj => by simp, HB3.out⟩
      case round =>
        clear HM HB3
        obtain ⟨k, rfl, hk, hm0, hB0⟩ := hrel
        have HM := hid hm0
        have HB := hid hB0
        clear hm0 hB0
        by_cases hlt : k < ks.length
        · have i1 : (k : Int) < (ks.length : Int) := by omega
          obtain ⟨b, o, rfl, _, _, hc1⟩ := rd_strs (HR.out.below_all HB.out) hlt
          have hcl := hid (claimed_b ks[k] ⟨_, _, _, _, HH.out.below HB.out⟩ (HS.out _ (List.getElem_mem hlt)))
          have hpa := hid fun w => part_any ks[k] s.parts w (HS.out _ (List.getElem_mem hlt)) HH.out.ok.parts.1 HH.out.ok.parts.2
          have htk := hid (take_snoc hlt)
          obtain ⟨x, hx⟩ : ∃ x, x = ks[k] := ⟨_, rfl⟩
          rw [← hx] at hc1 hcl hpa htk
          clear hx
          go_wp2_with fail
          refine hcl.out.mono ?_
          rintro e w5 ⟨rfl, hb50⟩
          have HM5 := hid (HM.out.below hb50)
          have HB5 := hid (HB.out.trans (hb50.mono HB.out.size))
          clear hb50 HM HB hcl hc1
          cases hh0 : hasK x s.L with
          | true =>
            have hh := hid hh0
            clear hh0
            go_wp2_with fail
            go_roundw
            case rel => exact ⟨k + 1, by go_num, hlt, HM5.out.congr fun j hj => by rw [htk.out, List.countP_append]; simp [hh.out], HB5.out⟩
            case measure => simp [intOf]; omega
          | false =>
            have hpl := partK_lt x (show 0 < s.parts by have := HH.out.ok.parts; omega)
            have hh := hid hh0
            have c1 : w5.cell? ⟨g, 1, none⟩ = some (.slice (some ⟨cb, 0, none⟩) s.parts cc) := (HH.out.below HB5.out).cells.2.1
            have cf := HM5.out.frozen
            have cp := HM5.out.cell hpl
            have hml := HM5.out.lt
            have hpi : ((partK s.parts x : Nat) : Int) < (s.parts : Int) := by omega
            have hle : (((ks.take k).countP fun y => !hasK y s.L && decide (partK s.parts y = partK s.parts x) : Nat) : Int) ≤ 1000000 := by
              have h1 := List.countP_le_length (p := fun y => !hasK y s.L && decide (partK s.parts y = partK s.parts x)) (l := ks.take k)
              have h2 : (ks.take k).length ≤ ks.length := by simp; omega
              omega
            have hset := hid (fun n => HM5.out.set hpl n)
            obtain ⟨p, hp⟩ : ∃ p, p = partK s.parts x := ⟨_, rfl⟩
            rw [← hp] at cp hpi hle hset hpl
            simp only [← hp] at hpa
            obtain ⟨n, hn⟩ : ∃ n, n = (ks.take k).countP fun y => !hasK y s.L && decide (partK s.parts y = p) := ⟨_, rfl⟩
            rw [← hn] at cp hle
            have x1 : IntKind.i64.wrap ((n : Int) + 1) = (n : Int) + 1 := by rw [IntKind.wrap_i64]; omega
            have hnn := hid hn
            have hpp := hid hp
            have hpl := hid hpl
            clear hn hp hh0 hle hpl
            go_wp2_with fail
            refine (hpa.out _).mono ?_
            rintro e w6 ⟨rfl, rfl⟩
            go_wp2_with fail
            go_roundw
            case rel =>
              refine ⟨k + 1, by go_num, hlt, ?_, HB5.out.setCell (p := ⟨m, p, none⟩) HL.out _⟩
              have := hset.out (n + 1)
              rw [show ((n + 1 : Nat) : Int) = (n : Int) + 1 by omega] at this
              refine this.congr fun j hj => ?_
              rw [htk.out, List.countP_append]
              by_cases e : j = p
              · subst e; rw [if_pos rfl, hnn.out]; simp [hh.out, hpp.out]
              · have : ¬ partK s.parts x = j := fun h => e (by rw [hpp.out, h])
                rw [if_neg e]; simp [this]
            case measure => simp [intOf]; omega
        · obtain rfl : k = ks.length := by omega
          have HM3 : Hid (IArr wr m s.parts (moreK s ks)) := hid (HM.out.congr fun p hp => by simp only [List.take_length]; rfl)
          clear HM
          go_wp2_with fail
          go_loopw [64] (fun v wr => ∃ (k : Nat), v = .int .i64 k ∧ k ≤ s.parts ∧ IArr wr m s.parts (moreK s ks) ∧ Below w2.heap.size w2 wr ∧ ∀ p, p < k → ¬ (0 < moreK s ks p ∧ s.room < cntP s.parts p s.L + moreK s ks p)) (fun v _ => s.parts - (intOf v).toNat)
          case atStart => exact ⟨0, rfl, Nat.zero_le _, HM3.out, HB.out, fun p hp => by omega⟩
          case round =>
            clear HM3 HB hlt hk
            obtain ⟨k, rfl, hk, hm0, hB0, hf0⟩ := hrel
            have HM := hid hm0
            have HB := hid hB0
            have HF := hid hf0
            clear hm0 hB0 hf0
            have hparts : (s.parts : Int) ≤ 64 := by have := HH.out.ok.parts.2; omega
            by_cases hlt : k < s.parts
            · have i1 : (k : Int) < (s.parts : Int) := by omega
              have hP := HH.out.below HB.out
              obtain ⟨c0, c1, _⟩ := hP.cells
              have r1 := hP.rowc k hlt
              have cp := HM.out.cell hlt
              have hsz : ∀ q ty, (Builtin.len_ #[78] ty #[.map (some (mb k))]).run Tryz.prog (wr.drewN q) = .ok (.int .i64 (cntP s.parts k s.L)) (wr.drewN q) := fun q ty => (hP.drewN q).size k hlt ty
              have hsz0 := hsz 0
              have hcn := HH.out.ok.cnt k hlt
              have hrm := HH.out.ok.room
              have hmle : moreK s ks k ≤ ks.length := List.countP_le_length
              have e1 := hid (show moreK s ks k = moreK s ks k from rfl)
              obtain ⟨n, hn⟩ : ∃ n, n = moreK s ks k := ⟨_, rfl⟩
              obtain ⟨d, hd'⟩ : ∃ d, d = cntP s.parts k s.L := ⟨_, rfl⟩
              rw [← hn] at cp hmle
              rw [← hd'] at hsz0 hcn
              simp only [← hd'] at hsz
              have x1 : IntKind.i64.wrap ((d : Int) + (n : Int)) = (d : Int) + (n : Int) := by rw [IntKind.wrap_i64]; omega
              have hnn := hid hn
              have hdd := hid hd'
              have hmm := hid hmle
              by_cases hn0 : 0 < n
              · have t1 : decide ((0 : Int) < (n : Int)) = true := decide_eq_true (by omega)
                have t1n : decide (0 < n) = true := decide_eq_true hn0
                by_cases hfl : s.room < d + n
                · have t2 : decide ((s.room : Int) < (d : Int) + (n : Int)) = true := decide_eq_true (by omega)
                  have t2n : decide (s.room < d + n) = true := decide_eq_true hfl
                  have hfin : Hid (claimE s ks = 5 ∧ ∀ w', Below w2.heap.size w2 w' → PAt S w' g (claimS s ks)) := hid (by
                    have he := claimE_full (s := s) hv.out hrise.out hlt (by rw [← hn]; exact hn0) (by rw [← hn, ← hd']; exact hfl)
                    exact ⟨he, fun w' hb => by rw [claimS_no (by rw [he]; decide)]; exact ⟨_, _, _, _, HH.out.below hb⟩⟩)
                  clear hP hn hd' hcn hrm hmle hn0 hfl
                  go_wp2_with fail
                  go_quiet (fail)
                  go_wp2_with fail
                  go_ret
                  exact ⟨by rw [hfin.out.1]; rfl, hfin.out.2 _ (below_drewN HB.out _), .of_below (below_drewN HB.out _) fun k hk h => by omega⟩
                · have t2 : decide ((s.room : Int) < (d : Int) + (n : Int)) = false := decide_eq_false (by omega)
                  have t2n : decide (s.room < d + n) = false := decide_eq_false hfl
                  have hno := hid hfl
                  clear hP hn hd' hcn hrm hmle hn0 hfl
                  go_wp2_with fail
                  go_quiet (fail)
                  go_wp2_with fail
                  go_roundw
                  case rel =>
                    refine ⟨k + 1, by go_num, hlt, HM.out.below (below_drewN (Below.refl _ _) _), below_drewN HB.out _, fun p hp => ?_⟩
                    by_cases e : p = k
                    · subst e; rw [← hnn.out, ← hdd.out]; exact fun h => hno.out h.2
                    · exact HF.out p (by omega)
                  case measure => simp [intOf]; omega
              · have t1 : decide ((0 : Int) < (n : Int)) = false := decide_eq_false (by omega)
                have t1n : decide (0 < n) = false := decide_eq_false hn0
                have hno := hid hn0
                clear hP hn hd' hcn hrm hmle hn0 hsz hsz0
                go_wp2_with fail
                go_quiet (fail)
                go_wp2_with fail
                go_roundw
                case rel =>
                  refine ⟨k + 1, by go_num, hlt, HM.out.below (below_drewN (Below.refl _ _) _), below_drewN HB.out _, fun p hp => ?_⟩
                  by_cases e : p = k
                  · subst e; rw [← hnn.out]; exact fun h => hno.out h.1
                  · exact HF.out p (by omega)
                case measure => simp [intOf]; omega
            · obtain rfl : k = s.parts := by omega
              have he0 : claimE s ks = 0 := claimE_ok hv.out hrise.out fun p hp => HF.out p (by omega)
              have he := hid he0
              have HP := hid (HH.out.below HB.out)
              have HR2 := hid (HR.out.below_all HB.out)
              have HU : Hid (Upd S w2 wr) := hid (.of_below HB.out fun k hk h => by omega)
              clear he0 HF HM HH HR HB hlt hk hparts
              go_wp2_with fail
              go_loopw [91] (fun v wr => ∃ (k : Nat), v = .int .i64 k ∧ k ≤ ks.length ∧ PIn S wr g { s with L := insAll s.L (ks.take k) } cb cc mb vb ∧ Rd Sk wr 1 A ks.length (strs ks) ∧ Upd S w2 wr) (fun v _ => ks.length - (intOf v).toNat)
              case atStart => exact ⟨0, rfl, Nat.zero_le _, HP.out, HR2.out, HU.out⟩
              case round =>
                have HOk := hid (pre_ok HP.out.ok he.out)
                clear HP HR2 HU
                obtain ⟨k, rfl, hk, hp0, hr0, hu0⟩ := hrel
                have HP := hid hp0
                have HR := hid hr0
                have HU := hid hu0
                clear hp0 hr0 hu0
                by_cases hlt : k < ks.length
                · have i1 : (k : Int) < (ks.length : Int) := by omega
                  obtain ⟨b, o, rfl, _, _, hc1⟩ := rd_strs HR.out hlt
                  have hof := hid (of_any ks[k] HP.out (HS.out _ (List.getElem_mem hlt)))
                  have htk := hid (take_snoc hlt)
                  obtain ⟨x, hx⟩ : ∃ x, x = ks[k] := ⟨_, rfl⟩
                  rw [← hx] at hc1 hof htk
                  clear hx
                  go_wp2_with fail
                  refine hof.out.mono ?_
                  rintro e w5 ⟨rfl, q, hq⟩
                  have HP5 : Hid (PIn S w5 g { s with L := insAll s.L (ks.take k) } cb cc mb vb) := hid (by rw [hq]; exact HP.out.drewN q)
                  have HR5 : Hid (Rd Sk w5 1 (some ⟨b, o, none⟩) ks.length (strs ks)) := hid (by rw [hq]; exact HR.out.drewN q)
                  have HU5 : Hid (Upd S w2 w5) := hid (by rw [hq]; exact HU.out.drewN q)
                  clear HP HR HU hof hc1 hq
                  have hpl := partK_lt x (show 0 < s.parts by have := HP5.out.ok.parts.1; exact this)
                  obtain ⟨w6, hmu0, hm6, hg6, _⟩ := (HP5.out.cl (partK s.parts x) hpl).update Tryz.underlying78 x (.int .i64 1)
                  have hmu : (Instr.mapUpdate 78 (.map (some (mb (partK s.parts x)))) (.string x) (.int .i64 1)).run Tryz.prog w5 = .ok () w6 := hmu0
                  have hok2 := HOk.out (k + 1)
                  rw [htk.out, insAll_snoc] at hok2
                  obtain ⟨hP6, hU6⟩ := HP5.out.ins (k := x) rfl hg6 hm6 hok2
                  have HP6 := hid hP6
                  have HU6 := hid (HU5.out.trans hU6 fun _ _ h => h)
                  have HR6 := hid (HR5.out.upd hU6 hd)
                  clear hP6 hU6 hg6 hm6 hok2 hmu0 hpl HP5 HU5 HR5
                  go_wp2_with fail
                  go_roundw
                  case rel => exact ⟨k + 1, by go_num, hlt, by rw [htk.out, insAll_snoc]; exact HP6.out, HR6.out, HU6.out⟩
                  case measure => simp [intOf]; omega
                · obtain rfl : k = ks.length := by omega
                  have hfin : Hid (claimE s ks = 0 ∧ PAt S wr g (claimS s ks)) := hid ⟨he.out, by
                    rw [claimS_yes he.out]
                    have := HP.out
                    rw [List.take_length] at this
                    exact ⟨_, _, _, _, this⟩⟩
                  clear HP
                  go_wp2_with fail
                  go_ret
                  exact ⟨by rw [hfin.out.1]; rfl, hfin.out.2, HU.out⟩
end
end Go.Proofs.YtphglnenafdkaaaGreatDoor

namespace Go.Proofs.YtphglnenafdkaaaGreatDoor
open Go.RowKit
set_option linter.unusedVariables false
set_option linter.unusedSimpArgs false

theorem plain_any (c : Nat) (w : World) : Calls Tryz.prog 101 #[.int .u8 c] w fun e w' => e = .returned (.bool (decide (32 ≤ c) && decide (c ≤ 126))) ∧ w' = w := by
  by_cases h : 32 ≤ c
  · have t1 : decide ((32 : Int) ≤ (c : Int)) = true := decide_eq_true (by omega)
    have hc : Hid ((decide (32 ≤ c) && decide (c ≤ 126)) = decide ((c : Int) ≤ 126)) := hid (by rw [decide_eq_true h, Bool.true_and]; exact decide_eq_decide.2 (by omega))
    clear h
    go_enter Tryz.func101, Tryz.ntmps101
    go_wp2_with fail
    go_ret
    exact ⟨by rw [hc.out]; first | rfl | simp, rfl⟩
  · have t1 : decide ((32 : Int) ≤ (c : Int)) = false := decide_eq_false (by omega)
    have hc : Hid ((decide (32 ≤ c) && decide (c ≤ 126)) = false) := hid (by rw [decide_eq_false h, Bool.false_and])
    clear h
    go_enter Tryz.func101, Tryz.ntmps101
    go_wp2_with fail
    go_ret
    exact ⟨by rw [hc.out]; rfl, rfl⟩
theorem rmay_any (c : Nat) (w : World) : Calls Tryz.prog 72 #[.int .u8 c] w fun e w' => e = .returned (.bool (decide (32 ≤ c) && decide (c ≤ 126))) ∧ w' = w := by
  by_cases h : 32 ≤ c
  · have t1 : decide ((32 : Int) ≤ (c : Int)) = true := decide_eq_true (by omega)
    have hc : Hid ((decide (32 ≤ c) && decide (c ≤ 126)) = decide ((c : Int) ≤ 126)) := hid (by rw [decide_eq_true h, Bool.true_and]; exact decide_eq_decide.2 (by omega))
    clear h
    go_enter Tryz.func72, Tryz.ntmps72
    go_wp2_with fail
    go_ret
    exact ⟨by rw [hc.out]; first | rfl | simp, rfl⟩
  · have t1 : decide ((32 : Int) ≤ (c : Int)) = false := decide_eq_false (by omega)
    have hc : Hid ((decide (32 ≤ c) && decide (c ≤ 126)) = false) := hid (by rw [decide_eq_false h, Bool.false_and])
    clear h
    go_enter Tryz.func72, Tryz.ntmps72
    go_wp2_with fail
    go_ret
    exact ⟨by rw [hc.out]; rfl, rfl⟩

theorem okT_at {s : ByteArray} {k : Nat} (h : k < s.size) (hb : okB (s.data[k]'h) = false) : okT s = false := by
  unfold okT
  rw [List.all_eq_false]
  exact ⟨s.data[k]'h, by rw [Array.mem_toList_iff]; exact Array.getElem_mem h, by rw [hb]; decide⟩
theorem okT_all {s : ByteArray} (h : ∀ k (hk : k < s.size), okB (s.data[k]'hk) = true) : okT s = true := by
  unfold okT
  rw [List.all_eq_true]
  intro c hc
  rw [Array.mem_toList_iff] at hc
  obtain ⟨k, hk, rfl⟩ := Array.mem_iff_getElem.1 hc
  exact h k hk
theorem mayB {F : FuncId} {s : ByteArray} {k : Nat} {w : World} {b : Bool} (hk : k < s.size) (hc : okB (s.data[k]'hk) = b) (h : Calls Tryz.prog F #[.int .u8 ((s[k]'hk).toNat : Nat)] w fun e w' => e = .returned (.bool (decide (32 ≤ (s[k]'hk).toNat) && decide ((s[k]'hk).toNat ≤ 126))) ∧ w' = w) :
    Calls Tryz.prog F #[.int .u8 ((s[k]'hk).toNat : Nat)] w fun e w' => e = .returned (.bool b) ∧ w' = w := by
  rwa [show (decide (32 ≤ (s[k]'hk).toNat) && decide ((s[k]'hk).toNat ≤ 126)) = b from hc] at h
set_option maxRecDepth 100000 in
theorem printable_any (s : ByteArray) (w : World) (hs : s.size ≤ 9223372036854775806) : Calls Tryz.prog 86 #[.string s] w fun e w' => e = .returned (.bool (okT s)) ∧ w' = w := by
  go_enter Tryz.func86, Tryz.ntmps86
  go_wp2_with fail
  go_loopw [6] (fun v wr => ∃ k : Nat, v = .int .i64 k ∧ k ≤ s.size ∧ wr = w ∧ ∀ j (hj : j < s.size), j < k → okB (s.data[j]'hj) = true) (fun v _ => s.size - (intOf v).toNat)
  case atStart => exact ⟨0, rfl, Nat.zero_le _, rfl, fun j _ h => by omega⟩
  case round =>
    obtain ⟨k, rfl, hk, rfl, ha0⟩ := hrel
    have ha := hid ha0
    clear ha0
    by_cases hlt : k < s.size
    · have i1 : (k : Int) < (s.size : Int) := by omega
      have hs9 : (s.size : Int) ≤ 9223372036854775806 := by omega
      cases hc : okB (s.data[k]'hlt) with
      | true =>
        have hpl := hid (mayB hlt hc (plain_any _ wr))
        have hc := hid hc
        go_wp2_with fail
        refine hpl.out.mono ?_
        rintro e w2 ⟨rfl, rfl⟩
        go_wp2_with fail
        go_roundw
        case rel => exact ⟨k + 1, by go_num, hlt, by first | rfl | trivial, fun j hj hjk => by
          by_cases e : j = k
          · subst e; exact hc.out
          · exact ha.out j hj (by omega)⟩
        case measure => simp [intOf]; omega
      | false =>
        have hpl := hid (mayB hlt hc (plain_any _ wr))
        have hfin : Hid (okT s = false) := hid (okT_at hlt hc)
        clear hc
        go_wp2_with fail
        refine hpl.out.mono ?_
        rintro e w2 ⟨rfl, rfl⟩
        go_wp2_with fail
        go_ret
        exact ⟨by rw [hfin.out]; rfl, by first | rfl | trivial⟩
    · obtain rfl : k = s.size := by omega
      have hfin : Hid (okT s = true) := hid (okT_all fun j hj => ha.out j hj hj)
      go_wp2_with fail
      go_ret
      exact ⟨by rw [hfin.out]; rfl, by first | rfl | trivial⟩
theorem run_eqVal (a b : Vl) (w : World) :
    (Op.equalIn 10000 38 (.agg #[.int .i64 a.k, .int .i64 a.n, .string a.s]) (.agg #[.int .i64 b.k, .int .i64 b.n, .string b.s])).run Tryz.prog w = .ok (decide (a = b)) w := by
  have ht : Tryz.prog.underlying 38 = some (.struct (Tryz.prog.fieldsOf 38)) := by kernel_rfl
  have hp : Tryz.prog.stoodInHeld 38 = false := by kernel_rfl
  rw [run_equalIn_agg w 9999 _ _ _ ht hp]
  have e : decide (a = b) = (a.k == b.k && (a.n == b.n && (a.s.toList == b.s.toList))) := by
    rw [bytes_dec, Bool.eq_iff_iff]
    simp only [decide_eq_true_eq, Bool.and_eq_true, beq_iff_eq]
    exact ⟨fun e => by subst e; simp, fun ⟨h1, h2, h3⟩ => by cases a; cases b; simp_all⟩
  rw [e]
  clear ht hp e
  simp only [Program.fieldsOf, Tryz.underlying38]
  go_simp
  by_cases h1 : a.k = b.k <;> by_cases h2 : a.n = b.n <;> by_cases h3 : a.s.toList = b.s.toList <;> simp [h1, h2, h3]
theorem guardVal : Tryz.prog.eqGuardType Tryz.prog.depth 38 = false := by kernel_rfl
theorem eql_zero (k n : Int) (s : ByteArray) (w : World) : (binOp .eql 38 (.agg #[.int .i64 k, .int .i64 n, .string s]) (.agg #[.int .i64 0, .int .i64 0, .string ⟨#[]⟩])).run Tryz.prog w = .ok (.bool (decide ((⟨k, n, s⟩ : Vl) = vl0))) w := by
  have h := run_eqVal ⟨k, n, s⟩ vl0 w
  have e : vl0 = ⟨0, 0, ⟨#[]⟩⟩ := rfl
  rw [e] at h ⊢
  simp only at h
  rw [run_eql_struct, h]
  simp only [Result.andThen]
theorem ok_none (n : Int) (s : ByteArray) : Vl.ok ⟨0, n, s⟩ = decide ((⟨0, n, s⟩ : Vl) = vl0) := by
  unfold Vl.ok vl0
  rw [if_pos rfl, Bool.eq_iff_iff]
  simp
theorem str_nil {s : ByteArray} (h : s ≠ ⟨#[]⟩) : (s.toList == (⟨#[]⟩ : ByteArray).toList) = false ∧ (s.toList == []) = false ∧ ¬ s.toList = [] := by
  have h1 : (s.toList == (⟨#[]⟩ : ByteArray).toList) = false := by rw [bytes_dec]; exact decide_eq_false h
  have h2 : (⟨#[]⟩ : ByteArray).toList = [] := by rw [ByteArray.toList_eq]
  rw [h2] at h1
  exact ⟨by rw [h2]; exact h1, h1, by simpa using h1⟩
set_option maxRecDepth 100000 in
theorem valid_any (v : Vl) (w : World) (hs : v.s.size ≤ 9223372036854775806) : Calls Tryz.prog 66 #[.agg #[.int .i64 v.k, .int .i64 v.n, .string v.s]] w fun e w' => e = .returned (.bool v.ok) ∧ Below w.heap.size w w' := by
  obtain ⟨k, n, s⟩ := v
  have hgd := guardVal
  simp only at hs
  have hB : Hid (Below w.heap.size w (w.alloc (.cells #[.int .i64 k, .int .i64 n, .string s] 38))) := hid ((Below.refl _ _).alloc (Nat.le_refl _) _)
  have kb := Blk.new w 38 #[.int .i64 k, .int .i64 n, .string s]
  have x0 := kb.cell 0
  have x1 := kb.cell 1
  have x2 := kb.cell 2
  simp only [List.getElem?_toArray, List.getElem?_cons_zero, List.getElem?_cons_succ] at x0 x1 x2
  have hs9 := hid hs
  clear kb hs
  by_cases hk0 : k = 0
  · subst hk0
    have hz := eql_zero 0 n s
    have hok := hid (ok_none n s)
    generalize decide ((⟨0, n, s⟩ : Vl) = vl0) = b at *
    go_enter Tryz.func66, Tryz.ntmps66
    go_upto_region 1 with fail
    generalize w.alloc (.cells #[.int .i64 0, .int .i64 n, .string s] 38) = w1 at *
    go_wp2_with fail
    go_ret
    exact ⟨by rw [hok.out]; rfl, hB.out⟩
  have n0 : (k == 0) = false := by simpa using hk0
  by_cases hk1 : k = 1
  · subst hk1
    by_cases he : s = ⟨#[]⟩
    · subst he
      have hok : Hid (Vl.ok ⟨1, n, ⟨#[]⟩⟩ = true) := hid rfl
      go_enter Tryz.func66, Tryz.ntmps66
      go_upto_region 1 with fail
      generalize w.alloc (.cells #[.int .i64 1, .int .i64 n, .string ⟨#[]⟩] 38) = w1 at *
      go_wp2_with fail
      go_ret
      exact ⟨by rw [hok.out]; rfl, hB.out⟩
    · have hok : Hid (Vl.ok ⟨1, n, s⟩ = false) := hid (by unfold Vl.ok; simp only; rw [if_neg (by decide)]; simp only [if_true]; exact decide_eq_false he)
      obtain ⟨e1, e2, e3⟩ := str_nil he
      go_enter Tryz.func66, Tryz.ntmps66
      go_upto_region 1 with fail
      generalize w.alloc (.cells #[.int .i64 1, .int .i64 n, .string s] 38) = w1 at *
      go_wp2_with fail
      go_ret
      exact ⟨by rw [hok.out]; rfl, hB.out⟩
  have n1 : (k == 1) = false := by simpa using hk1
  by_cases hk2 : k = 2
  · subst hk2
    have hok : Hid (Vl.ok ⟨2, n, s⟩ = (decide (n = 0) && (decide (s.size ≤ 64) && okT s))) := hid rfl
    clear hk0 hk1 n0 n1
    by_cases hn : n = 0
    · subst hn
      by_cases hz : s.size ≤ 64
      · have z1 : decide ((s.size : Int) ≤ 64) = true := decide_eq_true (by omega)
        have z2 : decide (s.size ≤ 64) = true := decide_eq_true hz
        have hpr := hid fun w => printable_any s w (by omega)
        have hf : Hid (Vl.ok ⟨2, 0, s⟩ = okT s) := hid (by rw [hok.out, z2]; simp)
        clear hz
        go_enter Tryz.func66, Tryz.ntmps66
        go_upto_region 1 with fail
        generalize w.alloc (.cells #[.int .i64 2, .int .i64 0, .string s] 38) = w1 at *
        go_wp2_with fail
        refine (hpr.out _).mono ?_
        rintro e w2 ⟨rfl, rfl⟩
        go_wp2_with fail
        go_ret
        exact ⟨by rw [hf.out]; rfl, hB.out⟩
      · have z1 : decide ((s.size : Int) ≤ 64) = false := decide_eq_false (by omega)
        have z2 : decide (s.size ≤ 64) = false := decide_eq_false hz
        have hf : Hid (Vl.ok ⟨2, 0, s⟩ = false) := hid (by rw [hok.out, z2]; simp)
        clear hz
        go_enter Tryz.func66, Tryz.ntmps66
        go_upto_region 1 with fail
        generalize w.alloc (.cells #[.int .i64 2, .int .i64 0, .string s] 38) = w1 at *
        go_wp2_with fail
        go_ret
        exact ⟨by rw [hf.out]; rfl, hB.out⟩
    · have n1 : (n == 0) = false := by simpa using hn
      have hf : Hid (Vl.ok ⟨2, n, s⟩ = false) := hid (by rw [hok.out, decide_eq_false hn]; rfl)
      clear hn
      go_enter Tryz.func66, Tryz.ntmps66
      go_upto_region 1 with fail
      generalize w.alloc (.cells #[.int .i64 2, .int .i64 n, .string s] 38) = w1 at *
      go_wp2_with fail
      go_ret
      exact ⟨by rw [hf.out]; rfl, hB.out⟩
  have n2 : (k == 2) = false := by simpa using hk2
  have hf : Hid (Vl.ok ⟨k, n, s⟩ = false) := hid (by unfold Vl.ok; simp only; rw [if_neg hk0, if_neg hk1, if_neg hk2])
  clear hk0 hk1 hk2
  go_enter Tryz.func66, Tryz.ntmps66
  go_upto_region 1 with fail
  generalize w.alloc (.cells #[.int .i64 k, .int .i64 n, .string s] 38) = w1 at *
  go_wp2_with fail
  go_ret
  exact ⟨by rw [hf.out]; rfl, hB.out⟩
set_option maxRecDepth 100000 in
theorem rvalid_any (v : Vl) (w : World) (hs : v.s.size ≤ 9223372036854775806) : Calls Tryz.prog 49 #[.agg #[.int .i64 v.k, .int .i64 v.n, .string v.s]] w fun e w' => e = .returned (.bool v.ok) ∧ Below w.heap.size w w' := by
  obtain ⟨k, n, s⟩ := v
  have hgd := guardVal
  simp only at hs
  have hB : Hid (Below w.heap.size w (w.alloc (.cells #[.int .i64 k, .int .i64 n, .string s] 38))) := hid ((Below.refl _ _).alloc (Nat.le_refl _) _)
  have kb := Blk.new w 38 #[.int .i64 k, .int .i64 n, .string s]
  have x0 := kb.cell 0
  have x1 := kb.cell 1
  have x2 := kb.cell 2
  simp only [List.getElem?_toArray, List.getElem?_cons_zero, List.getElem?_cons_succ] at x0 x1 x2
  have hs9 := hid hs
  clear kb hs
  by_cases hk0 : k = 0
  · subst hk0
    by_cases hn : n = 0
    · subst hn
      by_cases he : s = ⟨#[]⟩
      · subst he
        have hok : Hid (Vl.ok ⟨0, 0, ⟨#[]⟩⟩ = true) := hid rfl
        go_enter Tryz.func49, Tryz.ntmps49
        go_upto_region 1 with fail
        generalize w.alloc (.cells #[.int .i64 0, .int .i64 0, .string ⟨#[]⟩] 38) = w1 at *
        go_wp2_with fail
        go_ret
        exact ⟨by rw [hok.out]; rfl, hB.out⟩
      · have hok : Hid (Vl.ok ⟨0, 0, s⟩ = false) := hid (by rw [ok_none]; exact decide_eq_false fun h => he (by unfold vl0 at h; simpa using h))
        obtain ⟨e1, e2, e3⟩ := str_nil he
        go_enter Tryz.func49, Tryz.ntmps49
        go_upto_region 1 with fail
        generalize w.alloc (.cells #[.int .i64 0, .int .i64 0, .string s] 38) = w1 at *
        go_wp2_with fail
        go_ret
        exact ⟨by rw [hok.out]; rfl, hB.out⟩
    · have hok : Hid (Vl.ok ⟨0, n, s⟩ = false) := hid (by rw [ok_none]; exact decide_eq_false fun h => hn (by unfold vl0 at h; simp at h; exact h.1))
      have n1 : (n == 0) = false := by simpa using hn
      clear hn
      go_enter Tryz.func49, Tryz.ntmps49
      go_upto_region 1 with fail
      generalize w.alloc (.cells #[.int .i64 0, .int .i64 n, .string s] 38) = w1 at *
      go_wp2_with fail
      go_ret
      exact ⟨by rw [hok.out]; rfl, hB.out⟩
  have n0 : (k == 0) = false := by simpa using hk0
  by_cases hk1 : k = 1
  · subst hk1
    by_cases he : s = ⟨#[]⟩
    · subst he
      have hok : Hid (Vl.ok ⟨1, n, ⟨#[]⟩⟩ = true) := hid rfl
      go_enter Tryz.func49, Tryz.ntmps49
      go_upto_region 1 with fail
      generalize w.alloc (.cells #[.int .i64 1, .int .i64 n, .string ⟨#[]⟩] 38) = w1 at *
      go_wp2_with fail
      go_ret
      exact ⟨by rw [hok.out]; rfl, hB.out⟩
    · have hok : Hid (Vl.ok ⟨1, n, s⟩ = false) := hid (by unfold Vl.ok; simp only; rw [if_neg (by decide)]; simp only [if_true]; exact decide_eq_false he)
      obtain ⟨e1, e2, e3⟩ := str_nil he
      go_enter Tryz.func49, Tryz.ntmps49
      go_upto_region 1 with fail
      generalize w.alloc (.cells #[.int .i64 1, .int .i64 n, .string s] 38) = w1 at *
      go_wp2_with fail
      go_ret
      exact ⟨by rw [hok.out]; rfl, hB.out⟩
  have n1 : (k == 1) = false := by simpa using hk1
  by_cases hk2 : k = 2
  · subst hk2
    have hok : Hid (Vl.ok ⟨2, n, s⟩ = (decide (n = 0) && (decide (s.size ≤ 64) && okT s))) := hid rfl
    clear hk0 hk1 n0 n1
    go_enter Tryz.func49, Tryz.ntmps49
    go_upto_region 1 with fail
    generalize w.alloc (.cells #[.int .i64 2, .int .i64 n, .string s] 38) = w1 at *
    go_wp2_with fail
    go_loopw [3] (fun v wr => ∃ k : Nat, v = .int .i64 k ∧ k ≤ s.size ∧ wr = w1 ∧ ∀ j (hj : j < s.size), j < k → okB (s.data[j]'hj) = true) (fun v _ => s.size - (intOf v).toNat)
    case atStart => exact ⟨0, rfl, Nat.zero_le _, rfl, fun j _ h => by omega⟩
    case round =>
      obtain ⟨k, rfl, hk, rfl, ha0⟩ := hrel
      have ha := hid ha0
      clear ha0
      by_cases hlt : k < s.size
      · have i1 : (k : Int) < (s.size : Int) := by omega
        have hw : IntKind.i64.wrap ((k : Int) + 1) = (k : Int) + 1 := IntWalk.i64_in _ (by have := hs9.out; omega)
        cases hc : okB (s.data[k]'hlt) with
        | true =>
          have hpl := hid (mayB hlt hc (rmay_any _ wr))
          have hc := hid hc
          go_wp2_with fail
          refine hpl.out.mono ?_
          rintro e w2 ⟨rfl, rfl⟩
          go_wp2_with fail
          go_roundw
          case rel => exact ⟨k + 1, by go_num, hlt, by first | rfl | trivial, fun j hj hjk => by
            by_cases e : j = k
            · subst e; exact hc.out
            · exact ha.out j hj (by omega)⟩
          case measure => simp [intOf]; omega
        | false =>
          have hpl := hid (mayB hlt hc (rmay_any _ wr))
          have hfin : Hid (Vl.ok ⟨2, n, s⟩ = false) := hid (by rw [hok.out, okT_at hlt hc]; simp)
          clear hc
          go_wp2_with fail
          refine hpl.out.mono ?_
          rintro e w2 ⟨rfl, rfl⟩
          go_wp2_with fail
          go_ret
          exact ⟨by rw [hfin.out]; rfl, hB.out⟩
      · obtain rfl : k = s.size := by omega
        have hfin : Hid (okT s = true) := hid (okT_all fun j hj => ha.out j hj hj)
        by_cases hn : n = 0
        · subst hn
          have hf : Hid (Vl.ok ⟨2, 0, s⟩ = decide (s.size ≤ 64)) := hid (by rw [hok.out, hfin.out]; simp)
          have hz : Hid (decide (s.size ≤ 64) = decide ((s.size : Int) ≤ 64)) := hid (decide_eq_decide.2 (by omega))
          go_wp2_with fail
          go_ret
          exact ⟨by rw [hf.out]; first | rfl | (rw [hz.out]; rfl) | simp, hB.out⟩
        · have n1 : (n == 0) = false := by simpa using hn
          have hf : Hid (Vl.ok ⟨2, n, s⟩ = false) := hid (by rw [hok.out, decide_eq_false hn]; rfl)
          clear hn
          go_wp2_with fail
          go_ret
          exact ⟨by rw [hf.out]; rfl, hB.out⟩
  have n2 : (k == 2) = false := by simpa using hk2
  have hf : Hid (Vl.ok ⟨k, n, s⟩ = false) := hid (by unfold Vl.ok; simp only; rw [if_neg hk0, if_neg hk1, if_neg hk2])
  clear hk0 hk1 hk2
  go_enter Tryz.func49, Tryz.ntmps49
  go_upto_region 1 with fail
  generalize w.alloc (.cells #[.int .i64 k, .int .i64 n, .string s] 38) = w1 at *
  go_wp2_with fail
  go_ret
  exact ⟨by rw [hf.out]; rfl, hB.out⟩

end Go.Proofs.YtphglnenafdkaaaGreatDoor

namespace Go.Proofs.YtphglnenafdkaaaGreatDoor
open Go.RowKit
set_option linter.unusedVariables false
set_option linter.unusedSimpArgs false

def wr0 : Wr := ⟨⟨#[]⟩, false, vl0⟩
def wrCells (ws : List Wr) : List Value := ws.flatMap fun x => [.string x.key, .bool x.gone, .int .i64 x.v.k, .int .i64 x.v.n, .string x.v.s]
theorem wrCells_at : ∀ {L : List Wr} {i : Nat} {x : Wr}, L[i]? = some x → (wrCells L)[i * 5]? = some (.string x.key) ∧ (wrCells L)[i * 5 + 1]? = some (.bool x.gone) ∧ (wrCells L)[i * 5 + 2]? = some (.int .i64 x.v.k) ∧ (wrCells L)[i * 5 + 3]? = some (.int .i64 x.v.n) ∧ (wrCells L)[i * 5 + 4]? = some (.string x.v.s) := by
  intro L
  induction L with
  | nil => intro i x h; simp at h
  | cons y l ih =>
    intro i x h
    have e : wrCells (y :: l) = .string y.key :: .bool y.gone :: .int .i64 y.v.k :: .int .i64 y.v.n :: .string y.v.s :: wrCells l := rfl
    rw [e]
    cases i with
    | zero => simp at h; subst h; exact ⟨rfl, rfl, rfl, rfl, rfl⟩
    | succ i =>
      simp only [List.getElem?_cons_succ] at h
      obtain ⟨h1, h2, h3, h4, h5⟩ := ih h
      rw [show (i + 1) * 5 = i * 5 + 1 + 1 + 1 + 1 + 1 by omega]
      simp only [List.getElem?_cons_succ]
      exact ⟨h1, h2, h3, h4, h5⟩
/-- a row of writes, cell by cell -/
theorem rd_wr {S : Nat → Prop} {w : World} {A : Option Addr} {L : List Wr} (h : Rd S w 5 A L.length (wrCells L)) {i : Nat} (hi : i < L.length) : ∃ b o, A = some ⟨b, o, none⟩ ∧ S b ∧ b < w.heap.size ∧ w.cell? ⟨b, o + i * 5, none⟩ = some (.string (L[i]).key) ∧ w.cell? ⟨b, o + i * 5 + 1, none⟩ = some (.bool (L[i]).gone) ∧ w.cell? ⟨b, o + i * 5 + 2, none⟩ = some (.int .i64 (L[i]).v.k) ∧ w.cell? ⟨b, o + i * 5 + 3, none⟩ = some (.int .i64 (L[i]).v.n) ∧ w.cell? ⟨b, o + i * 5 + 4, none⟩ = some (.string (L[i]).v.s) := by
  obtain ⟨b, o, rfl, hS, hl, hc⟩ := h.at_ hi
  obtain ⟨h1, h2, h3, h4, h5⟩ := wrCells_at (L := L) (i := i) (x := L[i]) (by simp [hi])
  exact ⟨b, o, rfl, hS, hl, hc _ _ h1, by rw [Nat.add_assoc]; exact hc _ _ h2, by rw [Nat.add_assoc]; exact hc _ _ h3, by rw [Nat.add_assoc]; exact hc _ _ h4, by rw [Nat.add_assoc]; exact hc _ _ h5⟩
section
variable {s : St} {ws : List Wr}
theorem wrE_at {k : Nat} {x y : Wr} (hx : ws.getD k wr0 = x) (hy : ws.getD (k - 1) wr0 = y) : wrE s ws k = if validK x.key = false then 30 else if 0 < k ∧ ltB y.key x.key = false then 40 else if hasK x.key s.L = false then 41 else if x.v.ok = false then 20 else if x.gone = true ∧ x.v ≠ vl0 then 2 else 0 := by
  unfold wr0 at hx hy
  unfold wrE
  simp only [hx, hy]
theorem scan_first {f : Nat → Int} {e : Int} (he : e ≠ 0) : ∀ {n i k : Nat}, (∀ j, i ≤ j → j < k → f j = 0) → f k = e → i ≤ k → k < i + n → (scan f n i).1 = e := by
  intro n
  induction n with
  | zero => intro i k _ _ h1 h2; omega
  | succ n ih =>
    intro i k h1 h2 h3 h4
    unfold scan
    by_cases e2 : i = k
    · subst e2
      rw [if_neg (by rw [h2]; exact he)]; exact h2
    · rw [if_pos (h1 i (Nat.le_refl _) (by omega))]
      exact ih (fun j hj => h1 j (by omega)) h2 (by omega) (by omega)
theorem applyE_first {e : Int} (he : e ≠ 0) {k : Nat} (h1 : ∀ j, j < k → wrE s ws j = 0) (h2 : wrE s ws k = e) (hk : k < ws.length) : applyE s ws = e := scan_first he (fun j _ h => h1 j h) h2 (Nat.zero_le _) (by omega)
theorem applyE_zero (h1 : ∀ j, j < ws.length → wrE s ws j = 0) : applyE s ws = 0 := (scan_zero _ _ _).2 fun j _ h => h1 j (by omega)
end
section
variable {S : Nat → Prop} {w w' : World} {g : Nat} {s : St}
set_option maxRecDepth 100000 in
set_option maxHeartbeats 4000000 in
theorem may_any {Sk : Nat → Prop} {A : Option Addr} {c : Nat} (ws : List Wr) (h : PAt S w g s) (hr : Rd Sk w 5 A ws.length (wrCells ws)) (hs : ∀ x ∈ ws, x.key.size ≤ 9223372036854775806 ∧ x.v.s.size ≤ 9223372036854775806) (hn : ws.length ≤ 1000000) :
    Calls Tryz.prog 39 #[.pointer (some ⟨g, 0, none⟩), .slice A ws.length c] w fun e w' => e = .returned (.int .i64 (applyE s ws)) ∧ Below w.heap.size w w' := by
  have HH := hid h
  have HR := hid hr
  have HS := hid hs
  have hgd := guardVal
  have hN : (ws.length : Int) ≤ 1000000 := by omega
  clear h hr hs hn
  go_enter Tryz.func39, Tryz.ntmps39
  go_wp2_with fail
  go_loopw [9] (fun v wr => ∃ (k : Nat), v = .int .i64 k ∧ k ≤ ws.length ∧ Below w.heap.size w wr ∧ ∀ j, j < k → wrE s ws j = 0) (fun v _ => ws.length - (intOf v).toNat)
  case atStart => exact ⟨0, rfl, Nat.zero_le _, Below.refl _ _, fun j h => by omega⟩
  case round =>
    obtain ⟨k, rfl, hk, hB0, ha0⟩ := hrel
    have hB := hid hB0
    have ha := hid ha0
    clear hB0 ha0
    by_cases hlt : k < ws.length
    · have i1 : (k : Int) < (ws.length : Int) := by omega
      obtain ⟨b, o, rfl, _, hbl, c0, c1, c2, c3, c4⟩ := rd_wr (HR.out.below_all hB.out) hlt
      obtain ⟨hks, hvs⟩ := HS.out _ (List.getElem_mem hlt)
      obtain ⟨x, hx⟩ : ∃ x, x = ws[k] := ⟨_, rfl⟩
      rw [← hx] at c0 c1 c2 c3 c4 hks hvs
      obtain ⟨y, hy⟩ : ∃ y, ws.getD (k - 1) wr0 = y := ⟨_, rfl⟩
      have hxe : Hid (ws.getD k wr0 = x) := hid (by rw [hx]; simp [List.getD_eq_getElem?_getD, hlt])
      have hye := hid hy
      have hE := hid (wrE_at (s := s) hxe.out hy)
      clear hx hy
      go_upto_region 4 with fail
      have kB0 := Blk.new wr 40 #[.string x.key, .bool x.gone, .int .i64 x.v.k, .int .i64 x.v.n, .string x.v.s]
      have hB2 : Below wr.heap.size wr (wr.alloc (.cells #[.string x.key, .bool x.gone, .int .i64 x.v.k, .int .i64 x.v.n, .string x.v.s] 40)) := (Below.refl _ _).alloc (Nat.le_refl _) _
      have HB2 := hid (hB.out.trans (hB2.mono hB.out.size))
      generalize wr.alloc (.cells #[.string x.key, .bool x.gone, .int .i64 x.v.k, .int .i64 x.v.n, .string x.v.s] 40) = w2 at *
      have KB := hid kB0
      have Bc := hid hbl
      generalize wr.heap.size = m at *
      clear kB0 hB2 c0 c1 c2 c3 c4 hbl hB
      have x0 : w2.cell? ⟨m, 0, none⟩ = some (.string x.key) := KB.out.cell 0
      have hvk := hid (validk_any x.key w2 hks)
      go_wp2_with fail
      refine hvk.out.mono ?_
      rintro e w3 ⟨rfl, rfl⟩
      clear hvk
      cases hv0 : validK x.key with
      | false =>
        have hfin : Hid (applyE s ws = 30) := hid (applyE_first (by decide) (fun j hj => ha.out j hj) (by rw [hE.out, if_pos hv0]) hlt)
        clear hv0 hE
        go_wp2_with fail
        go_ret
        exact ⟨by rw [hfin.out]; rfl, HB2.out⟩
      | true =>
      have hv := hid hv0
      clear hv0
      have x0 : w3.cell? ⟨m, 0, none⟩ = some (.string x.key) := KB.out.cell 0
      go_upto_region 6 with fail
      by_cases hbad : 0 < k ∧ ltB y.key x.key = false
      · obtain ⟨hk0, hl0⟩ := hbad
        have hfin : Hid (applyE s ws = 40) := hid (applyE_first (by decide) (fun j hj => ha.out j hj) (by rw [hE.out, if_neg (by simp [hv.out]), if_pos ⟨hk0, hl0⟩]) hlt)
        obtain ⟨j, hjk⟩ : ∃ j, j + 1 = k := ⟨k - 1, by omega⟩
        have hj : j < ws.length := by omega
        obtain ⟨b', o', e, _, _, d0, _⟩ := rd_wr (HR.out.below_all HB2.out) hj
        injection e with e; injection e with e1 e2; subst e1; subst e2
        have hyj : ws[j] = y := by
          have := hye.out
          rw [show k - 1 = j by omega] at this
          rw [← this]; simp [List.getD_eq_getElem?_getD, hj]
        rw [hyj] at d0
        have i0 : (j : Int) < (ws.length : Int) := by omega
        have t1 : decide ((0 : Int) < (k : Int)) = true := decide_eq_true (by omega)
        have t1n : decide (0 < k) = true := decide_eq_true hk0
        have x1 : IntKind.i64.wrap ((k : Int) - 1) = (j : Int) := by rw [IntKind.wrap_i64]; omega
        have hl : Op.bytesLess y.key.toList x.key.toList = false := hl0
        clear hl0 hk0 hjk hyj hE
        go_quiet (fail)
        go_wp2_with fail
        go_ret
        exact ⟨by rw [hfin.out]; rfl, below_drewN HB2.out _⟩
      have hnr := hid hbad
      clear hbad
      go_cut [19] (fun v wx => v = .bool false ∧ ∃ q, wx = w3.drewN q)
      case first =>
        by_cases hk0 : 0 < k
        · obtain ⟨j, hjk⟩ : ∃ j, j + 1 = k := ⟨k - 1, by omega⟩
          have hj : j < ws.length := by omega
          obtain ⟨b', o', e, _, _, d0, _⟩ := rd_wr (HR.out.below_all HB2.out) hj
          injection e with e; injection e with e1 e2; subst e1; subst e2
          have hyj : ws[j] = y := by
            have := hye.out
            rw [show k - 1 = j by omega] at this
            rw [← this]; simp [List.getD_eq_getElem?_getD, hj]
          rw [hyj] at d0
          have i0 : (j : Int) < (ws.length : Int) := by omega
          have t1 : decide ((0 : Int) < (k : Int)) = true := decide_eq_true (by omega)
          have t1n : decide (0 < k) = true := decide_eq_true hk0
          have x1 : IntKind.i64.wrap ((k : Int) - 1) = (j : Int) := by rw [IntKind.wrap_i64]; omega
          have hl : Op.bytesLess y.key.toList x.key.toList = true := by
            have := hnr.out
            cases h : ltB y.key x.key with
            | true => exact h
            | false => exact absurd ⟨hk0, h⟩ this
          clear hk0 hjk hyj hE hnr
          go_quiet (fail)
          go_wp2_with fail
          go_meet
          exact ⟨rfl, _, rfl⟩
        · have t1 : decide ((0 : Int) < (k : Int)) = false := decide_eq_false (by omega)
          have t1n : decide (0 < k) = false := decide_eq_false hk0
          clear hk0 hE hnr
          go_quiet (fail)
          go_wp2_with fail
          go_meet
          exact ⟨rfl, _, rfl⟩
      case rest =>
        obtain ⟨rfl, q, hq⟩ := hcut
        have KB3 : Hid (Blk wc m 40 #[.string x.key, .bool x.gone, .int .i64 x.v.k, .int .i64 x.v.n, .string x.v.s]) := hid (by rw [hq]; exact KB.out)
        have HB3 : Hid (Below w.heap.size w wc) := hid (by rw [hq]; exact below_drewN HB2.out q)
        clear hq x0 KB HB2
        have x0 : wc.cell? ⟨m, 0, none⟩ = some (.string x.key) := KB3.out.cell 0
        have hcl := hid (claimed_b x.key (HH.out.below HB3.out) hks)
        go_wp2_with fail
        refine hcl.out.mono ?_
        rintro e w4 ⟨rfl, hb40⟩
        have KB4 := hid (KB3.out.below_all hb40)
        have HB4 := hid (HB3.out.trans (hb40.mono HB3.out.size))
        clear hb40 hcl x0 KB3 HB3
        cases hc0 : hasK x.key s.L with
        | false =>
          have hfin : Hid (applyE s ws = 41) := hid (applyE_first (by decide) (fun j hj => ha.out j hj) (by rw [hE.out, if_neg (by simp [hv.out]), if_neg hnr.out, if_pos hc0]) hlt)
          clear hE hc0
          go_wp2_with fail
          go_ret
          exact ⟨by rw [hfin.out]; rfl, HB4.out⟩
        | true =>
        have hc := hid hc0
        clear hc0
        have x2 : w4.cell? ⟨m, 2, none⟩ = some (.int .i64 x.v.k) := KB4.out.cell 2
        have x3 : w4.cell? ⟨m, 3, none⟩ = some (.int .i64 x.v.n) := KB4.out.cell 3
        have x4 : w4.cell? ⟨m, 4, none⟩ = some (.string x.v.s) := KB4.out.cell 4
        have hva := hid (valid_any x.v w4 hvs)
        go_wp2_with fail
        refine hva.out.mono ?_
        rintro e w5 ⟨rfl, hb50⟩
        have KB5 := hid (KB4.out.below_all hb50)
        have HB5 := hid (HB4.out.trans (hb50.mono HB4.out.size))
        clear hb50 hva x2 x3 x4 KB4 HB4
        cases ho0 : x.v.ok with
        | false =>
          have hfin : Hid (applyE s ws = 20) := hid (applyE_first (by decide) (fun j hj => ha.out j hj) (by rw [hE.out, if_neg (by simp [hv.out]), if_neg hnr.out, if_neg (by simp [hc.out]), if_pos ho0]) hlt)
          clear hE ho0
          go_wp2_with fail
          go_ret
          exact ⟨by rw [hfin.out]; rfl, HB5.out⟩
        | true =>
        have ho := hid ho0
        clear ho0
        have x1 : w5.cell? ⟨m, 1, none⟩ = some (.bool x.gone) := KB5.out.cell 1
        have x2 : w5.cell? ⟨m, 2, none⟩ = some (.int .i64 x.v.k) := KB5.out.cell 2
        have x3 : w5.cell? ⟨m, 3, none⟩ = some (.int .i64 x.v.n) := KB5.out.cell 3
        have x4 : w5.cell? ⟨m, 4, none⟩ = some (.string x.v.s) := KB5.out.cell 4
        have hnz0 : ∀ w', (binOp .neq 38 (.agg #[.int .i64 x.v.k, .int .i64 x.v.n, .string x.v.s]) (.agg #[.int .i64 0, .int .i64 0, .string ⟨#[]⟩])).run Tryz.prog w' = .ok (.bool (!decide (x.v = vl0))) w' := fun w' => by
          rw [run_neq_struct, show (⟨#[]⟩ : ByteArray) = vl0.s from rfl, show (Value.int .i64 0) = .int .i64 vl0.k from rfl]
          have := run_eqVal x.v vl0 w'
          rw [show (.int .i64 vl0.k : Value) = .int .i64 vl0.n from rfl] at this ⊢
          rw [this]; rfl
        cases hg0 : x.gone with
        | false =>
          have hz : Hid (wrE s ws k = 0) := hid (by rw [hE.out, if_neg (by simp [hv.out]), if_neg hnr.out, if_neg (by simp [hc.out]), if_neg (by simp [ho.out]), if_neg (by simp [hg0])])
          rw [hg0] at x1
          clear hE hnz0 hg0
          go_wp2_with fail
          go_roundw
          case rel => exact ⟨k + 1, by go_num, hlt, HB5.out, fun j hj => by
            by_cases e : j = k
            · subst e; exact hz.out
            · exact ha.out j (by omega)⟩
          case measure => simp [intOf]; omega
        | true =>
          rw [hg0] at x1
          cases hz0 : decide (x.v = vl0) with
          | true =>
            have hz : Hid (wrE s ws k = 0) := hid (by rw [hE.out, if_neg (by simp [hv.out]), if_neg hnr.out, if_neg (by simp [hc.out]), if_neg (by simp [ho.out]), if_neg (by simp [of_decide_eq_true hz0])])
            have hnz := hnz0
            rw [hz0] at hnz
            clear hE hnz0 hg0 hz0
            go_wp2_with fail
            go_roundw
            case rel => exact ⟨k + 1, by go_num, hlt, HB5.out, fun j hj => by
              by_cases e : j = k
              · subst e; exact hz.out
              · exact ha.out j (by omega)⟩
            case measure => simp [intOf]; omega
          | false =>
            have hfin : Hid (applyE s ws = 2) := hid (applyE_first (by decide) (fun j hj => ha.out j hj) (by rw [hE.out, if_neg (by simp [hv.out]), if_neg hnr.out, if_neg (by simp [hc.out]), if_neg (by simp [ho.out]), if_pos ⟨hg0, of_decide_eq_false hz0⟩]) hlt)
            have hnz := hnz0
            rw [hz0] at hnz
            clear hE hnz0 hg0 hz0
            go_wp2_with fail
            go_ret
            exact ⟨by rw [hfin.out]; rfl, HB5.out⟩
    · obtain rfl : k = ws.length := by omega
      have hfin : Hid (applyE s ws = 0) := hid (applyE_zero fun j hj => ha.out j hj)
      go_wp2_with fail
      go_ret
      exact ⟨by rw [hfin.out]; rfl, hB.out⟩
end
end Go.Proofs.YtphglnenafdkaaaGreatDoor

namespace Go.Proofs.YtphglnenafdkaaaGreatDoor
open Go.RowKit
set_option linter.unusedVariables false
set_option linter.unusedSimpArgs false

section
variable {S : Nat → Prop} {w w' : World} {g cb cc vb : Nat} {mb : Nat → Nat} {s : St}
/-- a key gets a value: the values' map at last says what the new values are -/
theorem PIn.up {k : ByteArray} {v : Vl} (h : PIn S w g s cb cc mb vb) (hU : Upd (fun j => j = vb) w w') (hk : hasK k s.L = true) (hm : MapF strE w' vb fun y => if y = k then (if v.k = 0 then none else some (.agg #[.int .i64 v.k, .int .i64 v.n, .string v.s])) else Dv s.L y) (hok : St.Ok { s with L := upK k v s.L }) :
    PIn S w' g { s with L := upK k v s.L } cb cc mb vb ∧ Upd S w w' := by
  obtain ⟨cs, h1, h2⟩ := h.row
  have hne : ∀ {b t cs}, Blk w b t cs → ¬ b = vb := fun hb e => h.vals.ne_blk hb e.symm
  refine ⟨⟨h.blk.upd hU (hne h.blk), ⟨cs, h1.upd hU (hne h1), h2⟩, fun q hq => ?_, h.inj, ?_, h.vne, h.inS, fun j hj => Nat.lt_of_lt_of_le (h.lt j hj) hU.size, hok⟩, hU.mono fun j _ hj => hj ▸ h.inS.2.2.1⟩
  · show MapF strE w' (mb q) (Dc (upK k v s.L) s.parts q)
    refine ((h.cl q hq).upd hU (h.vne q hq)).congr fun y => ?_
    unfold Dc
    rw [hasK_up]
  · refine hm.congr fun y => ?_
    show _ = Dv (upK k v s.L) y
    unfold Dv
    rw [valK_up]
    by_cases e : y = k
    · subst e; simp [hk]
    · have : ¬ k = y := fun h => e h.symm
      simp [e, this]
theorem up_ok1 (h : s.Ok) {k : ByteArray} {v : Vl} (hk : validK k = true) (hv : v.ok = true) : St.Ok { s with L := upK k v s.L } := by
  refine ⟨h.parts, h.room, up_asc h.asc, fun x hx => ?_, fun x hx => ?_, fun p hp => ?_⟩
  · rcases up_mem hx with ⟨e, _⟩ | hx
    · rw [e]; exact hk
    · exact h.key x hx
  · rcases up_mem hx with ⟨_, e⟩ | hx
    · rw [e]; exact hv
    · exact h.val x hx
  · show cntP s.parts p (upK k v s.L) ≤ s.room
    rw [cnt_up]; exact h.cnt p hp
theorem upAll_snoc {L : List Kv} (l : List Wr) (x : Wr) : upAll L (l ++ [x]) = upK x.key x.v (upAll L l) := by unfold upAll; rw [List.foldl_append]; rfl
theorem upAll_has {j : ByteArray} {L : List Kv} {ws : List Wr} : hasK j (upAll L ws) = hasK j L := has_keys upAll_keys
theorem applyS_yes {ws : List Wr} (h : applyE s ws = 0) : applyS s ws = { s with L := upAll s.L ws } := by unfold applyS; rw [if_pos h]
theorem applyS_no {ws : List Wr} (h : applyE s ws ≠ 0) : applyS s ws = s := by unfold applyS; rw [if_neg h]
set_option maxRecDepth 100000 in
set_option maxHeartbeats 4000000 in
theorem apply_any {Sk : Nat → Prop} {A : Option Addr} {c : Nat} (ws : List Wr) (h : PAt S w g s) (hr : Rd Sk w 5 A ws.length (wrCells ws)) (hd : ∀ b, Sk b → ¬ S b) (hs : ∀ x ∈ ws, x.key.size ≤ 9223372036854775806 ∧ x.v.s.size ≤ 9223372036854775806) (hn : ws.length ≤ 1000000) :
    Calls Tryz.prog 12 #[.pointer (some ⟨g, 0, none⟩), .slice A ws.length c] w fun e w' => e = .returned (.int .i64 (applyE s ws)) ∧ PAt S w' g (applyS s ws) ∧ Upd S w w' := by
  have hmay := hid (may_any (c := c) ws h hr hs hn)
  obtain ⟨cb, cc, mb, vb, h⟩ := h
  have HH := hid h
  have HR := hid hr
  have hN : (ws.length : Int) ≤ 1000000 := by omega
  clear h hr hs hn
  go_enter Tryz.func12, Tryz.ntmps12
  go_wp2_with fail
  refine hmay.out.mono ?_
  rintro e w2 ⟨rfl, hb20⟩
  have HB2 := hid hb20
  clear hmay hb20
  by_cases he0 : applyE s ws = 0
  rotate_left
  · have tt : (applyE s ws != 0) = true := by simpa using he0
    have hfin : Hid (PAt S w2 g (applyS s ws)) := hid (by rw [applyS_no he0]; exact ⟨_, _, _, _, HH.out.below HB2.out⟩)
    clear he0
    go_wp2_with fail
    go_ret
    exact ⟨rfl, hfin.out, .of_below HB2.out fun k hk h => by omega⟩
  have he := hid he0
  have HP := hid (HH.out.below HB2.out)
  have HR2 := hid (HR.out.below_all HB2.out)
  have hWS := hid HB2.out.size
  have HU : Hid (Upd S w w2) := hid (.of_below HB2.out fun k hk h => by omega)
  rw [he0]
  clear he0 HH HR HB2
  go_wp2_with fail
  go_loopw [18] (fun v wr => ∃ (k : Nat), v = .int .i64 k ∧ k ≤ ws.length ∧ PIn S wr g { s with L := upAll s.L (ws.take k) } cb cc mb vb ∧ Rd Sk wr 5 A ws.length (wrCells ws) ∧ Upd S w wr) (fun v _ => ws.length - (intOf v).toNat)
  case atStart => exact ⟨0, rfl, Nat.zero_le _, HP.out, HR2.out, HU.out⟩
  case round =>
    clear HP HR2 HU
    obtain ⟨k, rfl, hk, hp0, hr0, hu0⟩ := hrel
    have HP := hid hp0
    have HR := hid hr0
    have HU := hid hu0
    clear hp0 hr0 hu0
    by_cases hlt : k < ws.length
    · have i1 : (k : Int) < (ws.length : Int) := by omega
      obtain ⟨b, o, rfl, hSkb, hbl, c0, c1, c2, c3, c4⟩ := rd_wr HR.out hlt
      have hz := hid (apply_zero he.out _ (List.getElem_mem hlt))
      have htk := hid (take_snoc hlt)
      obtain ⟨x, hx⟩ : ∃ x, x = ws[k] := ⟨_, rfl⟩
      rw [← hx] at c0 c1 c2 c3 c4 hz htk
      clear hx
      go_upto_region 9 with fail
      have kB0 := Blk.new wr 40 #[.string x.key, .bool x.gone, .int .i64 x.v.k, .int .i64 x.v.n, .string x.v.s]
      have hB2 : Below wr.heap.size wr (wr.alloc (.cells #[.string x.key, .bool x.gone, .int .i64 x.v.k, .int .i64 x.v.n, .string x.v.s] 40)) := (Below.refl _ _).alloc (Nat.le_refl _) _
      have HP2 := hid (HP.out.below hB2)
      have HR2 := hid (HR.out.below_all hB2)
      have HU2 := hid (HU.out.trans (Upd.of_below (M := S) hB2 fun k hk h => by omega) fun _ _ h => h)
      have hvl := hid (HP.out.vals.lt)
      generalize wr.alloc (.cells #[.string x.key, .bool x.gone, .int .i64 x.v.k, .int .i64 x.v.n, .string x.v.s] 40) = w3 at *
      have KB := hid kB0
      have hvm : Hid (vb ≠ wr.heap.size) := hid (by have := hvl.out; omega)
      generalize wr.heap.size = m at *
      clear kB0 hB2 c0 c1 c2 c3 c4 hbl HP HR HU hvl
      have x0 : w3.cell? ⟨m, 0, none⟩ = some (.string x.key) := KB.out.cell 0
      have x2 : w3.cell? ⟨m, 2, none⟩ = some (.int .i64 x.v.k) := KB.out.cell 2
      have x3 : w3.cell? ⟨m, 3, none⟩ = some (.int .i64 x.v.n) := KB.out.cell 3
      have x4 : w3.cell? ⟨m, 4, none⟩ = some (.string x.v.s) := KB.out.cell 4
      have g2 : w3.cell? ⟨g, 2, none⟩ = some (.map (some vb)) := HP2.out.cells.2.2
      obtain ⟨w4, hmu0, hm40, hg40, _⟩ := (HP2.out.drewN 1).vals.update Tryz.underlying74 x.key (.agg #[.int .i64 x.v.k, .int .i64 x.v.n, .string x.v.s])
      have hmu : (Instr.mapUpdate 74 (.map (some vb)) (.string x.key) (.agg #[.int .i64 x.v.k, .int .i64 x.v.n, .string x.v.s])).run Tryz.prog w3.drew = .ok () w4 := hmu0
      have hu40 : Upd (fun j => j = vb) w3 w4 := (Upd.refl (fun j => j = vb) w3).drew.trans (upd_grown hg40 fun j hj => by injection hj with hj; exact hj.symm) fun _ _ h => h
      have hm4 := hid hm40
      have hu4 := hid hu40
      clear hm40 hg40 hu40 hmu0
      go_still_tail 8, (by kernel_rfl)
      change wpList _ _ _ _ _ w3.drew
      go_upto_region 10 with fail
      have x2 : w4.cell? ⟨m, 2, none⟩ = some (.int .i64 x.v.k) := (KB.out.upd hu4.out (Ne.symm hvm.out)).cell 2
      by_cases hz0 : x.v.k = 0
      · have tz : (x.v.k == 0) = true := by simpa using hz0
        have x0 : w4.cell? ⟨m, 0, none⟩ = some (.string x.key) := (KB.out.upd hu4.out (Ne.symm hvm.out)).cell 0
        have g2 : w4.cell? ⟨g, 2, none⟩ = some (.map (some vb)) := (HP2.out.blk.upd hu4.out fun e => HP2.out.vals.ne_blk HP2.out.blk e.symm).cell 2
        have hm4d : MapF strE w4.drew vb _ := hm4.out
        obtain ⟨w5, hdl0, hm50, hg50, _⟩ := hm4d.delete (kt := 9) Tryz.underlying74 0 x.key
        have hdl : (Builtin.delete_ #[74, 9] 0 #[.map (some vb), .string x.key]).run Tryz.prog w4.drew = .ok (.tuple #[]) w5 := hdl0
        have hu5 : Upd (fun j => j = vb) w3 w5 := hu4.out.drew.trans (upd_grown hg50 fun j hj => by injection hj with hj; exact hj.symm) fun _ _ h => h
        have hfin0 := HP2.out.up (k := x.key) (v := x.v) hu5 (by show hasK x.key (upAll s.L (ws.take k)) = true; rw [upAll_has]; exact hz.out.2.1) (hm50.congr fun y => by
          by_cases e : y = x.key
          · simp only [e, if_true, hz0]
          · simp only [e, if_false]) (up_ok1 HP2.out.ok hz.out.1 hz.out.2.2)
        have hfin := hid hfin0
        have HR5 := hid (HR2.out.upd hfin0.2 hd)
        have HU5 := hid (HU2.out.trans hfin0.2 fun _ _ h => h)
        clear hfin0 hu5 hm50 hg50 hdl0 hm4d hz0 hmu
        go_wp2_with fail
        go_still_tail 6, (by kernel_rfl)
        change wpList _ _ _ _ _ w4.drew
        go_wp2_with fail
        go_roundw
        case rel => exact ⟨k + 1, by go_num, hlt, by rw [htk.out, upAll_snoc]; exact hfin.out.1, HR5.out, HU5.out⟩
        case measure => simp [intOf]; omega
      · have tz : (x.v.k == 0) = false := by simpa using hz0
        have hfin0 := HP2.out.up (k := x.key) (v := x.v) hu4.out (by show hasK x.key (upAll s.L (ws.take k)) = true; rw [upAll_has]; exact hz.out.2.1) (hm4.out.congr fun y => by
          by_cases e : y = x.key
          · simp only [e, if_true, hz0, if_false]
          · simp only [e, if_false]) (up_ok1 HP2.out.ok hz.out.1 hz.out.2.2)
        have hfin := hid hfin0
        have HR5 := hid (HR2.out.upd hfin0.2 hd)
        have HU5 := hid (HU2.out.trans hfin0.2 fun _ _ h => h)
        clear hfin0 hz0 hmu
        go_wp2_with fail
        go_roundw
        case rel => exact ⟨k + 1, by go_num, hlt, by rw [htk.out, upAll_snoc]; exact hfin.out.1, HR5.out, HU5.out⟩
        case measure => simp [intOf]; omega
    · obtain rfl : k = ws.length := by omega
      have hfin : Hid (PAt S wr g (applyS s ws)) := hid (by
        rw [applyS_yes he.out]
        have := HP.out
        rw [List.take_length] at this
        exact ⟨_, _, _, _, this⟩)
      clear HP
      go_wp2_with fail
      go_ret
      exact ⟨by rw [he.out]; rfl, hfin.out, HU.out⟩
end
end Go.Proofs.YtphglnenafdkaaaGreatDoor

namespace Go.Proofs.YtphglnenafdkaaaGreatDoor
open Go.RowKit
set_option linter.unusedVariables false
set_option linter.unusedSimpArgs false

/-- an act -/
structure SA where
  kind : Int
  ks : List ByteArray
  ws : List Wr
  A1 : Option Addr
  c1 : Nat
  A2 : Option Addr
  c2 : Nat
def scells (a : SA) : List Value := [.int .i64 a.kind, .slice a.A1 a.ks.length a.c1, .slice a.A2 a.ws.length a.c2]
def SA.ok (S : Nat → Prop) (w : World) (a : SA) : Prop := Rd S w 1 a.A1 a.ks.length (strs a.ks) ∧ Rd S w 5 a.A2 a.ws.length (wrCells a.ws)
structure SActs (S : Nat → Prop) (w : World) (A : Option Addr) (us : List SA) : Prop where
  row : Rd S w 3 A us.length (us.flatMap scells)
  ok : ∀ a ∈ us, a.ok S w
theorem SActs.keep {S : Nat → Prop} {w w' : World} {A : Option Addr} {us : List SA} (h : SActs S w A us) (hk : ∀ b, S b → b < w.heap.size → w'.heap[b]? = w.heap[b]?) : SActs S w' A us := ⟨h.row.keep hk, fun a ha => ⟨(h.ok a ha).1.keep hk, (h.ok a ha).2.keep hk⟩⟩
theorem SActs.below {S : Nat → Prop} {w w' : World} {A : Option Addr} {us : List SA} (h : SActs S w A us) (hb : Below w.heap.size w w') : SActs S w' A us := h.keep fun b _ hl => hb.block b hl
theorem aflat_at {α : Type} (f : α → List Value) (sz : Nat) (hf : ∀ a, (f a).length = sz) (l : List α) (k j : Nat) (h : k < l.length) (hj : j < sz) : (l.flatMap f)[k * sz + j]? = (f l[k])[j]? := by
  induction l generalizing k with
  | nil => simp at h
  | cons x l ih =>
    rw [List.flatMap_cons]
    cases k with
    | zero => rw [List.getElem?_append_left (by rw [hf]; omega)]; simp
    | succ k =>
      rw [List.getElem?_append_right (by rw [hf, Nat.succ_mul]; omega), hf, show (k + 1) * sz + j - sz = k * sz + j by rw [Nat.succ_mul]; omega, ih k (by simpa using h)]
      simp
theorem SActs.at_ {S : Nat → Prop} {w : World} {A : Option Addr} {us : List SA} {k : Nat} (h : SActs S w A us) (hk : k < us.length) : ∃ b o, A = some ⟨b, o, none⟩ ∧ S b ∧ b < w.heap.size ∧ us[k].ok S w ∧
    w.cell? ⟨b, o + k * 3, none⟩ = some (.int .i64 us[k].kind) ∧ w.cell? ⟨b, o + k * 3 + 1, none⟩ = some (.slice us[k].A1 us[k].ks.length us[k].c1) ∧ w.cell? ⟨b, o + k * 3 + 2, none⟩ = some (.slice us[k].A2 us[k].ws.length us[k].c2) := by
  obtain ⟨b, o, e, hS, hl, hc⟩ := h.row.at_ hk
  have g := fun j (hj : j < 3) u (hu : (scells us[k])[j]? = some u) => hc (k * 3 + j) u (by rw [aflat_at scells 3 (fun _ => rfl) us k j hk hj]; exact hu)
  simp only [← Nat.add_assoc] at g
  exact ⟨b, o, e, hS, hl, h.ok _ (List.getElem_mem hk), g 0 (by omega) _ rfl, g 1 (by omega) _ rfl, g 2 (by omega) _ rfl⟩
def partA (a : SA) : Nat := a.ks.length + a.ws.length
def partsA (us : List SA) : Nat := (us.map partA).sum
theorem partsA_take (us : List SA) (k : Nat) (h : k < us.length) : partsA (us.take (k + 1)) = partsA (us.take k) + partA us[k] := by
  unfold partsA
  rw [List.take_succ_eq_append_getElem h, List.map_append, List.sum_append, List.map_cons, List.map_nil, List.sum_cons, List.sum_nil]
  omega
theorem sum_take_le (l : List Nat) (k : Nat) : (l.take k).sum ≤ l.sum := by
  induction l generalizing k with
  | nil => simp
  | cons a l ih =>
    cases k with
    | zero => simp
    | succ k => have := ih k; simp; omega
theorem partsA_le (us : List SA) (k : Nat) : partsA (us.take k) ≤ partsA us := by
  unfold partsA
  have := sum_take_le (us.map partA) k
  rwa [← List.map_take] at this
theorem partsA_mem {us : List SA} {a : SA} (h : a ∈ us) : partA a ≤ partsA us := by
  unfold partsA
  induction us with
  | nil => cases h
  | cons x l ih =>
    rw [List.map_cons, List.sum_cons]
    rcases List.mem_cons.1 h with rfl | h
    · omega
    · have := ih h; omega
def longB (us : List SA) : Bool := decide (200 < us.length) || decide (6000 < partsA us)
set_option maxRecDepth 100000 in
set_option maxHeartbeats 1000000 in
theorem long_any {S : Nat → Prop} (p r : Int) {A : Option Addr} {c : Nat} {us : List SA} {w : World} (h : SActs S w A us) (hn : us.length ≤ 1048576) (hp : partsA us ≤ 1048576) : Calls Tryz.prog 7 #[.agg #[.int .i64 p, .int .i64 r, .slice A us.length c]] w fun e w' => e = .returned (.bool (longB us)) ∧ Below w.heap.size w w' := by
  have hB0 : Below w.heap.size w (w.alloc (.cells #[.int .i64 p, .int .i64 r, .slice A us.length c] 24)) := (Below.refl _ _).alloc (Nat.le_refl _) _
  have kb := hid (Blk.new w 24 #[.int .i64 p, .int .i64 r, .slice A us.length c])
  have hs := hid (h.below hB0)
  have hB := hid hB0
  have hN : (us.length : Int) ≤ 1048576 := by omega
  have hP := hid hp
  clear h hB0 hn hp
  go_enter Tryz.func7, Tryz.ntmps7
  go_upto_region 1 with fail
  generalize w.alloc (.cells #[.int .i64 p, .int .i64 r, .slice A us.length c] 24) = w1 at *
  generalize hm : w.heap.size = m at *
  go_wp2_with fail
  go_loopw [3, 4] (fun u v wr => ∃ k : Nat, u = .int .i64 (partsA (us.take k) : Nat) ∧ v = .int .i64 k ∧ k ≤ us.length ∧ Below w1.heap.size w1 wr) (fun u v _ => us.length - (intOf v).toNat)
  case atStart => exact ⟨0, rfl, rfl, Nat.zero_le _, Below.refl _ _⟩
  case round =>
    obtain ⟨k, rfl, rfl, hk, hb0⟩ := hrel
    have hb := hid hb0
    have kw := kb.out.below_all hb0
    have x2 : wr.cell? ⟨m, 2, none⟩ = some (.slice A us.length c) := kw.cell 2
    clear hb0 kw
    by_cases hlt : k < us.length
    · have i1 : (k : Int) < (us.length : Int) := by omega
      obtain ⟨b, o, rfl, _, _, _, _, y1, y2⟩ := (hs.out.below hb.out).at_ hlt
      have htk := partsA_take us k hlt
      have hle := partsA_le us (k + 1)
      have hP9 := hP.out
      obtain ⟨q, hq⟩ : ∃ q, q = partsA (us.take k) := ⟨_, rfl⟩
      have hpa : partA us[k] = us[k].ks.length + us[k].ws.length := rfl
      obtain ⟨n1, hn1⟩ : ∃ n, n = us[k].ks.length := ⟨_, rfl⟩
      obtain ⟨n2, hn2⟩ : ∃ n, n = us[k].ws.length := ⟨_, rfl⟩
      rw [← hn1] at y1 hpa
      rw [← hn2] at y2 hpa
      rw [← hq] at htk ⊢
      have z1 : IntKind.i64.wrap ((q : Int) + (n1 : Int)) = (q : Int) + (n1 : Int) := by rw [IntKind.wrap_i64]; omega
      have z2 : IntKind.i64.wrap ((q : Int) + (n1 : Int) + (n2 : Int)) = (q : Int) + (n1 : Int) + (n2 : Int) := by rw [IntKind.wrap_i64]; omega
      have hfin : Hid (((partsA (us.take (k + 1)) : Nat) : Int) = (q : Int) + (n1 : Int) + (n2 : Int)) := hid (by omega)
      clear htk hle hP9 hq hpa hn1 hn2
      go_wp2_with fail
      go_quiet (fail)
      go_wp2_with fail
      go_roundw
      case rel => exact ⟨k + 1, by rw [hfin.out], by go_num, hlt, below_drewN hb.out _⟩
      case measure => simp [intOf]; omega
    · obtain rfl : k = us.length := by omega
      rw [List.take_length]
      have hfb : Hid (Below w.heap.size w wr) := hid (by rw [hm]; exact hB.out.trans (hb.out.mono (by have := hB.out.size; omega)))
      obtain ⟨n, hn⟩ : ∃ n, n = us.length := ⟨_, rfl⟩
      obtain ⟨q, hq⟩ : ∃ q, q = partsA us := ⟨_, rfl⟩
      rw [← hn] at x2
      rw [← hn, ← hq]
      have hfin : Hid (longB us = (decide (200 < n) || decide (6000 < q))) := hid (by rw [hn, hq]; rfl)
      have hq9 : Hid (q ≤ 1048576) := hid (by rw [hq]; exact hP.out)
      clear hq hn hlt
      by_cases h1 : 200 < n
      · have t1 : decide ((200 : Int) < (n : Int)) = true := decide_eq_true (by omega)
        have t1n : decide (200 < n) = true := decide_eq_true h1
        have hf : Hid (longB us = true) := hid (by rw [hfin.out, t1n]; rfl)
        clear h1
        go_wp2_with fail
        go_ret
        exact ⟨by rw [hf.out]; rfl, hfb.out⟩
      · have t1 : decide ((200 : Int) < (n : Int)) = false := decide_eq_false (by omega)
        have t1n : decide (200 < n) = false := decide_eq_false h1
        have hf : Hid (longB us = decide ((6000 : Int) < (q : Int))) := hid (by rw [hfin.out, t1n, Bool.false_or]; exact decide_eq_decide.2 (by omega))
        clear h1
        go_wp2_with fail
        go_ret
        exact ⟨by rw [hf.out]; first | rfl | simp, hfb.out⟩
end Go.Proofs.YtphglnenafdkaaaGreatDoor

namespace Go.Proofs.YtphglnenafdkaaaGreatDoor
open Go.RowKit
set_option linter.unusedVariables false
set_option linter.unusedSimpArgs false

theorem info_map : (Tryz.prog.info? 78).map (fun i => (i.zero, i.size, i.bytes)) = some (some (.map none), 1, 8) := by kernel_rfl
theorem st_ok {p r : Nat} (hp : 1 ≤ p ∧ p ≤ 64) (hr : 1 ≤ r ∧ r ≤ 4096) : St.Ok ⟨p, r, []⟩ := ⟨hp, hr, by simp [Asc], by simp, by simp, fun q _ => by simp [cntP]⟩
def goodPR (p r : Int) : Bool := decide (1 ≤ p) && decide (p ≤ 64) && decide (1 ≤ r) && decide (r ≤ 4096)
theorem new_bad (p r : Int) (w : World) (h : goodPR p r = false) : Calls Tryz.prog 14 #[.int .i64 p, .int .i64 r] w fun e w' => e = .returned (.tuple #[.pointer none, .int .i64 2]) ∧ w' = w := by
  have hc : p < 1 ∨ (1 ≤ p ∧ 64 < p) ∨ (1 ≤ p ∧ p ≤ 64 ∧ r < 1) ∨ (1 ≤ p ∧ p ≤ 64 ∧ 1 ≤ r ∧ 4096 < r) := by
    unfold goodPR at h
    simp at h
    omega
  clear h
  rcases hc with h | ⟨h1, h⟩ | ⟨h1, h2, h⟩ | ⟨h1, h2, h3, h⟩
  · have t1 : decide (p < 1) = true := decide_eq_true h
    clear h
    go_enter Tryz.func14, Tryz.ntmps14
    go_wp2_with fail
    go_ret2
    exact ⟨rfl, rfl⟩
  · have t1 : decide (p < 1) = false := decide_eq_false (by omega)
    have t2 : decide (64 < p) = true := decide_eq_true h
    clear h h1
    go_enter Tryz.func14, Tryz.ntmps14
    go_wp2_with fail
    go_ret2
    exact ⟨rfl, rfl⟩
  · have t1 : decide (p < 1) = false := decide_eq_false (by omega)
    have t2 : decide (64 < p) = false := decide_eq_false (by omega)
    have t3 : decide (r < 1) = true := decide_eq_true h
    clear h h1 h2
    go_enter Tryz.func14, Tryz.ntmps14
    go_wp2_with fail
    go_ret2
    exact ⟨rfl, rfl⟩
  · have t1 : decide (p < 1) = false := decide_eq_false (by omega)
    have t2 : decide (64 < p) = false := decide_eq_false (by omega)
    have t3 : decide (r < 1) = false := decide_eq_false (by omega)
    have t4 : decide (4096 < r) = true := decide_eq_true h
    clear h h1 h2 h3
    go_enter Tryz.func14, Tryz.ntmps14
    go_wp2_with fail
    go_ret2
    exact ⟨rfl, rfl⟩
/-- under way: k maps are made -/
structure NewRel (w wr : World) (r k : Nat) (A : Option Addr) (c : Nat) (mb : Nat → Nat) : Prop where
  blk : Blk wr (w.heap.size + 1) 76 #[.int .i64 r, .slice A k c, .map (some w.heap.size)]
  own : wr.ownsRow (w.heap.size + 2) 78 1 (.slice A k c) k ((List.range k).map fun i => .map (some (mb i)))
  mp : ∀ i, i < k → MapF strE wr (mb i) (fun _ => none) ∧ w.heap.size + 2 ≤ mb i
  inj : ∀ i j, i < k → j < k → mb i = mb j → i = j
  vals : MapF strE wr w.heap.size fun _ => none
  bel : Below w.heap.size w wr
theorem NewRel.fin {w wr : World} {r k : Nat} {A : Option Addr} {c : Nat} {mb : Nat → Nat} (h : NewRel w wr r k A c mb) (hk : 1 ≤ k ∧ k ≤ 64) (hr : 1 ≤ r ∧ r ≤ 4096) : PAt (fun j => w.heap.size ≤ j ∧ j < wr.heap.size) wr (w.heap.size + 1) ⟨k, r, []⟩ := by
  rcases h.own.2 with ⟨_, h0⟩ | ⟨g, cap, cur, hv, hbase, hb, h1, h2, h3, h4⟩
  · omega
  · injection hv with hA _ _
    subst hA
    have hgl : g < wr.heap.size := (Array.getElem?_eq_some_iff.1 hb).1
    refine ⟨g, c, mb, w.heap.size, h.blk, ⟨cur, hb, fun p hp => ?_⟩, fun p hp => ?_, fun p q hp hq => h.inj p q hp hq, ?_, fun p hp => ?_, ⟨⟨by omega, h.blk.lt⟩, ⟨by omega, hgl⟩, ⟨Nat.le_refl _, h.vals.lt⟩, fun p hp => ⟨by have := (h.mp p hp).2; omega, (h.mp p hp).1.lt⟩⟩, fun j hj => hj.2, st_ok hk hr⟩
    · have hp' : p < k := hp
      have := congrArg (fun l => l[p]?) h4
      simp only [Nat.mul_one] at this
      rw [List.getElem?_take_of_lt hp', Array.getElem?_toList] at this
      rw [this, List.getElem?_map, List.getElem?_range hp']; rfl
    · refine (h.mp p hp).1.congr fun y => ?_
      simp [Dc, hasK]
    · refine h.vals.congr fun y => ?_
      simp [Dv, valK, vl0]
    · have := (h.mp p hp).2; omega
set_option maxRecDepth 100000 in
set_option maxHeartbeats 4000000 in
theorem new_ok (p r : Nat) (w : World) (hp : 1 ≤ p ∧ p ≤ 64) (hr : 1 ≤ r ∧ r ≤ 4096) : Calls Tryz.prog 14 #[.int .i64 p, .int .i64 r] w fun e w' => ∃ S g, e = .returned (.tuple #[.pointer (some ⟨g, 0, none⟩), .int .i64 0]) ∧ PAt S w' g ⟨p, r, []⟩ ∧ (∀ j, S j → w.heap.size ≤ j) ∧ Below w.heap.size w w' := by
  have t1 : decide ((p : Int) < 1) = false := decide_eq_false (by omega)
  have t2 : decide (64 < (p : Int)) = false := decide_eq_false (by omega)
  have t3 : decide ((r : Int) < 1) = false := decide_eq_false (by omega)
  have t4 : decide (4096 < (r : Int)) = false := decide_eq_false (by omega)
  have t2n : decide (64 < p) = false := decide_eq_false (by omega)
  have t4n : decide (4096 < r) = false := decide_eq_false (by omega)
  have hmm := @run_makeMap Tryz.prog
  obtain ⟨ip, hip, hp0, hp1, hp2⟩ := info_parts info_map
  have hpp := hid hp
  have hrr := hid hr
  have hP : (p : Int) ≤ 64 := by omega
  clear hp hr
  go_enter Tryz.func14, Tryz.ntmps14
  go_upto_region 4 with fail
  have hb0 : Below w.heap.size w ((w.alloc (.map #[] 0)).alloc (.cells #[.int .i64 r, .slice none 0 0, .map (some w.heap.size)] 76)) := below_two _ _
  have R0 : NewRel w ((w.alloc (.map #[] 0)).alloc (.cells #[.int .i64 r, .slice none 0 0, .map (some w.heap.size)] 76)) r 0 none 0 (fun _ => 0) :=
    ⟨Blk.new' _ _ _ (by simp), World.ownsRow_nil _ _ _ _, fun i hi => by omega, fun i j hi => by omega, (MapF.new w).keep (Below.heap_alloc _ _ _ (by simp)), hb0⟩
  have R0 := hid R0
  generalize (w.alloc (.map #[] 0)).alloc (.cells #[.int .i64 r, .slice none 0 0, .map (some w.heap.size)] 76) = W1 at *
  clear hb0
  go_wp2_with fail
  go_loopw [26] (fun v wr => ∃ (k : Nat) (A : Option Addr) (c : Nat) (mb : Nat → Nat), v = .int .i64 k ∧ k ≤ p ∧ NewRel w wr r k A c mb) (fun v _ => p - (intOf v).toNat)
  case atStart => exact ⟨0, none, 0, _, rfl, Nat.zero_le _, R0.out⟩
  case round =>
    clear R0
    obtain ⟨k, A, c, mb, rfl, hk, R⟩ := hrel
    have R := hid R
    have c1 : wr.cell? ⟨w.heap.size + 1, 1, none⟩ = some (.slice A k c) := R.out.blk.cell 1
    by_cases hlt : k < p
    · have i1 : (k : Int) < (p : Int) := by omega
      have hsz := R.out.bel.size
      have c1a : ((wr.alloc (.map #[] 0)).alloc (.cells #[.map (some wr.heap.size)] 78)).cell? ⟨w.heap.size + 1, 1, none⟩ = some (.slice A k c) := ((R.out.blk.alloc _).alloc _).cell 1
      have hgl := hid R.out.blk.lt
      have hownA := hid ((R.out.own.alloc (.map #[] 0)).alloc (.cells #[.map (some wr.heap.size)] 78))
      have hsz' := hid hsz
      have hPk := hid (show k ≤ 64 by omega)
      clear hsz c1a
      go_wp2_with (
        at_builtin
        refine wpList_append_rd _ rfl (.tmp 32) (.tmp 34) 73 rfl (w.heap.size + 2) 78 ip _ 1 8 Tryz.underlying73 hip hp0 hp1 hp2 rfl (by omega) (.slice A k c) k _ rfl hownA.out (fun b => b = wr.heap.size + 1) (some ⟨wr.heap.size + 1, 0, none⟩) 1 1 [.map (some wr.heap.size)] rfl (Rd.new _ 78 1 1 #[.map (some wr.heap.size)] _ (by simp) rfl) (by simp [Value.oneCell']) (by have := hPk.out; simp only [maxLen]; omega) (by have := hPk.out; omega) (by have := hgl.out; simp; omega) ?_
        intro v3 w3 hown3 hg3 hat3
        obtain ⟨A3, c3, rfl, hc3, _⟩ := own_form hown3
        have hgn : some (w.heap.size + 1) ≠ (Value.slice A k c).ownBlock := fun e => by have := (R.out.own.lt _ e.symm).1; omega
        have b3 : Blk w3 (w.heap.size + 1) 76 #[.int .i64 r, .slice A k c, .map (some w.heap.size)] := ((R.out.blk.alloc _).alloc _).grown hg3 hgn
        have x1 : w3.cell? ⟨w.heap.size + 1, 1, none⟩ = some (.slice A k c) := b3.cell 1
        have xf := b3.frozen
        have hb3 := hid b3
        have hgg := hid hg3
        have hoo := hid hown3
        clear b3 hg3 hown3 hgn)
      have hu3 : Upd (fun j => (Value.slice A k c).ownBlock = some j) wr w3 := (((Upd.refl _ wr).alloc _).alloc _).grown hgg.out fun q hq _ => hq
      have hu4 : Upd (fun j => (Value.slice A k c).ownBlock = some j ∨ j = w.heap.size + 1) wr (w3.setCell ⟨w.heap.size + 1, 1, none⟩ (.slice A3 (k + 1) c3)) := (hu3.mono fun j _ h => .inl h).setCell (p := ⟨w.heap.size + 1, 1, none⟩) (fun _ => .inr rfl) _
      have hnm : ∀ {b D}, MapF strE wr b D → ¬ ((Value.slice A k c).ownBlock = some b ∨ b = w.heap.size + 1) := fun {b D} hm h => by
        rcases h with h | h
        · rcases R.out.own.2 with ⟨hn, _⟩ | ⟨gr, cap, cur, hv, _, hbb, _⟩
          · rw [hn] at h; cases h
          · rw [hv] at h
            injection h with h
            exact hm.ne_blk hbb h.symm
        · exact hm.ne_blk R.out.blk h
      go_roundw
      case rel =>
        have hwl : w.heap.size + 1 < wr.heap.size := hgl.out
        refine ⟨k + 1, A3, c3, fun j => if j = k then wr.heap.size else mb j, by go_num, hlt, ⟨?_, ?_, fun i hi => ?_, fun i j hi hj e => ?_, (R.out.vals.upd hu4 (hnm R.out.vals)), ?_⟩⟩
        · exact hb3.out.set_ 1 _
        · have h1 : (w3.setCell ⟨w.heap.size + 1, 1, none⟩ (.slice A3 (k + 1) c3)).ownsRow (w.heap.size + 2) 78 1 (.slice A3 (k + 1) c3) (k + 1) ((List.range k).map (fun i => .map (some (mb i))) ++ [.map (some wr.heap.size)]) := own_updB hoo.out ((Upd.refl (fun j => j = w.heap.size + 1) w3).setCell (p := ⟨w.heap.size + 1, 1, none⟩) (fun _ => rfl) _) fun q hq _ e => by omega
          rw [List.range_succ, List.map_append]
          have e : (List.range k).map (fun i => Value.map (some (if i = k then wr.heap.size else mb i))) = (List.range k).map (fun i => Value.map (some (mb i))) := List.map_congr_left fun i hi => by rw [if_neg (by have := List.mem_range.1 hi; omega)]
          rw [e]
          simpa using h1
        · by_cases e : i = k
          · subst e
            rw [if_pos rfl]
            refine ⟨?_, by omega⟩
            have h0 : MapF strE (wr.alloc (.map #[] 0)) wr.heap.size fun _ => none := MapF.new wr
            have h1 : w3.heap[wr.heap.size]? = (wr.alloc (.map #[] 0)).heap[wr.heap.size]? := (hgg.out.block _ (by simp; omega) fun e => by
              have := (R.out.own.lt _ e.symm).2
              omega).trans (Below.heap_alloc _ _ _ (by simp))
            exact (h0.keep h1).keep (Below.heap_setCell _ _ _ _ (by simp only; omega))
          · rw [if_neg e]
            have := R.out.mp i (by omega)
            exact ⟨this.1.upd hu4 (hnm this.1), this.2⟩
        · have hml : ∀ i, i < k → mb i < wr.heap.size := fun i hi => (R.out.mp i hi).1.lt
          by_cases e1 : i = k
          · by_cases e2 : j = k
            · omega
            · rw [if_pos e1, if_neg e2] at e
              have := hml j (by omega); omega
          · by_cases e2 : j = k
            · rw [if_neg e1, if_pos e2] at e
              have := hml i (by omega); omega
            · rw [if_neg e1, if_neg e2] at e
              exact R.out.inj i j (by omega) (by omega) e
        · exact R.out.bel.trans ((hu4.below (B := w.heap.size) (by omega) fun j hj h => by
            rcases h with h | h
            · have := (R.out.own.lt _ h).1; omega
            · omega))
      case measure => simp [intOf]; omega
    · obtain rfl : k = p := by omega
      have hfin := hid (R.out.fin hpp.out hrr.out)
      have hB := hid R.out.bel
      clear R
      go_wp2_with fail
      go_ret2
      exact ⟨_, _, rfl, hfin.out, fun j hj => hj.1, hB.out⟩
end Go.Proofs.YtphglnenafdkaaaGreatDoor

namespace Go.Proofs.YtphglnenafdkaaaGreatDoor
open Go.Shelf
def laysSort_ren : Go.Shelf.Ren := ⟨fun | 6 => 75 | 15 => 92 | 14 => 94 | 28 => 124 | 29 => 125 | 20 => 126 | 21 => 127 | 22 => 128 | 23 => 129 | 24 => 130 | 25 => 131 | 26 => 132 | 27 => 133 | 46 => 156 | 47 => 151 | 48 => 152 | 49 => 157 | 50 => 158 | 57 => 169 | n => n, fun | 22 => 62 | 24 => 70 | 25 => 129 | 3 => 3 | 39 => 136 | 0 => 0 | 53 => 159 | 55 => 118 | 4 => 4 | 46 => 152 | 45 => 151 | 50 => 95 | 5 => 5 | 9 => 9 | 66 => 174 | 70 => 178 | 76 => 190 | 77 => 191 | n => n, fun | n => n⟩
theorem laysSort : Go.Proofs.SlLaysF0.n6 Tryz.prog laysSort_ren := {
  mixed := by kernel_rfl
  f6 := ⟨Tryz.f75.name, by decide, Tryz.func75.trans (congrArg some (by kernel_rfl))⟩
  f14 := ⟨Tryz.f94.name, by decide, Tryz.func94.trans (congrArg some (by kernel_rfl))⟩
  f15 := Tryz.func92.trans (congrArg some (by kernel_rfl))
  f20 := ⟨Tryz.f126.name, by decide, Tryz.func126.trans (congrArg some (by kernel_rfl))⟩
  f21 := ⟨Tryz.f127.name, by decide, Tryz.func127.trans (congrArg some (by kernel_rfl))⟩
  f22 := ⟨Tryz.f128.name, by decide, Tryz.func128.trans (congrArg some (by kernel_rfl))⟩
  f23 := ⟨Tryz.f129.name, by decide, Tryz.func129.trans (congrArg some (by kernel_rfl))⟩
  f24 := ⟨Tryz.f130.name, by decide, Tryz.func130.trans (congrArg some (by kernel_rfl))⟩
  f25 := ⟨Tryz.f131.name, by decide, Tryz.func131.trans (congrArg some (by kernel_rfl))⟩
  f26 := ⟨Tryz.f132.name, by decide, Tryz.func132.trans (congrArg some (by kernel_rfl))⟩
  f27 := ⟨Tryz.f133.name, by decide, Tryz.func133.trans (congrArg some (by kernel_rfl))⟩
  f28 := Tryz.func124.trans (congrArg some (by kernel_rfl))
  f29 := Tryz.func125.trans (congrArg some (by kernel_rfl))
  f46 := ⟨Tryz.f156.name, by decide, Tryz.func156.trans (congrArg some (by kernel_rfl))⟩
  f47 := Tryz.func151.trans (congrArg some (by kernel_rfl))
  f48 := Tryz.func152.trans (congrArg some (by kernel_rfl))
  f49 := ⟨Tryz.f157.name, by decide, Tryz.func157.trans (congrArg some (by kernel_rfl))⟩
  f50 := ⟨Tryz.f158.name, by decide, Tryz.func158.trans (congrArg some (by kernel_rfl))⟩
  f57 := ⟨Tryz.f169.name, by decide, Tryz.func169.trans (congrArg some (by kernel_rfl))⟩
  t0 := Tryz.underlying0
  a0 := Tryz.isAgg0
  z0 := Tryz.sizeOf0
  v0 := Tryz.zeroValue0
  t3 := Tryz.underlying3
  a3 := Tryz.isAgg3
  z3 := Tryz.sizeOf3
  v3 := Tryz.zeroValue3
  t4 := Tryz.underlying4
  a4 := Tryz.isAgg4
  z4 := Tryz.sizeOf4
  v4 := Tryz.zeroValue4
  t5 := Tryz.underlying5
  a5 := Tryz.isAgg5
  z5 := Tryz.sizeOf5
  v5 := Tryz.zeroValue5
  t9 := Tryz.underlying9
  a9 := Tryz.isAgg9
  z9 := Tryz.sizeOf9
  v9 := Tryz.zeroValue9
  t22 := Tryz.underlying62
  a22 := Tryz.isAgg62
  z22 := Tryz.sizeOf62
  v22 := Tryz.zeroValue62
  t25 := Tryz.underlying129
  a25 := Tryz.isAgg129
  z25 := Tryz.sizeOf129
  v25 := Tryz.zeroValue129
  t39 := Tryz.underlying136
  a39 := Tryz.isAgg136
  z39 := Tryz.sizeOf136
  v39 := Tryz.zeroValue136
  t45 := Tryz.underlying151
  a45 := Tryz.isAgg151
  z45 := Tryz.sizeOf151
  v45 := Tryz.zeroValue151
  t46 := Tryz.underlying152
  a46 := Tryz.isAgg152
  z46 := Tryz.sizeOf152
  v46 := Tryz.zeroValue152
  t50 := Tryz.underlying95
  a50 := Tryz.isAgg95
  z50 := Tryz.sizeOf95
  v50 := Tryz.zeroValue95
  t53 := Tryz.underlying159
  a53 := Tryz.isAgg159
  z53 := Tryz.sizeOf159
  v53 := Tryz.zeroValue159
  t55 := Tryz.underlying118
  a55 := Tryz.isAgg118
  z55 := Tryz.sizeOf118
  v55 := Tryz.zeroValue118
  t66 := Tryz.underlying174
  a66 := Tryz.isAgg174
  z66 := Tryz.sizeOf174
  v66 := Tryz.zeroValue174
  t70 := Tryz.underlying178
  a70 := Tryz.isAgg178
  z70 := Tryz.sizeOf178
  v70 := Tryz.zeroValue178
  t76 := Tryz.underlying190
  a76 := Tryz.isAgg190
  z76 := Tryz.sizeOf190
  v76 := Tryz.zeroValue190
  t77 := Tryz.underlying191
  a77 := Tryz.isAgg191
  z77 := Tryz.sizeOf191
  v77 := Tryz.zeroValue191 }
end Go.Proofs.YtphglnenafdkaaaGreatDoor


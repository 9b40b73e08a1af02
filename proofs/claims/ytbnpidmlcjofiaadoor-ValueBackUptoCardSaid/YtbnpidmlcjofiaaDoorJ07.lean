/- Texts of the proof, joined: KValid, VHelp, VNone, VShelf, VEnv, VPl2, VNum, VText. -/
import Derived.Test.YtbnpidmlcjofiaaDoorJ02
import Derived.Test.YtbnpidmlcjofiaaDoorJ04
import Derived.Test.YtbnpidmlcjofiaaDoorJ06
import Derived.Shelf.Small.Strs
import Derived.Shelf.Strconv.Itoa0
import Derived.Shelf.Strconv.Itoa1
import Derived.Shelf.LaysM
import Derived.Shelf.Strconv.Itoa2
import Derived.Shelf.Strconv.Itoa3
import Derived.Shelf.Strconv.Itoa4
import Derived.Shelf.Strconv.ParseIntEmpty
import Derived.Shelf.Strconv.Clone
import Derived.Shelf.Strconv.SyntaxError
import Derived.Shelf.LaysC
import Derived.Shelf.Strconv.ToError
import Derived.Shelf.Strconv.Lower
import Derived.Shelf.Strconv.ParseUint10
import Derived.Shelf.Strconv.ParseUint10Empty
import Derived.Shelf.Strconv.ParseUint10Any
import Derived.Shelf.Strconv.ParseInt10
import Derived.Shelf.Strconv.RangeError
import Derived.Shelf.Strconv.ToErrorRange
import Derived.Shelf.Strconv.ParseUintEmpty
import Derived.Shelf.Strconv.ParseUint10b64
import Derived.Shelf.Strconv.ParseUint10b32
import Derived.Shelf.Strconv.ParseUint10b16
import Derived.Shelf.Strconv.ParseUint10b8
import Derived.Shelf.Strconv.ParseUint10At
import Derived.Shelf.Strconv.ParseInt10At64
import Derived.Shelf.Strconv.ParseInt10At32
import Derived.Shelf.Strconv.ParseInt10At16
import Derived.Shelf.Strconv.ParseInt10At8
import Derived.Shelf.Strconv.ParseInt10All
import Derived.Shelf.Strconv.ParseIntPublic10
import Derived.Shelf.Strconv.ErrVarParseInt
import Derived.Test.YtbnpidmlcjofiaaDoorProg
import Derived.WalkSmall
import Derived.Lib.AtoiErrMem
namespace Go.Proofs.YtbnpidmlcjofiaaDoor
open Go.RowKit
set_option linter.unusedVariables false
set_option linter.unusedSimpArgs false

theorem plain_any (c : Nat) (w : World) : Calls Tryd.prog 72 #[.int .u8 c] w fun e w' => e = .returned (.bool (decide (32 ≤ c) && decide (c ≤ 126))) ∧ w' = w := by
  by_cases h : 32 ≤ c
  · have t1 : decide ((32 : Int) ≤ (c : Int)) = true := decide_eq_true (by omega)
    have hc : Hid ((decide (32 ≤ c) && decide (c ≤ 126)) = decide ((c : Int) ≤ 126)) := hid (by rw [decide_eq_true h, Bool.true_and]; exact decide_eq_decide.2 (by omega))
    clear h
    go_enter Tryd.func72, Tryd.ntmps72
    go_wp2_with fail
    go_ret
    exact ⟨by rw [hc.out]; first | rfl | simp, rfl⟩
  · have t1 : decide ((32 : Int) ≤ (c : Int)) = false := decide_eq_false (by omega)
    have hc : Hid ((decide (32 ≤ c) && decide (c ≤ 126)) = false) := hid (by rw [decide_eq_false h, Bool.false_and])
    clear h
    go_enter Tryd.func72, Tryd.ntmps72
    go_wp2_with fail
    go_ret
    exact ⟨by rw [hc.out]; rfl, rfl⟩
theorem rmay_any (c : Nat) (w : World) : Calls Tryd.prog 63 #[.int .u8 c] w fun e w' => e = .returned (.bool (decide (32 ≤ c) && decide (c ≤ 126))) ∧ w' = w := by
  by_cases h : 32 ≤ c
  · have t1 : decide ((32 : Int) ≤ (c : Int)) = true := decide_eq_true (by omega)
    have hc : Hid ((decide (32 ≤ c) && decide (c ≤ 126)) = decide ((c : Int) ≤ 126)) := hid (by rw [decide_eq_true h, Bool.true_and]; exact decide_eq_decide.2 (by omega))
    clear h
    go_enter Tryd.func63, Tryd.ntmps63
    go_wp2_with fail
    go_ret
    exact ⟨by rw [hc.out]; first | rfl | simp, rfl⟩
  · have t1 : decide ((32 : Int) ≤ (c : Int)) = false := decide_eq_false (by omega)
    have hc : Hid ((decide (32 ≤ c) && decide (c ≤ 126)) = false) := hid (by rw [decide_eq_false h, Bool.false_and])
    clear h
    go_enter Tryd.func63, Tryd.ntmps63
    go_wp2_with fail
    go_ret
    exact ⟨by rw [hc.out]; rfl, rfl⟩

theorem okT_at {s : ByteArray} {k : Nat} (h : k < s.size) (hb : okB (s.data[k]'h) = false) : okT s = false := by
  unfold okT
  rw [List.all_eq_false]
  exact ⟨s.data[k]'h, by rw [Array.mem_toList_iff]; exact Array.getElem_mem h, by rw [hb]; decide⟩
theorem okT_all {s : ByteArray} (h : ∀ k (hk : k < s.size), okB (s.data[k]'hk) = true) : okT s = true := by
  unfold okT
  rw [List.all_eq_true]
  intro c hc
  rw [Array.mem_toList_iff] at hc
  obtain ⟨k, hk, rfl⟩ := Array.mem_iff_getElem.1 hc
  exact h k hk
theorem mayB {F : FuncId} {s : ByteArray} {k : Nat} {w : World} {b : Bool} (hk : k < s.size) (hc : okB (s.data[k]'hk) = b) (h : Calls Tryd.prog F #[.int .u8 ((s[k]'hk).toNat : Nat)] w fun e w' => e = .returned (.bool (decide (32 ≤ (s[k]'hk).toNat) && decide ((s[k]'hk).toNat ≤ 126))) ∧ w' = w) :
    Calls Tryd.prog F #[.int .u8 ((s[k]'hk).toNat : Nat)] w fun e w' => e = .returned (.bool b) ∧ w' = w := by
  rwa [show (decide (32 ≤ (s[k]'hk).toNat) && decide ((s[k]'hk).toNat ≤ 126)) = b from hc] at h
set_option maxRecDepth 100000 in
theorem printable_any (s : ByteArray) (w : World) (hs : s.size ≤ 9223372036854775806) : Calls Tryd.prog 57 #[.string s] w fun e w' => e = .returned (.bool (okT s)) ∧ w' = w := by
  go_enter Tryd.func57, Tryd.ntmps57
  go_wp2_with fail
  go_loopw [6] (fun v wr => ∃ k : Nat, v = .int .i64 k ∧ k ≤ s.size ∧ wr = w ∧ ∀ j (hj : j < s.size), j < k → okB (s.data[j]'hj) = true) (fun v _ => s.size - (intOf v).toNat)
  case atStart => exact ⟨0, rfl, Nat.zero_le _, rfl, fun j _ h => by omega⟩
  case round =>
    obtain ⟨k, rfl, hk, rfl, ha0⟩ := hrel
    have ha := hid ha0
    clear ha0
    by_cases hlt : k < s.size
    · have i1 : (k : Int) < (s.size : Int) := by omega
      have hs9 : (s.size : Int) ≤ 9223372036854775806 := by omega
      cases hc : okB (s.data[k]'hlt) with
      | true =>
        have hpl := hid (mayB hlt hc (plain_any _ wr))
        have hc := hid hc
        go_wp2_with fail
        refine hpl.out.mono ?_
        rintro e w2 ⟨rfl, rfl⟩
        go_wp2_with fail
        go_roundw
        case rel => exact ⟨k + 1, by go_num, hlt, by first | rfl | trivial, fun j hj hjk => by
          by_cases e : j = k
          · subst e; exact hc.out
          · exact ha.out j hj (by omega)⟩
        case measure => simp [intOf]; omega
      | false =>
        have hpl := hid (mayB hlt hc (plain_any _ wr))
        have hfin : Hid (okT s = false) := hid (okT_at hlt hc)
        clear hc
        go_wp2_with fail
        refine hpl.out.mono ?_
        rintro e w2 ⟨rfl, rfl⟩
        go_wp2_with fail
        go_ret
        exact ⟨by rw [hfin.out]; rfl, by first | rfl | trivial⟩
    · obtain rfl : k = s.size := by omega
      have hfin : Hid (okT s = true) := hid (okT_all fun j hj => ha.out j hj hj)
      go_wp2_with fail
      go_ret
      exact ⟨by rw [hfin.out]; rfl, by first | rfl | trivial⟩
theorem run_eqVal (a b : Vl) (w : World) :
    (Op.equalIn 10000 24 (.agg #[.int .i64 a.k, .int .i64 a.n, .string a.s]) (.agg #[.int .i64 b.k, .int .i64 b.n, .string b.s])).run Tryd.prog w = .ok (decide (a = b)) w := by
  have ht : Tryd.prog.underlying 24 = some (.struct (Tryd.prog.fieldsOf 24)) := by kernel_rfl
  have hp : Tryd.prog.stoodInHeld 24 = false := by kernel_rfl
  rw [run_equalIn_agg w 9999 _ _ _ ht hp]
  have e : decide (a = b) = (a.k == b.k && (a.n == b.n && (a.s.toList == b.s.toList))) := by
    rw [bytes_dec, Bool.eq_iff_iff]
    simp only [decide_eq_true_eq, Bool.and_eq_true, beq_iff_eq]
    exact ⟨fun e => by subst e; simp, fun ⟨h1, h2, h3⟩ => by cases a; cases b; simp_all⟩
  rw [e]
  clear ht hp e
  simp only [Program.fieldsOf, Tryd.underlying24]
  go_simp
  by_cases h1 : a.k = b.k <;> by_cases h2 : a.n = b.n <;> by_cases h3 : a.s.toList = b.s.toList <;> simp [h1, h2, h3]
theorem guardVal : Tryd.prog.eqGuardType Tryd.prog.depth 24 = false := by kernel_rfl
theorem eql_zero (k n : Int) (s : ByteArray) (w : World) : (binOp .eql 24 (.agg #[.int .i64 k, .int .i64 n, .string s]) (.agg #[.int .i64 0, .int .i64 0, .string ⟨#[]⟩])).run Tryd.prog w = .ok (.bool (decide ((⟨k, n, s⟩ : Vl) = vl0))) w := by
  have h := run_eqVal ⟨k, n, s⟩ vl0 w
  have e : vl0 = ⟨0, 0, ⟨#[]⟩⟩ := rfl
  rw [e] at h ⊢
  simp only at h
  rw [run_eql_struct, h]
  simp only [Result.andThen]
theorem ok_none (n : Int) (s : ByteArray) : Vl.ok ⟨0, n, s⟩ = decide ((⟨0, n, s⟩ : Vl) = vl0) := by
  unfold Vl.ok vl0
  rw [if_pos rfl, Bool.eq_iff_iff]
  simp
theorem str_nil {s : ByteArray} (h : s ≠ ⟨#[]⟩) : (s.toList == (⟨#[]⟩ : ByteArray).toList) = false ∧ (s.toList == []) = false ∧ ¬ s.toList = [] := by
  have h1 : (s.toList == (⟨#[]⟩ : ByteArray).toList) = false := by rw [bytes_dec]; exact decide_eq_false h
  have h2 : (⟨#[]⟩ : ByteArray).toList = [] := by rw [ByteArray.toList_eq]
  rw [h2] at h1
  exact ⟨by rw [h2]; exact h1, h1, by simpa using h1⟩
set_option maxRecDepth 100000 in
theorem valid_any (v : Vl) (w : World) (hs : v.s.size ≤ 9223372036854775806) : Calls Tryd.prog 36 #[.agg #[.int .i64 v.k, .int .i64 v.n, .string v.s]] w fun e w' => e = .returned (.bool v.ok) ∧ Below w.heap.size w w' := by
  obtain ⟨k, n, s⟩ := v
  have hgd := guardVal
  simp only at hs
  have hB : Hid (Below w.heap.size w (w.alloc (.cells #[.int .i64 k, .int .i64 n, .string s] 24))) := hid ((Below.refl _ _).alloc (Nat.le_refl _) _)
  have kb := Blk.new w 24 #[.int .i64 k, .int .i64 n, .string s]
  have x0 := kb.cell 0
  have x1 := kb.cell 1
  have x2 := kb.cell 2
  simp only [List.getElem?_toArray, List.getElem?_cons_zero, List.getElem?_cons_succ] at x0 x1 x2
  have hs9 := hid hs
  clear kb hs
  by_cases hk0 : k = 0
  · subst hk0
    have hz := eql_zero 0 n s
    have hok := hid (ok_none n s)
    generalize decide ((⟨0, n, s⟩ : Vl) = vl0) = b at *
    go_enter Tryd.func36, Tryd.ntmps36
    go_upto_region 1 with fail
    generalize w.alloc (.cells #[.int .i64 0, .int .i64 n, .string s] 24) = w1 at *
    go_wp2_with fail
    go_ret
    exact ⟨by rw [hok.out]; rfl, hB.out⟩
  have n0 : (k == 0) = false := by simpa using hk0
  by_cases hk1 : k = 1
  · subst hk1
    by_cases he : s = ⟨#[]⟩
    · subst he
      have hok : Hid (Vl.ok ⟨1, n, ⟨#[]⟩⟩ = true) := hid rfl
      go_enter Tryd.func36, Tryd.ntmps36
      go_upto_region 1 with fail
      generalize w.alloc (.cells #[.int .i64 1, .int .i64 n, .string ⟨#[]⟩] 24) = w1 at *
      go_wp2_with fail
      go_ret
      exact ⟨by rw [hok.out]; rfl, hB.out⟩
    · have hok : Hid (Vl.ok ⟨1, n, s⟩ = false) := hid (by unfold Vl.ok; simp only; rw [if_neg (by decide)]; simp only [if_true]; exact decide_eq_false he)
      obtain ⟨e1, e2, e3⟩ := str_nil he
      go_enter Tryd.func36, Tryd.ntmps36
      go_upto_region 1 with fail
      generalize w.alloc (.cells #[.int .i64 1, .int .i64 n, .string s] 24) = w1 at *
      go_wp2_with fail
      go_ret
      exact ⟨by rw [hok.out]; rfl, hB.out⟩
  have n1 : (k == 1) = false := by simpa using hk1
  by_cases hk2 : k = 2
  · subst hk2
    have hok : Hid (Vl.ok ⟨2, n, s⟩ = (decide (n = 0) && (decide (s.size ≤ 64) && okT s))) := hid rfl
    clear hk0 hk1 n0 n1
    by_cases hn : n = 0
    · subst hn
      by_cases hz : s.size ≤ 64
      · have z1 : decide ((s.size : Int) ≤ 64) = true := decide_eq_true (by omega)
        have z2 : decide (s.size ≤ 64) = true := decide_eq_true hz
        have hpr := hid fun w => printable_any s w (by omega)
        have hf : Hid (Vl.ok ⟨2, 0, s⟩ = okT s) := hid (by rw [hok.out, z2]; simp)
        clear hz
        go_enter Tryd.func36, Tryd.ntmps36
        go_upto_region 1 with fail
        generalize w.alloc (.cells #[.int .i64 2, .int .i64 0, .string s] 24) = w1 at *
        go_wp2_with fail
        refine (hpr.out _).mono ?_
        rintro e w2 ⟨rfl, rfl⟩
        go_wp2_with fail
        go_ret
        exact ⟨by rw [hf.out]; rfl, hB.out⟩
      · have z1 : decide ((s.size : Int) ≤ 64) = false := decide_eq_false (by omega)
        have z2 : decide (s.size ≤ 64) = false := decide_eq_false hz
        have hf : Hid (Vl.ok ⟨2, 0, s⟩ = false) := hid (by rw [hok.out, z2]; simp)
        clear hz
        go_enter Tryd.func36, Tryd.ntmps36
        go_upto_region 1 with fail
        generalize w.alloc (.cells #[.int .i64 2, .int .i64 0, .string s] 24) = w1 at *
        go_wp2_with fail
        go_ret
        exact ⟨by rw [hf.out]; rfl, hB.out⟩
    · have n1 : (n == 0) = false := by simpa using hn
      have hf : Hid (Vl.ok ⟨2, n, s⟩ = false) := hid (by rw [hok.out, decide_eq_false hn]; rfl)
      clear hn
      go_enter Tryd.func36, Tryd.ntmps36
      go_upto_region 1 with fail
      generalize w.alloc (.cells #[.int .i64 2, .int .i64 n, .string s] 24) = w1 at *
      go_wp2_with fail
      go_ret
      exact ⟨by rw [hf.out]; rfl, hB.out⟩
  have n2 : (k == 2) = false := by simpa using hk2
  have hf : Hid (Vl.ok ⟨k, n, s⟩ = false) := hid (by unfold Vl.ok; simp only; rw [if_neg hk0, if_neg hk1, if_neg hk2])
  clear hk0 hk1 hk2
  go_enter Tryd.func36, Tryd.ntmps36
  go_upto_region 1 with fail
  generalize w.alloc (.cells #[.int .i64 k, .int .i64 n, .string s] 24) = w1 at *
  go_wp2_with fail
  go_ret
  exact ⟨by rw [hf.out]; rfl, hB.out⟩
set_option maxRecDepth 100000 in
theorem rvalid_any (v : Vl) (w : World) (hs : v.s.size ≤ 9223372036854775806) : Calls Tryd.prog 25 #[.agg #[.int .i64 v.k, .int .i64 v.n, .string v.s]] w fun e w' => e = .returned (.bool v.ok) ∧ Below w.heap.size w w' := by
  obtain ⟨k, n, s⟩ := v
  have hgd := guardVal
  simp only at hs
  have hB : Hid (Below w.heap.size w (w.alloc (.cells #[.int .i64 k, .int .i64 n, .string s] 24))) := hid ((Below.refl _ _).alloc (Nat.le_refl _) _)
  have kb := Blk.new w 24 #[.int .i64 k, .int .i64 n, .string s]
  have x0 := kb.cell 0
  have x1 := kb.cell 1
  have x2 := kb.cell 2
  simp only [List.getElem?_toArray, List.getElem?_cons_zero, List.getElem?_cons_succ] at x0 x1 x2
  have hs9 := hid hs
  clear kb hs
  by_cases hk0 : k = 0
  · subst hk0
    by_cases hn : n = 0
    · subst hn
      by_cases he : s = ⟨#[]⟩
      · subst he
        have hok : Hid (Vl.ok ⟨0, 0, ⟨#[]⟩⟩ = true) := hid rfl
        go_enter Tryd.func25, Tryd.ntmps25
        go_upto_region 1 with fail
        generalize w.alloc (.cells #[.int .i64 0, .int .i64 0, .string ⟨#[]⟩] 24) = w1 at *
        go_wp2_with fail
        go_ret
        exact ⟨by rw [hok.out]; rfl, hB.out⟩
      · have hok : Hid (Vl.ok ⟨0, 0, s⟩ = false) := hid (by rw [ok_none]; exact decide_eq_false fun h => he (by unfold vl0 at h; simpa using h))
        obtain ⟨e1, e2, e3⟩ := str_nil he
        go_enter Tryd.func25, Tryd.ntmps25
        go_upto_region 1 with fail
        generalize w.alloc (.cells #[.int .i64 0, .int .i64 0, .string s] 24) = w1 at *
        go_wp2_with fail
        go_ret
        exact ⟨by rw [hok.out]; rfl, hB.out⟩
    · have hok : Hid (Vl.ok ⟨0, n, s⟩ = false) := hid (by rw [ok_none]; exact decide_eq_false fun h => hn (by unfold vl0 at h; simp at h; exact h.1))
      have n1 : (n == 0) = false := by simpa using hn
      clear hn
      go_enter Tryd.func25, Tryd.ntmps25
      go_upto_region 1 with fail
      generalize w.alloc (.cells #[.int .i64 0, .int .i64 n, .string s] 24) = w1 at *
      go_wp2_with fail
      go_ret
      exact ⟨by rw [hok.out]; rfl, hB.out⟩
  have n0 : (k == 0) = false := by simpa using hk0
  by_cases hk1 : k = 1
  · subst hk1
    by_cases he : s = ⟨#[]⟩
    · subst he
      have hok : Hid (Vl.ok ⟨1, n, ⟨#[]⟩⟩ = true) := hid rfl
      go_enter Tryd.func25, Tryd.ntmps25
      go_upto_region 1 with fail
      generalize w.alloc (.cells #[.int .i64 1, .int .i64 n, .string ⟨#[]⟩] 24) = w1 at *
      go_wp2_with fail
      go_ret
      exact ⟨by rw [hok.out]; rfl, hB.out⟩
    · have hok : Hid (Vl.ok ⟨1, n, s⟩ = false) := hid (by unfold Vl.ok; simp only; rw [if_neg (by decide)]; simp only [if_true]; exact decide_eq_false he)
      obtain ⟨e1, e2, e3⟩ := str_nil he
      go_enter Tryd.func25, Tryd.ntmps25
      go_upto_region 1 with fail
      generalize w.alloc (.cells #[.int .i64 1, .int .i64 n, .string s] 24) = w1 at *
      go_wp2_with fail
      go_ret
      exact ⟨by rw [hok.out]; rfl, hB.out⟩
  have n1 : (k == 1) = false := by simpa using hk1
  by_cases hk2 : k = 2
  · subst hk2
    have hok : Hid (Vl.ok ⟨2, n, s⟩ = (decide (n = 0) && (decide (s.size ≤ 64) && okT s))) := hid rfl
    clear hk0 hk1 n0 n1
    go_enter Tryd.func25, Tryd.ntmps25
    go_upto_region 1 with fail
    generalize w.alloc (.cells #[.int .i64 2, .int .i64 n, .string s] 24) = w1 at *
    go_wp2_with fail
    go_loopw [3] (fun v wr => ∃ k : Nat, v = .int .i64 k ∧ k ≤ s.size ∧ wr = w1 ∧ ∀ j (hj : j < s.size), j < k → okB (s.data[j]'hj) = true) (fun v _ => s.size - (intOf v).toNat)
    case atStart => exact ⟨0, rfl, Nat.zero_le _, rfl, fun j _ h => by omega⟩
    case round =>
      obtain ⟨k, rfl, hk, rfl, ha0⟩ := hrel
      have ha := hid ha0
      clear ha0
      by_cases hlt : k < s.size
      · have i1 : (k : Int) < (s.size : Int) := by omega
        have hw : IntKind.i64.wrap ((k : Int) + 1) = (k : Int) + 1 := IntWalk.i64_in _ (by have := hs9.out; omega)
        cases hc : okB (s.data[k]'hlt) with
        | true =>
          have hpl := hid (mayB hlt hc (rmay_any _ wr))
          have hc := hid hc
          go_wp2_with fail
          refine hpl.out.mono ?_
          rintro e w2 ⟨rfl, rfl⟩
          go_wp2_with fail
          go_roundw
          case rel => exact ⟨k + 1, by go_num, hlt, by first | rfl | trivial, fun j hj hjk => by
            by_cases e : j = k
            · subst e; exact hc.out
            · exact ha.out j hj (by omega)⟩
          case measure => simp [intOf]; omega
        | false =>
          have hpl := hid (mayB hlt hc (rmay_any _ wr))
          have hfin : Hid (Vl.ok ⟨2, n, s⟩ = false) := hid (by rw [hok.out, okT_at hlt hc]; simp)
          clear hc
          go_wp2_with fail
          refine hpl.out.mono ?_
          rintro e w2 ⟨rfl, rfl⟩
          go_wp2_with fail
          go_ret
          exact ⟨by rw [hfin.out]; rfl, hB.out⟩
      · obtain rfl : k = s.size := by omega
        have hfin : Hid (okT s = true) := hid (okT_all fun j hj => ha.out j hj hj)
        by_cases hn : n = 0
        · subst hn
          have hf : Hid (Vl.ok ⟨2, 0, s⟩ = decide (s.size ≤ 64)) := hid (by rw [hok.out, hfin.out]; simp)
          have hz : Hid (decide (s.size ≤ 64) = decide ((s.size : Int) ≤ 64)) := hid (decide_eq_decide.2 (by omega))
          go_wp2_with fail
          go_ret
          exact ⟨by rw [hf.out]; first | rfl | (rw [hz.out]; rfl) | simp, hB.out⟩
        · have n1 : (n == 0) = false := by simpa using hn
          have hf : Hid (Vl.ok ⟨2, n, s⟩ = false) := hid (by rw [hok.out, decide_eq_false hn]; rfl)
          clear hn
          go_wp2_with fail
          go_ret
          exact ⟨by rw [hf.out]; rfl, hB.out⟩
  have n2 : (k == 2) = false := by simpa using hk2
  have hf : Hid (Vl.ok ⟨k, n, s⟩ = false) := hid (by unfold Vl.ok; simp only; rw [if_neg hk0, if_neg hk1, if_neg hk2])
  clear hk0 hk1 hk2
  go_enter Tryd.func25, Tryd.ntmps25
  go_upto_region 1 with fail
  generalize w.alloc (.cells #[.int .i64 k, .int .i64 n, .string s] 24) = w1 at *
  go_wp2_with fail
  go_ret
  exact ⟨by rw [hf.out]; rfl, hB.out⟩

end Go.Proofs.YtbnpidmlcjofiaaDoor

namespace Go.Proofs.YtbnpidmlcjofiaaDoor
open Go.RowKit
set_option linter.unusedVariables false
set_option linter.unusedSimpArgs false

/-- the result's cell at w.heap.size holds u -/
structure VZ (w W : World) (u : Vl) : Prop where
  zv : Blk W w.heap.size 24 #[.int .i64 u.k, .int .i64 u.n, .string u.s]
  bel : Below w.heap.size w W
section
variable {w W W' : World} {u : Vl}
theorem VZ.start (w : World) : VZ w (w.alloc (.cells #[.int .i64 0, .int .i64 0, .string ⟨#[]⟩] 24)) vl0 := ⟨Blk.new w _ _, (Below.refl _ _).alloc (Nat.le_refl _) _⟩
theorem VZ.below (h : VZ w W u) (hb : Below W.heap.size W W') : VZ w W' u := ⟨h.zv.below_all hb, h.bel.trans (hb.mono h.bel.size)⟩
theorem VZ.over {N : Nat} (h : VZ w W u) (hb : Below N W W') (hN : w.heap.size < N) : VZ w W' u := ⟨h.zv.below hb hN, h.bel.trans (hb.mono (by omega))⟩
theorem VZ.set (h : VZ w W u) (u' : Vl) : VZ w (((W.setCell ⟨w.heap.size, 0, none⟩ (.int .i64 u'.k)).setCell ⟨w.heap.size, 1, none⟩ (.int .i64 u'.n)).setCell ⟨w.heap.size, 2, none⟩ (.string u'.s)) u' :=
  ⟨by simpa using ((h.zv.set_ 0 (.int .i64 u'.k)).set_ 1 (.int .i64 u'.n)).set_ 2 (.string u'.s), ((h.bel.setCell (p := ⟨w.heap.size, 0, none⟩) (Nat.le_refl _) _).setCell (p := ⟨w.heap.size, 1, none⟩) (Nat.le_refl _) _).setCell (p := ⟨w.heap.size, 2, none⟩) (Nat.le_refl _) _⟩
theorem VZ.drewN (h : VZ w W u) (n : Nat) : VZ w (W.drewN n) u := ⟨h.zv.drewN n, ⟨h.bel.os, h.bel.tape, h.bel.output, h.bel.size, h.bel.block⟩⟩
theorem VZ.facts (h : VZ w W u) : (∀ q, W.frozen? ⟨w.heap.size, q, none⟩ = false) ∧ w.heap.size < W.heap.size ∧ W.cell? ⟨w.heap.size, 0, none⟩ = some (.int .i64 u.k) ∧ W.cell? ⟨w.heap.size, 1, none⟩ = some (.int .i64 u.n) ∧ W.cell? ⟨w.heap.size, 2, none⟩ = some (.string u.s) :=
  ⟨fun q => h.zv.frozen q, h.zv.lt, h.zv.cell 0, h.zv.cell 1, h.zv.cell 2⟩
end
/-- what Parse leaves -/
def PzOut (p : Pz) (w : World) (e : Ending) (w' : World) : Prop := e = .returned (.tuple #[.agg #[.int .i64 p.v.k, .int .i64 p.v.n, .string p.v.s], .int .i64 p.e, .int .i64 (p.at_ : Nat)]) ∧ Below w.heap.size w w'
end Go.Proofs.YtbnpidmlcjofiaaDoor

namespace Go.Proofs.YtbnpidmlcjofiaaDoor
open Go.RowKit
set_option linter.unusedVariables false
set_option linter.unusedSimpArgs false

theorem want_step {s : ByteArray} {k : Nat} (hk : k < s.size) {d : UInt8} {q : List UInt8} (i : Nat) : wantL (s.data.toList.drop k) (d :: q) i = if s.data[k]'hk = d then wantL (s.data.toList.drop (k + 1)) q (i + 1) else .bad 21 i := by
  have hk' : k < s.data.toList.length := by rw [Array.length_toList]; exact hk
  rw [List.drop_eq_getElem_cons hk', Array.getElem_toList]
  rfl
theorem drop_end {s : ByteArray} {k : Nat} (hk : s.size ≤ k) : s.data.toList.drop k = [] := List.drop_eq_nil_of_le (by rw [Array.length_toList]; exact hk)
theorem drop_some {s : ByteArray} {k : Nat} (hk : k < s.size) : s.data.toList.drop k = s.data[k]'hk :: s.data.toList.drop (k + 1) := by
  have hk' : k < s.data.toList.length := by rw [Array.length_toList]; exact hk
  rw [List.drop_eq_getElem_cons hk', Array.getElem_toList]

set_option maxRecDepth 100000 in
set_option maxHeartbeats 1000000 in
theorem parseNone_any (s : ByteArray) (w : World) (hs : s.size ≤ 140737488351232) : Calls Tryd.prog 48 #[.string s] w (PzOut (wantL s.data.toList noneT 0) w) := by
  have hz := hid (VZ.start w)
  have hs9 : (s.size : Int) ≤ 9223372036854775807 := by omega
  clear hs
  go_enter Tryd.func48, Tryd.ntmps48
  go_upto_region 1 with fail
  generalize w.alloc (.cells #[.int .i64 0, .int .i64 0, .string ⟨#[]⟩] 24) = W at *
  obtain ⟨fz, hlt, z0, z1, z2⟩ := hz.out.facts
  go_wp2_with fail
  go_loopw [5, 6] (fun _ v wr => ∃ k : Nat, v = .int .i64 k ∧ k ≤ 4 ∧ k ≤ s.size ∧ VZ w wr vl0 ∧ wantL (s.data.toList.drop k) (noneT.drop k) k = wantL s.data.toList noneT 0) (fun _ v _ => 4 - (intOf v).toNat)
  case atStart => exact ⟨0, rfl, by omega, by omega, hz.out, rfl⟩
  case round =>
    clear hz fz hlt z0 z1 z2
    obtain ⟨k, rfl, hk, hks, hz0, hw0⟩ := hrel
    have hw := hid hw0
    have hz := hid hz0
    clear hw0 hz0
    obtain ⟨fz, hlt, z0, z1, z2⟩ := hz.out.facts
    obtain rfl | rfl | rfl | rfl | rfl : k = 0 ∨ k = 1 ∨ k = 2 ∨ k = 3 ∨ k = 4 := by omega
    · clear hk
      by_cases hend : s.size = 0
      · have t1 : (((0 : Nat) : Int) == (s.size : Int)) = true := by rw [hend]; rfl
        have t2 : (s.size : Int) = 0 := by omega
        have hfin : Hid (wantL s.data.toList noneT 0 = .bad 3 0) := hid (by rw [← hw.out, drop_end (by omega)]; rfl)
        clear hend
        go_wp2_with fail
        have hT := hz.out.set ⟨0, 0, ⟨#[]⟩⟩
        dsimp only at hT
        obtain ⟨-, -, z0, z1, z2⟩ := hT.facts
        dsimp only at z0 z1 z2
        refine bodyPost_ret (v := .tuple #[.agg #[.int .i64 (⟨0, 0, ⟨#[]⟩⟩ : Vl).k, .int .i64 (⟨0, 0, ⟨#[]⟩⟩ : Vl).n, .string (⟨0, 0, ⟨#[]⟩⟩ : Vl).s], .int .i64 3, .int .i64 0]) (by simp [results, Tryd.results48, go_sem, z0, z1, z2]) rfl ⟨?_, hT.bel⟩
        rw [hfin.out]; rfl
      · have hlt2 : 0 < s.size := by omega
        have t2 : ¬ ((s.size : Int) = 0) := by omega
        have t4 : ¬ ((0 : Int) = s.size) := by omega
        have t3 : ((0 : Int)) < (s.size : Int) := by omega
        have hst := want_step hlt2 (d := 110) (q := noneT.drop 1) 0
        clear hend
        by_cases hc : s.data[0]'hlt2 = 110
        · have t5 : (s[0]'hlt2).toNat = 110 := by show (s.data[0]'hlt2).toNat = 110; rw [hc]; rfl
          have t6 : (((s[0]'hlt2).toNat : Int) != (((⟨#[110, 111, 110, 101]⟩ : ByteArray)[0]'(by decide)).toNat : Int)) = false := by rw [t5]; rfl
          have hw2 : Hid (wantL (s.data.toList.drop 1) (noneT.drop 1) 1 = wantL s.data.toList noneT 0) := hid (by rw [if_pos hc] at hst; rw [← hst]; exact hw.out)
          clear hst hc hw
          go_upto_region 6 with fail
          go_quiet (fail)
          go_wp2_with fail
          exact ⟨⟨1, rfl, by omega, by omega, hz.out.drewN _, hw2.out⟩, by simp [intOf]⟩
        · have t5 : ¬ ((s[0]'hlt2).toNat = 110) := fun e => hc (UInt8.toNat_inj.1 e)
          have t6 : (((s[0]'hlt2).toNat : Int) != (((⟨#[110, 111, 110, 101]⟩ : ByteArray)[0]'(by decide)).toNat : Int)) = true := by
            have e : (((⟨#[110, 111, 110, 101]⟩ : ByteArray)[0]'(by decide)).toNat : Int) = 110 := rfl
            rw [e]; simp; omega
          have hfin : Hid (wantL s.data.toList noneT 0 = .bad 21 0) := hid (by rw [if_neg hc] at hst; rw [← hst]; exact hw.out.symm)
          clear hst hc hw
          go_upto_region 6 with fail
          go_quiet (fail)
          have hz := hid (hz.out.drewN nq)
          clear fz hlt z0 z1 z2
          obtain ⟨fz, hlt, z0, z1, z2⟩ := hz.out.facts
          go_wp2_with fail
          have hT := hz.out.set ⟨0, 0, ⟨#[]⟩⟩
          dsimp only at hT
          obtain ⟨-, -, z0, z1, z2⟩ := hT.facts
          dsimp only at z0 z1 z2
          refine bodyPost_ret (v := .tuple #[.agg #[.int .i64 (⟨0, 0, ⟨#[]⟩⟩ : Vl).k, .int .i64 (⟨0, 0, ⟨#[]⟩⟩ : Vl).n, .string (⟨0, 0, ⟨#[]⟩⟩ : Vl).s], .int .i64 21, .int .i64 0]) (by simp [results, Tryd.results48, go_sem, z0, z1, z2]) rfl ⟨?_, hT.bel⟩
          rw [hfin.out]; rfl
    · clear hk
      by_cases hend : s.size = 1
      · have t1 : (((1 : Nat) : Int) == (s.size : Int)) = true := by rw [hend]; rfl
        have t2 : (s.size : Int) = 1 := by omega
        have hfin : Hid (wantL s.data.toList noneT 0 = .bad 3 1) := hid (by rw [← hw.out, drop_end (by omega)]; rfl)
        clear hend
        go_wp2_with fail
        have hT := hz.out.set ⟨0, 0, ⟨#[]⟩⟩
        dsimp only at hT
        obtain ⟨-, -, z0, z1, z2⟩ := hT.facts
        dsimp only at z0 z1 z2
        refine bodyPost_ret (v := .tuple #[.agg #[.int .i64 (⟨0, 0, ⟨#[]⟩⟩ : Vl).k, .int .i64 (⟨0, 0, ⟨#[]⟩⟩ : Vl).n, .string (⟨0, 0, ⟨#[]⟩⟩ : Vl).s], .int .i64 3, .int .i64 1]) (by simp [results, Tryd.results48, go_sem, z0, z1, z2]) rfl ⟨?_, hT.bel⟩
        rw [hfin.out]; rfl
      · have hlt2 : 1 < s.size := by omega
        have t2 : ¬ ((s.size : Int) = 1) := by omega
        have t4 : ¬ ((1 : Int) = s.size) := by omega
        have t3 : ((1 : Int)) < (s.size : Int) := by omega
        have hst := want_step hlt2 (d := 111) (q := noneT.drop 2) 1
        clear hend
        by_cases hc : s.data[1]'hlt2 = 111
        · have t5 : (s[1]'hlt2).toNat = 111 := by show (s.data[1]'hlt2).toNat = 111; rw [hc]; rfl
          have t6 : (((s[1]'hlt2).toNat : Int) != (((⟨#[110, 111, 110, 101]⟩ : ByteArray)[1]'(by decide)).toNat : Int)) = false := by rw [t5]; rfl
          have hw2 : Hid (wantL (s.data.toList.drop 2) (noneT.drop 2) 2 = wantL s.data.toList noneT 0) := hid (by rw [if_pos hc] at hst; rw [← hst]; exact hw.out)
          clear hst hc hw
          go_upto_region 6 with fail
          go_quiet (fail)
          go_wp2_with fail
          exact ⟨⟨2, rfl, by omega, by omega, hz.out.drewN _, hw2.out⟩, by simp [intOf]⟩
        · have t5 : ¬ ((s[1]'hlt2).toNat = 111) := fun e => hc (UInt8.toNat_inj.1 e)
          have t6 : (((s[1]'hlt2).toNat : Int) != (((⟨#[110, 111, 110, 101]⟩ : ByteArray)[1]'(by decide)).toNat : Int)) = true := by
            have e : (((⟨#[110, 111, 110, 101]⟩ : ByteArray)[1]'(by decide)).toNat : Int) = 111 := rfl
            rw [e]; simp; omega
          have hfin : Hid (wantL s.data.toList noneT 0 = .bad 21 1) := hid (by rw [if_neg hc] at hst; rw [← hst]; exact hw.out.symm)
          clear hst hc hw
          go_upto_region 6 with fail
          go_quiet (fail)
          have hz := hid (hz.out.drewN nq)
          clear fz hlt z0 z1 z2
          obtain ⟨fz, hlt, z0, z1, z2⟩ := hz.out.facts
          go_wp2_with fail
          have hT := hz.out.set ⟨0, 0, ⟨#[]⟩⟩
          dsimp only at hT
          obtain ⟨-, -, z0, z1, z2⟩ := hT.facts
          dsimp only at z0 z1 z2
          refine bodyPost_ret (v := .tuple #[.agg #[.int .i64 (⟨0, 0, ⟨#[]⟩⟩ : Vl).k, .int .i64 (⟨0, 0, ⟨#[]⟩⟩ : Vl).n, .string (⟨0, 0, ⟨#[]⟩⟩ : Vl).s], .int .i64 21, .int .i64 1]) (by simp [results, Tryd.results48, go_sem, z0, z1, z2]) rfl ⟨?_, hT.bel⟩
          rw [hfin.out]; rfl
    · clear hk
      by_cases hend : s.size = 2
      · have t1 : (((2 : Nat) : Int) == (s.size : Int)) = true := by rw [hend]; rfl
        have t2 : (s.size : Int) = 2 := by omega
        have hfin : Hid (wantL s.data.toList noneT 0 = .bad 3 2) := hid (by rw [← hw.out, drop_end (by omega)]; rfl)
        clear hend
        go_wp2_with fail
        have hT := hz.out.set ⟨0, 0, ⟨#[]⟩⟩
        dsimp only at hT
        obtain ⟨-, -, z0, z1, z2⟩ := hT.facts
        dsimp only at z0 z1 z2
        refine bodyPost_ret (v := .tuple #[.agg #[.int .i64 (⟨0, 0, ⟨#[]⟩⟩ : Vl).k, .int .i64 (⟨0, 0, ⟨#[]⟩⟩ : Vl).n, .string (⟨0, 0, ⟨#[]⟩⟩ : Vl).s], .int .i64 3, .int .i64 2]) (by simp [results, Tryd.results48, go_sem, z0, z1, z2]) rfl ⟨?_, hT.bel⟩
        rw [hfin.out]; rfl
      · have hlt2 : 2 < s.size := by omega
        have t2 : ¬ ((s.size : Int) = 2) := by omega
        have t4 : ¬ ((2 : Int) = s.size) := by omega
        have t3 : ((2 : Int)) < (s.size : Int) := by omega
        have hst := want_step hlt2 (d := 110) (q := noneT.drop 3) 2
        clear hend
        by_cases hc : s.data[2]'hlt2 = 110
        · have t5 : (s[2]'hlt2).toNat = 110 := by show (s.data[2]'hlt2).toNat = 110; rw [hc]; rfl
          have t6 : (((s[2]'hlt2).toNat : Int) != (((⟨#[110, 111, 110, 101]⟩ : ByteArray)[2]'(by decide)).toNat : Int)) = false := by rw [t5]; rfl
          have hw2 : Hid (wantL (s.data.toList.drop 3) (noneT.drop 3) 3 = wantL s.data.toList noneT 0) := hid (by rw [if_pos hc] at hst; rw [← hst]; exact hw.out)
          clear hst hc hw
          go_upto_region 6 with fail
          go_quiet (fail)
          go_wp2_with fail
          exact ⟨⟨3, rfl, by omega, by omega, hz.out.drewN _, hw2.out⟩, by simp [intOf]⟩
        · have t5 : ¬ ((s[2]'hlt2).toNat = 110) := fun e => hc (UInt8.toNat_inj.1 e)
          have t6 : (((s[2]'hlt2).toNat : Int) != (((⟨#[110, 111, 110, 101]⟩ : ByteArray)[2]'(by decide)).toNat : Int)) = true := by
            have e : (((⟨#[110, 111, 110, 101]⟩ : ByteArray)[2]'(by decide)).toNat : Int) = 110 := rfl
            rw [e]; simp; omega
          have hfin : Hid (wantL s.data.toList noneT 0 = .bad 21 2) := hid (by rw [if_neg hc] at hst; rw [← hst]; exact hw.out.symm)
          clear hst hc hw
          go_upto_region 6 with fail
          go_quiet (fail)
          have hz := hid (hz.out.drewN nq)
          clear fz hlt z0 z1 z2
          obtain ⟨fz, hlt, z0, z1, z2⟩ := hz.out.facts
          go_wp2_with fail
          have hT := hz.out.set ⟨0, 0, ⟨#[]⟩⟩
          dsimp only at hT
          obtain ⟨-, -, z0, z1, z2⟩ := hT.facts
          dsimp only at z0 z1 z2
          refine bodyPost_ret (v := .tuple #[.agg #[.int .i64 (⟨0, 0, ⟨#[]⟩⟩ : Vl).k, .int .i64 (⟨0, 0, ⟨#[]⟩⟩ : Vl).n, .string (⟨0, 0, ⟨#[]⟩⟩ : Vl).s], .int .i64 21, .int .i64 2]) (by simp [results, Tryd.results48, go_sem, z0, z1, z2]) rfl ⟨?_, hT.bel⟩
          rw [hfin.out]; rfl
    · clear hk
      by_cases hend : s.size = 3
      · have t1 : (((3 : Nat) : Int) == (s.size : Int)) = true := by rw [hend]; rfl
        have t2 : (s.size : Int) = 3 := by omega
        have hfin : Hid (wantL s.data.toList noneT 0 = .bad 3 3) := hid (by rw [← hw.out, drop_end (by omega)]; rfl)
        clear hend
        go_wp2_with fail
        have hT := hz.out.set ⟨0, 0, ⟨#[]⟩⟩
        dsimp only at hT
        obtain ⟨-, -, z0, z1, z2⟩ := hT.facts
        dsimp only at z0 z1 z2
        refine bodyPost_ret (v := .tuple #[.agg #[.int .i64 (⟨0, 0, ⟨#[]⟩⟩ : Vl).k, .int .i64 (⟨0, 0, ⟨#[]⟩⟩ : Vl).n, .string (⟨0, 0, ⟨#[]⟩⟩ : Vl).s], .int .i64 3, .int .i64 3]) (by simp [results, Tryd.results48, go_sem, z0, z1, z2]) rfl ⟨?_, hT.bel⟩
        rw [hfin.out]; rfl
      · have hlt2 : 3 < s.size := by omega
        have t2 : ¬ ((s.size : Int) = 3) := by omega
        have t4 : ¬ ((3 : Int) = s.size) := by omega
        have t3 : ((3 : Int)) < (s.size : Int) := by omega
        have hst := want_step hlt2 (d := 101) (q := noneT.drop 4) 3
        clear hend
        by_cases hc : s.data[3]'hlt2 = 101
        · have t5 : (s[3]'hlt2).toNat = 101 := by show (s.data[3]'hlt2).toNat = 101; rw [hc]; rfl
          have t6 : (((s[3]'hlt2).toNat : Int) != (((⟨#[110, 111, 110, 101]⟩ : ByteArray)[3]'(by decide)).toNat : Int)) = false := by rw [t5]; rfl
          have hw2 : Hid (wantL (s.data.toList.drop 4) (noneT.drop 4) 4 = wantL s.data.toList noneT 0) := hid (by rw [if_pos hc] at hst; rw [← hst]; exact hw.out)
          clear hst hc hw
          go_upto_region 6 with fail
          go_quiet (fail)
          go_wp2_with fail
          exact ⟨⟨4, rfl, by omega, by omega, hz.out.drewN _, hw2.out⟩, by simp [intOf]⟩
        · have t5 : ¬ ((s[3]'hlt2).toNat = 101) := fun e => hc (UInt8.toNat_inj.1 e)
          have t6 : (((s[3]'hlt2).toNat : Int) != (((⟨#[110, 111, 110, 101]⟩ : ByteArray)[3]'(by decide)).toNat : Int)) = true := by
            have e : (((⟨#[110, 111, 110, 101]⟩ : ByteArray)[3]'(by decide)).toNat : Int) = 101 := rfl
            rw [e]; simp; omega
          have hfin : Hid (wantL s.data.toList noneT 0 = .bad 21 3) := hid (by rw [if_neg hc] at hst; rw [← hst]; exact hw.out.symm)
          clear hst hc hw
          go_upto_region 6 with fail
          go_quiet (fail)
          have hz := hid (hz.out.drewN nq)
          clear fz hlt z0 z1 z2
          obtain ⟨fz, hlt, z0, z1, z2⟩ := hz.out.facts
          go_wp2_with fail
          have hT := hz.out.set ⟨0, 0, ⟨#[]⟩⟩
          dsimp only at hT
          obtain ⟨-, -, z0, z1, z2⟩ := hT.facts
          dsimp only at z0 z1 z2
          refine bodyPost_ret (v := .tuple #[.agg #[.int .i64 (⟨0, 0, ⟨#[]⟩⟩ : Vl).k, .int .i64 (⟨0, 0, ⟨#[]⟩⟩ : Vl).n, .string (⟨0, 0, ⟨#[]⟩⟩ : Vl).s], .int .i64 21, .int .i64 3]) (by simp [results, Tryd.results48, go_sem, z0, z1, z2]) rfl ⟨?_, hT.bel⟩
          rw [hfin.out]; rfl
    · clear hk
      by_cases hend : 4 < s.size
      · have t1 : (4 : Int) < (s.size : Int) := by omega
        have hfin : Hid (wantL s.data.toList noneT 0 = .bad 4 4) := hid (by rw [← hw.out, drop_some hend]; rfl)
        clear hend
        go_wp2_with fail
        have hT := hz.out.set ⟨0, 0, ⟨#[]⟩⟩
        dsimp only at hT
        obtain ⟨-, -, z0, z1, z2⟩ := hT.facts
        dsimp only at z0 z1 z2
        refine bodyPost_ret (v := .tuple #[.agg #[.int .i64 (⟨0, 0, ⟨#[]⟩⟩ : Vl).k, .int .i64 (⟨0, 0, ⟨#[]⟩⟩ : Vl).n, .string (⟨0, 0, ⟨#[]⟩⟩ : Vl).s], .int .i64 4, .int .i64 4]) (by simp [results, Tryd.results48, go_sem, z0, z1, z2]) rfl ⟨?_, hT.bel⟩
        rw [hfin.out]; rfl
      · have t1 : ¬ (4 : Int) < (s.size : Int) := by omega
        have hfin : Hid (wantL s.data.toList noneT 0 = .good vl0) := hid (by rw [← hw.out, drop_end (by omega)]; rfl)
        clear hend
        go_wp2_with fail
        have hT := hz.out.set ⟨0, 0, ⟨#[]⟩⟩
        dsimp only at hT
        obtain ⟨-, -, z0, z1, z2⟩ := hT.facts
        dsimp only at z0 z1 z2
        refine bodyPost_ret (v := .tuple #[.agg #[.int .i64 (⟨0, 0, ⟨#[]⟩⟩ : Vl).k, .int .i64 (⟨0, 0, ⟨#[]⟩⟩ : Vl).n, .string (⟨0, 0, ⟨#[]⟩⟩ : Vl).s], .int .i64 0, .int .i64 0]) (by simp [results, Tryd.results48, go_sem, z0, z1, z2]) rfl ⟨?_, hT.bel⟩
        rw [hfin.out]; rfl

set_option maxRecDepth 100000 in
set_option maxHeartbeats 1000000 in
theorem rnothing_any (s : ByteArray) (w : World) (hs : s.size ≤ 140737488351232) : Calls Tryd.prog 49 #[.string s] w (PzOut (wantL s.data.toList noneT 0) w) := by
  have hz := hid (VZ.start w)
  have hs9 : (s.size : Int) ≤ 9223372036854775807 := by omega
  clear hs
  go_enter Tryd.func49, Tryd.ntmps49
  go_upto_region 1 with fail
  generalize w.alloc (.cells #[.int .i64 0, .int .i64 0, .string ⟨#[]⟩] 24) = W at *
  obtain ⟨fz, hlt, z0, z1, z2⟩ := hz.out.facts
  go_wp2_with fail
  go_loopw [5] (fun v wr => ∃ k : Nat, v = .int .i64 k ∧ k ≤ 4 ∧ k ≤ s.size ∧ VZ w wr vl0 ∧ wantL (s.data.toList.drop k) (noneT.drop k) k = wantL s.data.toList noneT 0) (fun v _ => 4 - (intOf v).toNat)
  case atStart => exact ⟨0, rfl, by omega, by omega, hz.out, rfl⟩
  case round =>
    clear hz fz hlt z0 z1 z2
    obtain ⟨k, rfl, hk, hks, hz0, hw0⟩ := hrel
    have hw := hid hw0
    have hz := hid hz0
    clear hw0 hz0
    obtain ⟨fz, hlt, z0, z1, z2⟩ := hz.out.facts
    obtain rfl | rfl | rfl | rfl | rfl : k = 0 ∨ k = 1 ∨ k = 2 ∨ k = 3 ∨ k = 4 := by omega
    · clear hk
      by_cases hend : s.size = 0
      · have t1 : (((0 : Nat) : Int) == (s.size : Int)) = true := by rw [hend]; rfl
        have t2 : (s.size : Int) = 0 := by omega
        have hfin : Hid (wantL s.data.toList noneT 0 = .bad 3 0) := hid (by rw [← hw.out, drop_end (by omega)]; rfl)
        clear hend
        go_wp2_with fail
        have hT := hz.out.set ⟨0, 0, ⟨#[]⟩⟩
        dsimp only at hT
        obtain ⟨-, -, z0, z1, z2⟩ := hT.facts
        dsimp only at z0 z1 z2
        refine bodyPost_ret (v := .tuple #[.agg #[.int .i64 (⟨0, 0, ⟨#[]⟩⟩ : Vl).k, .int .i64 (⟨0, 0, ⟨#[]⟩⟩ : Vl).n, .string (⟨0, 0, ⟨#[]⟩⟩ : Vl).s], .int .i64 3, .int .i64 0]) (by simp [results, Tryd.results49, go_sem, z0, z1, z2]) rfl ⟨?_, hT.bel⟩
        rw [hfin.out]; rfl
      · have hlt2 : 0 < s.size := by omega
        have t2 : ¬ ((s.size : Int) = 0) := by omega
        have t4 : ¬ ((0 : Int) = s.size) := by omega
        have t3 : ((0 : Int)) < (s.size : Int) := by omega
        have hst := want_step hlt2 (d := 110) (q := noneT.drop 1) 0
        clear hend
        by_cases hc : s.data[0]'hlt2 = 110
        · have t5 : (s[0]'hlt2).toNat = 110 := by show (s.data[0]'hlt2).toNat = 110; rw [hc]; rfl
          have t6 : (((s[0]'hlt2).toNat : Int) != (((⟨#[110, 111, 110, 101]⟩ : ByteArray)[0]'(by decide)).toNat : Int)) = false := by rw [t5]; rfl
          have hw2 : Hid (wantL (s.data.toList.drop 1) (noneT.drop 1) 1 = wantL s.data.toList noneT 0) := hid (by rw [if_pos hc] at hst; rw [← hst]; exact hw.out)
          clear hst hc hw
          go_upto_region 6 with fail
          go_quiet (fail)
          go_wp2_with fail
          exact ⟨⟨1, rfl, by omega, by omega, hz.out.drewN _, hw2.out⟩, by simp [intOf]⟩
        · have t5 : ¬ ((s[0]'hlt2).toNat = 110) := fun e => hc (UInt8.toNat_inj.1 e)
          have t6 : (((s[0]'hlt2).toNat : Int) != (((⟨#[110, 111, 110, 101]⟩ : ByteArray)[0]'(by decide)).toNat : Int)) = true := by
            have e : (((⟨#[110, 111, 110, 101]⟩ : ByteArray)[0]'(by decide)).toNat : Int) = 110 := rfl
            rw [e]; simp; omega
          have hfin : Hid (wantL s.data.toList noneT 0 = .bad 21 0) := hid (by rw [if_neg hc] at hst; rw [← hst]; exact hw.out.symm)
          clear hst hc hw
          go_upto_region 6 with fail
          go_quiet (fail)
          have hz := hid (hz.out.drewN nq)
          clear fz hlt z0 z1 z2
          obtain ⟨fz, hlt, z0, z1, z2⟩ := hz.out.facts
          go_wp2_with fail
          have hT := hz.out.set ⟨0, 0, ⟨#[]⟩⟩
          dsimp only at hT
          obtain ⟨-, -, z0, z1, z2⟩ := hT.facts
          dsimp only at z0 z1 z2
          refine bodyPost_ret (v := .tuple #[.agg #[.int .i64 (⟨0, 0, ⟨#[]⟩⟩ : Vl).k, .int .i64 (⟨0, 0, ⟨#[]⟩⟩ : Vl).n, .string (⟨0, 0, ⟨#[]⟩⟩ : Vl).s], .int .i64 21, .int .i64 0]) (by simp [results, Tryd.results49, go_sem, z0, z1, z2]) rfl ⟨?_, hT.bel⟩
          rw [hfin.out]; rfl
    · clear hk
      by_cases hend : s.size = 1
      · have t1 : (((1 : Nat) : Int) == (s.size : Int)) = true := by rw [hend]; rfl
        have t2 : (s.size : Int) = 1 := by omega
        have hfin : Hid (wantL s.data.toList noneT 0 = .bad 3 1) := hid (by rw [← hw.out, drop_end (by omega)]; rfl)
        clear hend
        go_wp2_with fail
        have hT := hz.out.set ⟨0, 0, ⟨#[]⟩⟩
        dsimp only at hT
        obtain ⟨-, -, z0, z1, z2⟩ := hT.facts
        dsimp only at z0 z1 z2
        refine bodyPost_ret (v := .tuple #[.agg #[.int .i64 (⟨0, 0, ⟨#[]⟩⟩ : Vl).k, .int .i64 (⟨0, 0, ⟨#[]⟩⟩ : Vl).n, .string (⟨0, 0, ⟨#[]⟩⟩ : Vl).s], .int .i64 3, .int .i64 1]) (by simp [results, Tryd.results49, go_sem, z0, z1, z2]) rfl ⟨?_, hT.bel⟩
        rw [hfin.out]; rfl
      · have hlt2 : 1 < s.size := by omega
        have t2 : ¬ ((s.size : Int) = 1) := by omega
        have t4 : ¬ ((1 : Int) = s.size) := by omega
        have t3 : ((1 : Int)) < (s.size : Int) := by omega
        have hst := want_step hlt2 (d := 111) (q := noneT.drop 2) 1
        clear hend
        by_cases hc : s.data[1]'hlt2 = 111
        · have t5 : (s[1]'hlt2).toNat = 111 := by show (s.data[1]'hlt2).toNat = 111; rw [hc]; rfl
          have t6 : (((s[1]'hlt2).toNat : Int) != (((⟨#[110, 111, 110, 101]⟩ : ByteArray)[1]'(by decide)).toNat : Int)) = false := by rw [t5]; rfl
          have hw2 : Hid (wantL (s.data.toList.drop 2) (noneT.drop 2) 2 = wantL s.data.toList noneT 0) := hid (by rw [if_pos hc] at hst; rw [← hst]; exact hw.out)
          clear hst hc hw
          go_upto_region 6 with fail
          go_quiet (fail)
          go_wp2_with fail
          exact ⟨⟨2, rfl, by omega, by omega, hz.out.drewN _, hw2.out⟩, by simp [intOf]⟩
        · have t5 : ¬ ((s[1]'hlt2).toNat = 111) := fun e => hc (UInt8.toNat_inj.1 e)
          have t6 : (((s[1]'hlt2).toNat : Int) != (((⟨#[110, 111, 110, 101]⟩ : ByteArray)[1]'(by decide)).toNat : Int)) = true := by
            have e : (((⟨#[110, 111, 110, 101]⟩ : ByteArray)[1]'(by decide)).toNat : Int) = 111 := rfl
            rw [e]; simp; omega
          have hfin : Hid (wantL s.data.toList noneT 0 = .bad 21 1) := hid (by rw [if_neg hc] at hst; rw [← hst]; exact hw.out.symm)
          clear hst hc hw
          go_upto_region 6 with fail
          go_quiet (fail)
          have hz := hid (hz.out.drewN nq)
          clear fz hlt z0 z1 z2
          obtain ⟨fz, hlt, z0, z1, z2⟩ := hz.out.facts
          go_wp2_with fail
          have hT := hz.out.set ⟨0, 0, ⟨#[]⟩⟩
          dsimp only at hT
          obtain ⟨-, -, z0, z1, z2⟩ := hT.facts
          dsimp only at z0 z1 z2
          refine bodyPost_ret (v := .tuple #[.agg #[.int .i64 (⟨0, 0, ⟨#[]⟩⟩ : Vl).k, .int .i64 (⟨0, 0, ⟨#[]⟩⟩ : Vl).n, .string (⟨0, 0, ⟨#[]⟩⟩ : Vl).s], .int .i64 21, .int .i64 1]) (by simp [results, Tryd.results49, go_sem, z0, z1, z2]) rfl ⟨?_, hT.bel⟩
          rw [hfin.out]; rfl
    · clear hk
      by_cases hend : s.size = 2
      · have t1 : (((2 : Nat) : Int) == (s.size : Int)) = true := by rw [hend]; rfl
        have t2 : (s.size : Int) = 2 := by omega
        have hfin : Hid (wantL s.data.toList noneT 0 = .bad 3 2) := hid (by rw [← hw.out, drop_end (by omega)]; rfl)
        clear hend
        go_wp2_with fail
        have hT := hz.out.set ⟨0, 0, ⟨#[]⟩⟩
        dsimp only at hT
        obtain ⟨-, -, z0, z1, z2⟩ := hT.facts
        dsimp only at z0 z1 z2
        refine bodyPost_ret (v := .tuple #[.agg #[.int .i64 (⟨0, 0, ⟨#[]⟩⟩ : Vl).k, .int .i64 (⟨0, 0, ⟨#[]⟩⟩ : Vl).n, .string (⟨0, 0, ⟨#[]⟩⟩ : Vl).s], .int .i64 3, .int .i64 2]) (by simp [results, Tryd.results49, go_sem, z0, z1, z2]) rfl ⟨?_, hT.bel⟩
        rw [hfin.out]; rfl
      · have hlt2 : 2 < s.size := by omega
        have t2 : ¬ ((s.size : Int) = 2) := by omega
        have t4 : ¬ ((2 : Int) = s.size) := by omega
        have t3 : ((2 : Int)) < (s.size : Int) := by omega
        have hst := want_step hlt2 (d := 110) (q := noneT.drop 3) 2
        clear hend
        by_cases hc : s.data[2]'hlt2 = 110
        · have t5 : (s[2]'hlt2).toNat = 110 := by show (s.data[2]'hlt2).toNat = 110; rw [hc]; rfl
          have t6 : (((s[2]'hlt2).toNat : Int) != (((⟨#[110, 111, 110, 101]⟩ : ByteArray)[2]'(by decide)).toNat : Int)) = false := by rw [t5]; rfl
          have hw2 : Hid (wantL (s.data.toList.drop 3) (noneT.drop 3) 3 = wantL s.data.toList noneT 0) := hid (by rw [if_pos hc] at hst; rw [← hst]; exact hw.out)
          clear hst hc hw
          go_upto_region 6 with fail
          go_quiet (fail)
          go_wp2_with fail
          exact ⟨⟨3, rfl, by omega, by omega, hz.out.drewN _, hw2.out⟩, by simp [intOf]⟩
        · have t5 : ¬ ((s[2]'hlt2).toNat = 110) := fun e => hc (UInt8.toNat_inj.1 e)
          have t6 : (((s[2]'hlt2).toNat : Int) != (((⟨#[110, 111, 110, 101]⟩ : ByteArray)[2]'(by decide)).toNat : Int)) = true := by
            have e : (((⟨#[110, 111, 110, 101]⟩ : ByteArray)[2]'(by decide)).toNat : Int) = 110 := rfl
            rw [e]; simp; omega
          have hfin : Hid (wantL s.data.toList noneT 0 = .bad 21 2) := hid (by rw [if_neg hc] at hst; rw [← hst]; exact hw.out.symm)
          clear hst hc hw
          go_upto_region 6 with fail
          go_quiet (fail)
          have hz := hid (hz.out.drewN nq)
          clear fz hlt z0 z1 z2
          obtain ⟨fz, hlt, z0, z1, z2⟩ := hz.out.facts
          go_wp2_with fail
          have hT := hz.out.set ⟨0, 0, ⟨#[]⟩⟩
          dsimp only at hT
          obtain ⟨-, -, z0, z1, z2⟩ := hT.facts
          dsimp only at z0 z1 z2
          refine bodyPost_ret (v := .tuple #[.agg #[.int .i64 (⟨0, 0, ⟨#[]⟩⟩ : Vl).k, .int .i64 (⟨0, 0, ⟨#[]⟩⟩ : Vl).n, .string (⟨0, 0, ⟨#[]⟩⟩ : Vl).s], .int .i64 21, .int .i64 2]) (by simp [results, Tryd.results49, go_sem, z0, z1, z2]) rfl ⟨?_, hT.bel⟩
          rw [hfin.out]; rfl
    · clear hk
      by_cases hend : s.size = 3
      · have t1 : (((3 : Nat) : Int) == (s.size : Int)) = true := by rw [hend]; rfl
        have t2 : (s.size : Int) = 3 := by omega
        have hfin : Hid (wantL s.data.toList noneT 0 = .bad 3 3) := hid (by rw [← hw.out, drop_end (by omega)]; rfl)
        clear hend
        go_wp2_with fail
        have hT := hz.out.set ⟨0, 0, ⟨#[]⟩⟩
        dsimp only at hT
        obtain ⟨-, -, z0, z1, z2⟩ := hT.facts
        dsimp only at z0 z1 z2
        refine bodyPost_ret (v := .tuple #[.agg #[.int .i64 (⟨0, 0, ⟨#[]⟩⟩ : Vl).k, .int .i64 (⟨0, 0, ⟨#[]⟩⟩ : Vl).n, .string (⟨0, 0, ⟨#[]⟩⟩ : Vl).s], .int .i64 3, .int .i64 3]) (by simp [results, Tryd.results49, go_sem, z0, z1, z2]) rfl ⟨?_, hT.bel⟩
        rw [hfin.out]; rfl
      · have hlt2 : 3 < s.size := by omega
        have t2 : ¬ ((s.size : Int) = 3) := by omega
        have t4 : ¬ ((3 : Int) = s.size) := by omega
        have t3 : ((3 : Int)) < (s.size : Int) := by omega
        have hst := want_step hlt2 (d := 101) (q := noneT.drop 4) 3
        clear hend
        by_cases hc : s.data[3]'hlt2 = 101
        · have t5 : (s[3]'hlt2).toNat = 101 := by show (s.data[3]'hlt2).toNat = 101; rw [hc]; rfl
          have t6 : (((s[3]'hlt2).toNat : Int) != (((⟨#[110, 111, 110, 101]⟩ : ByteArray)[3]'(by decide)).toNat : Int)) = false := by rw [t5]; rfl
          have hw2 : Hid (wantL (s.data.toList.drop 4) (noneT.drop 4) 4 = wantL s.data.toList noneT 0) := hid (by rw [if_pos hc] at hst; rw [← hst]; exact hw.out)
          clear hst hc hw
          go_upto_region 6 with fail
          go_quiet (fail)
          go_wp2_with fail
          exact ⟨⟨4, rfl, by omega, by omega, hz.out.drewN _, hw2.out⟩, by simp [intOf]⟩
        · have t5 : ¬ ((s[3]'hlt2).toNat = 101) := fun e => hc (UInt8.toNat_inj.1 e)
          have t6 : (((s[3]'hlt2).toNat : Int) != (((⟨#[110, 111, 110, 101]⟩ : ByteArray)[3]'(by decide)).toNat : Int)) = true := by
            have e : (((⟨#[110, 111, 110, 101]⟩ : ByteArray)[3]'(by decide)).toNat : Int) = 101 := rfl
            rw [e]; simp; omega
          have hfin : Hid (wantL s.data.toList noneT 0 = .bad 21 3) := hid (by rw [if_neg hc] at hst; rw [← hst]; exact hw.out.symm)
          clear hst hc hw
          go_upto_region 6 with fail
          go_quiet (fail)
          have hz := hid (hz.out.drewN nq)
          clear fz hlt z0 z1 z2
          obtain ⟨fz, hlt, z0, z1, z2⟩ := hz.out.facts
          go_wp2_with fail
          have hT := hz.out.set ⟨0, 0, ⟨#[]⟩⟩
          dsimp only at hT
          obtain ⟨-, -, z0, z1, z2⟩ := hT.facts
          dsimp only at z0 z1 z2
          refine bodyPost_ret (v := .tuple #[.agg #[.int .i64 (⟨0, 0, ⟨#[]⟩⟩ : Vl).k, .int .i64 (⟨0, 0, ⟨#[]⟩⟩ : Vl).n, .string (⟨0, 0, ⟨#[]⟩⟩ : Vl).s], .int .i64 21, .int .i64 3]) (by simp [results, Tryd.results49, go_sem, z0, z1, z2]) rfl ⟨?_, hT.bel⟩
          rw [hfin.out]; rfl
    · clear hk
      by_cases hend : 4 < s.size
      · have t1 : (4 : Int) < (s.size : Int) := by omega
        have hfin : Hid (wantL s.data.toList noneT 0 = .bad 4 4) := hid (by rw [← hw.out, drop_some hend]; rfl)
        clear hend
        go_wp2_with fail
        have hT := hz.out.set ⟨0, 0, ⟨#[]⟩⟩
        dsimp only at hT
        obtain ⟨-, -, z0, z1, z2⟩ := hT.facts
        dsimp only at z0 z1 z2
        refine bodyPost_ret (v := .tuple #[.agg #[.int .i64 (⟨0, 0, ⟨#[]⟩⟩ : Vl).k, .int .i64 (⟨0, 0, ⟨#[]⟩⟩ : Vl).n, .string (⟨0, 0, ⟨#[]⟩⟩ : Vl).s], .int .i64 4, .int .i64 4]) (by simp [results, Tryd.results49, go_sem, z0, z1, z2]) rfl ⟨?_, hT.bel⟩
        rw [hfin.out]; rfl
      · have t1 : ¬ (4 : Int) < (s.size : Int) := by omega
        have hfin : Hid (wantL s.data.toList noneT 0 = .good vl0) := hid (by rw [← hw.out, drop_end (by omega)]; rfl)
        clear hend
        go_wp2_with fail
        have hT := hz.out.set ⟨0, 0, ⟨#[]⟩⟩
        dsimp only at hT
        obtain ⟨-, -, z0, z1, z2⟩ := hT.facts
        dsimp only at z0 z1 z2
        refine bodyPost_ret (v := .tuple #[.agg #[.int .i64 (⟨0, 0, ⟨#[]⟩⟩ : Vl).k, .int .i64 (⟨0, 0, ⟨#[]⟩⟩ : Vl).n, .string (⟨0, 0, ⟨#[]⟩⟩ : Vl).s], .int .i64 0, .int .i64 0]) (by simp [results, Tryd.results49, go_sem, z0, z1, z2]) rfl ⟨?_, hT.bel⟩
        rw [hfin.out]; rfl

end Go.Proofs.YtbnpidmlcjofiaaDoor

namespace Go.Proofs.YtbnpidmlcjofiaaDoor
open Go.Shelf
def lays106_ren : Go.Shelf.Ren := ⟨fun | 106 => 67 | 213 => 89 | 265 => 97 | n => n, fun | 9 => 9 | 3 => 3 | n => n, fun | n => n⟩
theorem lays106 : Go.Proofs.Lays.n106 Tryd.prog lays106_ren := {
  mixed := by kernel_rfl
  f106 := Tryd.func67.trans (congrArg some (by kernel_rfl))
  f213 := Tryd.func89.trans (congrArg some (by kernel_rfl))
  f265 := Tryd.func97.trans (congrArg some (by kernel_rfl))
  t3 := Tryd.underlying3
  a3 := Tryd.isAgg3
  z3 := Tryd.sizeOf3
  v3 := Tryd.zeroValue3
  t9 := Tryd.underlying9
  a9 := Tryd.isAgg9
  z9 := Tryd.sizeOf9
  v9 := Tryd.zeroValue9 }
def laysM173_ren : Go.Shelf.Ren := ⟨fun | 173 => 68 | 246 => 90 | 283 => 98 | 284 => 99 | 285 => 100 | 286 => 101 | 129 => 108 | 317 => 107 | 318 => 109 | 319 => 110 | 320 => 111 | 337 => 117 | 338 => 118 | n => n, fun | 2 => 2 | 3 => 3 | 9 => 9 | 4 => 4 | 171 => 114 | 0 => 0 | 53 => 91 | 37 => 22 | 5 => 5 | 173 => 117 | 212 => 127 | 51 => 128 | 20 => 20 | 213 => 129 | 46 => 93 | 232 => 141 | 233 => 142 | n => n, fun | 17 => 1 | 18 => 4 | 19 => 5 | n => n⟩
theorem laysM173 : Go.Proofs.LaysM.n173 Tryd.prog laysM173_ren := {
  mixed := by kernel_rfl
  f129 := Tryd.func108.trans (congrArg some (by kernel_rfl))
  f173 := Tryd.func68.trans (congrArg some (by kernel_rfl))
  f246 := Tryd.func90.trans (congrArg some (by kernel_rfl))
  f283 := Tryd.func98.trans (congrArg some (by kernel_rfl))
  f284 := Tryd.func99.trans (congrArg some (by kernel_rfl))
  f285 := Tryd.func100.trans (congrArg some (by kernel_rfl))
  f286 := Tryd.func101.trans (congrArg some (by kernel_rfl))
  f317 := Tryd.func107.trans (congrArg some (by kernel_rfl))
  f318 := Tryd.func109.trans (congrArg some (by kernel_rfl))
  f319 := Tryd.func110.trans (congrArg some (by kernel_rfl))
  f320 := Tryd.func111.trans (congrArg some (by kernel_rfl))
  f337 := Tryd.func117.trans (congrArg some (by kernel_rfl))
  f338 := Tryd.func118.trans (congrArg some (by kernel_rfl))
  t0 := Tryd.underlying0
  a0 := Tryd.isAgg0
  z0 := Tryd.sizeOf0
  v0 := Tryd.zeroValue0
  t2 := Tryd.underlying2
  a2 := Tryd.isAgg2
  z2 := Tryd.sizeOf2
  v2 := Tryd.zeroValue2
  t3 := Tryd.underlying3
  a3 := Tryd.isAgg3
  z3 := Tryd.sizeOf3
  v3 := Tryd.zeroValue3
  t4 := Tryd.underlying4
  a4 := Tryd.isAgg4
  z4 := Tryd.sizeOf4
  v4 := Tryd.zeroValue4
  t5 := Tryd.underlying5
  a5 := Tryd.isAgg5
  z5 := Tryd.sizeOf5
  v5 := Tryd.zeroValue5
  t9 := Tryd.underlying9
  a9 := Tryd.isAgg9
  z9 := Tryd.sizeOf9
  v9 := Tryd.zeroValue9
  t20 := Tryd.underlying20
  a20 := Tryd.isAgg20
  z20 := Tryd.sizeOf20
  v20 := Tryd.zeroValue20
  t37 := Tryd.underlying22
  a37 := Tryd.isAgg22
  z37 := Tryd.sizeOf22
  v37 := Tryd.zeroValue22
  t46 := Tryd.underlying93
  a46 := Tryd.isAgg93
  z46 := Tryd.sizeOf93
  v46 := Tryd.zeroValue93
  t51 := Tryd.underlying128
  a51 := Tryd.isAgg128
  z51 := Tryd.sizeOf128
  v51 := Tryd.zeroValue128
  t53 := Tryd.underlying91
  a53 := Tryd.isAgg91
  z53 := Tryd.sizeOf91
  v53 := Tryd.zeroValue91
  t171 := Tryd.underlying114
  a171 := Tryd.isAgg114
  z171 := Tryd.sizeOf114
  v171 := Tryd.zeroValue114
  t173 := Tryd.underlying117
  a173 := Tryd.isAgg117
  z173 := Tryd.sizeOf117
  v173 := Tryd.zeroValue117
  t212 := Tryd.underlying127
  a212 := Tryd.isAgg127
  z212 := Tryd.sizeOf127
  v212 := Tryd.zeroValue127
  t213 := Tryd.underlying129
  a213 := Tryd.isAgg129
  z213 := Tryd.sizeOf129
  t232 := Tryd.underlying141
  a232 := Tryd.isAgg141
  z232 := Tryd.sizeOf141
  v232 := Tryd.zeroValue141
  t233 := Tryd.underlying142
  a233 := Tryd.isAgg142
  z233 := Tryd.sizeOf142
  v233 := Tryd.zeroValue142
  g17 := by kernel_rfl
  g18 := by kernel_rfl
  g19 := by kernel_rfl
  i0 := by kernel_rfl
  i2 := by kernel_rfl
  i3 := by kernel_rfl
  i4 := by kernel_rfl
  i5 := by kernel_rfl
  i9 := by kernel_rfl
  i20 := by kernel_rfl
  i37 := by kernel_rfl
  i46 := by kernel_rfl
  i51 := by kernel_rfl
  i53 := by kernel_rfl
  i171 := by kernel_rfl
  i173 := by kernel_rfl
  i212 := by kernel_rfl
  i232 := by kernel_rfl
  i233 := by kernel_rfl
  m17 := by kernel_rfl
  m18 := by kernel_rfl
  m19 := by kernel_rfl }
def laysC174_ren : Go.Shelf.Ren := ⟨fun | 174 => 74 | 247 => 91 | 245 => 92 | 287 => 102 | 279 => 103 | 280 => 104 | 281 => 105 | 282 => 106 | 321 => 112 | 322 => 113 | 316 => 114 | 171 => 116 | 205 => 115 | 243 => 119 | 246 => 90 | 283 => 98 | 284 => 99 | 285 => 100 | 286 => 101 | 129 => 108 | 317 => 107 | 318 => 109 | 319 => 110 | 320 => 111 | 337 => 117 | 338 => 118 | n => n, fun | 9 => 9 | 3 => 3 | 2 => 2 | 75 => 95 | 85 => 96 | 4 => 4 | 167 => 119 | 5 => 5 | 53 => 91 | 175 => 120 | 46 => 93 | 168 => 122 | 37 => 22 | 0 => 0 | 210 => 134 | 21 => 21 | 127 => 137 | 145 => 140 | 143 => 138 | 171 => 114 | 173 => 117 | 212 => 127 | 51 => 128 | 20 => 20 | 213 => 129 | 232 => 141 | 233 => 142 | 80 => 105 | n => n, fun | 15 => 2 | 16 => 3 | 17 => 1 | 18 => 4 | 19 => 5 | n => n⟩
theorem laysC174 : Go.Proofs.LaysC.n174 Tryd.prog laysC174_ren := {
  mixed := by kernel_rfl
  f129 := Tryd.func108.trans (congrArg some (by kernel_rfl))
  f171 := Tryd.func116.trans (congrArg some (by kernel_rfl))
  f174 := Tryd.func74.trans (congrArg some (by kernel_rfl))
  f205 := Tryd.func115.trans (congrArg some (by kernel_rfl))
  f243 := Tryd.func119.trans (congrArg some (by kernel_rfl))
  f245 := Tryd.func92.trans (congrArg some (by kernel_rfl))
  f246 := Tryd.func90.trans (congrArg some (by kernel_rfl))
  f247 := Tryd.func91.trans (congrArg some (by kernel_rfl))
  f279 := Tryd.func103.trans (congrArg some (by kernel_rfl))
  f280 := Tryd.func104.trans (congrArg some (by kernel_rfl))
  f281 := Tryd.func105.trans (congrArg some (by kernel_rfl))
  f282 := Tryd.func106.trans (congrArg some (by kernel_rfl))
  f283 := Tryd.func98.trans (congrArg some (by kernel_rfl))
  f284 := Tryd.func99.trans (congrArg some (by kernel_rfl))
  f285 := Tryd.func100.trans (congrArg some (by kernel_rfl))
  f286 := Tryd.func101.trans (congrArg some (by kernel_rfl))
  f287 := Tryd.func102.trans (congrArg some (by kernel_rfl))
  f316 := Tryd.func114.trans (congrArg some (by kernel_rfl))
  f317 := Tryd.func107.trans (congrArg some (by kernel_rfl))
  f318 := Tryd.func109.trans (congrArg some (by kernel_rfl))
  f319 := Tryd.func110.trans (congrArg some (by kernel_rfl))
  f320 := Tryd.func111.trans (congrArg some (by kernel_rfl))
  f321 := Tryd.func112.trans (congrArg some (by kernel_rfl))
  f322 := Tryd.func113.trans (congrArg some (by kernel_rfl))
  f337 := Tryd.func117.trans (congrArg some (by kernel_rfl))
  f338 := Tryd.func118.trans (congrArg some (by kernel_rfl))
  t0 := Tryd.underlying0
  a0 := Tryd.isAgg0
  z0 := Tryd.sizeOf0
  v0 := Tryd.zeroValue0
  t2 := Tryd.underlying2
  a2 := Tryd.isAgg2
  z2 := Tryd.sizeOf2
  v2 := Tryd.zeroValue2
  t3 := Tryd.underlying3
  a3 := Tryd.isAgg3
  z3 := Tryd.sizeOf3
  v3 := Tryd.zeroValue3
  t4 := Tryd.underlying4
  a4 := Tryd.isAgg4
  z4 := Tryd.sizeOf4
  v4 := Tryd.zeroValue4
  t5 := Tryd.underlying5
  a5 := Tryd.isAgg5
  z5 := Tryd.sizeOf5
  v5 := Tryd.zeroValue5
  t9 := Tryd.underlying9
  a9 := Tryd.isAgg9
  z9 := Tryd.sizeOf9
  v9 := Tryd.zeroValue9
  t20 := Tryd.underlying20
  a20 := Tryd.isAgg20
  z20 := Tryd.sizeOf20
  v20 := Tryd.zeroValue20
  t21 := Tryd.underlying21
  a21 := Tryd.isAgg21
  z21 := Tryd.sizeOf21
  v21 := Tryd.zeroValue21
  t37 := Tryd.underlying22
  a37 := Tryd.isAgg22
  z37 := Tryd.sizeOf22
  v37 := Tryd.zeroValue22
  t46 := Tryd.underlying93
  a46 := Tryd.isAgg93
  z46 := Tryd.sizeOf93
  v46 := Tryd.zeroValue93
  t51 := Tryd.underlying128
  a51 := Tryd.isAgg128
  z51 := Tryd.sizeOf128
  v51 := Tryd.zeroValue128
  t53 := Tryd.underlying91
  a53 := Tryd.isAgg91
  z53 := Tryd.sizeOf91
  v53 := Tryd.zeroValue91
  t75 := Tryd.underlying95
  a75 := Tryd.isAgg95
  z75 := Tryd.sizeOf95
  v75 := Tryd.zeroValue95
  t85 := Tryd.underlying96
  a85 := Tryd.isAgg96
  z85 := Tryd.sizeOf96
  v85 := Tryd.zeroValue96
  t127 := Tryd.underlying137
  a127 := Tryd.isAgg137
  z127 := Tryd.sizeOf137
  v127 := Tryd.zeroValue137
  t143 := Tryd.underlying138
  a143 := Tryd.isAgg138
  z143 := Tryd.sizeOf138
  v143 := Tryd.zeroValue138
  t145 := Tryd.underlying140
  a145 := Tryd.isAgg140
  z145 := Tryd.sizeOf140
  v145 := Tryd.zeroValue140
  t167 := Tryd.underlying119
  a167 := Tryd.isAgg119
  z167 := Tryd.sizeOf119
  v167 := Tryd.zeroValue119
  t168 := Tryd.underlying122
  a168 := Tryd.isAgg122
  z168 := Tryd.sizeOf122
  v168 := Tryd.zeroValue122
  t171 := Tryd.underlying114
  a171 := Tryd.isAgg114
  z171 := Tryd.sizeOf114
  v171 := Tryd.zeroValue114
  t173 := Tryd.underlying117
  a173 := Tryd.isAgg117
  z173 := Tryd.sizeOf117
  v173 := Tryd.zeroValue117
  t175 := Tryd.underlying120
  a175 := Tryd.isAgg120
  z175 := Tryd.sizeOf120
  v175 := Tryd.zeroValue120
  t210 := Tryd.underlying134
  a210 := Tryd.isAgg134
  z210 := Tryd.sizeOf134
  v210 := Tryd.zeroValue134
  t212 := Tryd.underlying127
  a212 := Tryd.isAgg127
  z212 := Tryd.sizeOf127
  v212 := Tryd.zeroValue127
  t213 := Tryd.underlying129
  a213 := Tryd.isAgg129
  z213 := Tryd.sizeOf129
  t232 := Tryd.underlying141
  a232 := Tryd.isAgg141
  z232 := Tryd.sizeOf141
  v232 := Tryd.zeroValue141
  t233 := Tryd.underlying142
  a233 := Tryd.isAgg142
  z233 := Tryd.sizeOf142
  v233 := Tryd.zeroValue142
  g15 := by kernel_rfl
  g16 := by kernel_rfl
  g17 := by kernel_rfl
  g18 := by kernel_rfl
  g19 := by kernel_rfl
  t80 := Tryd.underlying105
  a80 := Tryd.isAgg105
  z80 := Tryd.sizeOf105
  v80 := Tryd.zeroValue105
  i0 := by kernel_rfl
  i2 := by kernel_rfl
  i3 := by kernel_rfl
  i4 := by kernel_rfl
  i5 := by kernel_rfl
  i9 := by kernel_rfl
  i20 := by kernel_rfl
  i21 := by kernel_rfl
  i37 := by kernel_rfl
  i46 := by kernel_rfl
  i51 := by kernel_rfl
  i53 := by kernel_rfl
  i75 := by kernel_rfl
  i80 := by kernel_rfl
  i85 := by kernel_rfl
  i127 := by kernel_rfl
  i143 := by kernel_rfl
  i145 := by kernel_rfl
  i167 := by kernel_rfl
  i168 := by kernel_rfl
  i171 := by kernel_rfl
  i173 := by kernel_rfl
  i175 := by kernel_rfl
  i210 := by kernel_rfl
  i212 := by kernel_rfl
  i232 := by kernel_rfl
  i233 := by kernel_rfl
  m15 := by kernel_rfl
  m16 := by kernel_rfl
  m17 := by kernel_rfl
  m18 := by kernel_rfl
  m19 := by kernel_rfl
  c0 := by kernel_rfl
  c2 := by kernel_rfl
  c3 := by kernel_rfl
  c4 := by kernel_rfl
  c5 := by kernel_rfl
  c9 := by kernel_rfl
  c20 := by kernel_rfl
  c21 := by kernel_rfl
  c37 := by kernel_rfl
  c46 := by kernel_rfl
  c51 := by kernel_rfl
  c53 := by kernel_rfl
  c75 := by kernel_rfl
  c80 := by kernel_rfl
  c85 := by kernel_rfl
  c127 := by kernel_rfl
  c143 := by kernel_rfl
  c145 := by kernel_rfl
  c167 := by kernel_rfl
  c168 := by kernel_rfl
  c171 := by kernel_rfl
  c173 := by kernel_rfl
  c175 := by kernel_rfl
  c210 := by kernel_rfl
  c212 := by kernel_rfl
  c213 := by kernel_rfl
  c232 := by kernel_rfl
  c233 := by kernel_rfl }
open Go.RowKit in
/-- strings.Compare: "Compare returns an integer comparing two strings lexicographically. The result will be 0 if a == b, -1 if a < b, and +1 if a > b.": IT RETURNS 'Lib.compareBytes a b'; the world is as it was. (LAID: no walk: one application.) -/
theorem strings_Compare (a b : ByteArray) (w : World) :
    Calls Tryd.prog 67 #[.string a, .string b] w fun e w' => e = .returned (.int .i64 (Lib.compareBytes a.data.toList b.data.toList)) ∧ w' = w := Any.strings_Compare lays106 a b w
open Go.RowKit Go.Sort Go.Lib in
/-- strconv.FormatInt: "FormatInt returns the string representation of i in the given base": AT BASE 10: i's decimal numeral, for every int64. (LAID: no walk: one application.) -/
theorem strconv_FormatInt_10 (n : Int) (h0 : -9223372036854775808 ≤ n) (h1 : n ≤ 9223372036854775807) (w : World) (htab : Lib.TabIs Tryd.prog w "internal/strconv.uint64pow10" .u64 Lib.pow10Tab) :
    Calls Tryd.prog 68 #[.int .i64 n, .int .i64 10] w fun e w' => e = .returned (.string ⟨(Lib.itoa n).toArray⟩) ∧ ∃ k os, w' = grow (w.drewN k) os := Any.strconv_FormatInt_10 laysM173 n h0 h1 w htab
open Go.RowKit in
/-- strconv.ParseInt(s, 10, 64), AT EVERY STRING THAT SPELLS AN int64 ('Lib.parseIntB 64 s.data.toList = .ok v'): v, AND NO ERROR. (LAID: no walk: one application.) -/
theorem strconv_ParseInt_10_at64_ok (s : ByteArray) (hmax : s.size ≤ 9223372036854775806) (v : Int) (h : Lib.parseIntB 64 s.data.toList = .ok v) (w : World) :
    Calls Tryd.prog 74 #[.string s, .int .i64 10, .int .i64 64] w fun e w' => e = .returned (.tuple #[.int .i64 v, .nilIface]) ∧ (w' = w ∨ ∃ t, w' = Lib.bytesWorld w 5 t) := Any.strconv_ParseInt_10_at64_ok laysC174 s hmax v h w
open Go.RowKit in
theorem strconv_ParseInt_10_at64_range_var (s : ByteArray) (hlim : s.size ≤ 281474976710656) (h : Lib.parseIntB 64 s.data.toList = .range) (tp : TypeId) (p : Value) (w : World) (hvar : w.var? Tryd.prog "strconv.ErrRange" = some #[.iface tp p]) :
    Calls Tryd.prog 74 #[.string s, .int .i64 10, .int .i64 64] w fun e w' => ∃ N, e = .returned (.tuple #[.int .i64 (Lib.intSat 64 s.data.toList), .iface 122 (.pointer (some ⟨N, 0, none⟩))]) ∧ w.heap.size ≤ N ∧ w'.heap[N]? = some (.cells #[.string ⟨#[80, 97, 114, 115, 101, 73, 110, 116]⟩, .string s, .iface tp p] 134 (0, 0)) ∧ Below w.heap.size w w' := Any.strconv_ParseInt_10_at64_range_var laysC174 s hlim h tp p w hvar
end Go.Proofs.YtbnpidmlcjofiaaDoor

namespace Go.Proofs.YtbnpidmlcjofiaaDoor
open Go.RowKit
set_option linter.unusedVariables false
set_option linter.unusedSimpArgs false

structure Env (w : World) : Prop where
  pow : Lib.TabIs Tryd.prog w "internal/strconv.uint64pow10" .u64 Lib.pow10Tab
  rng : ∃ tp p, w.var? Tryd.prog "strconv.ErrRange" = some #[.iface tp p]
  big : 6 ≤ w.heap.size
theorem gPow : Tryd.prog.globalNamed "internal/strconv.uint64pow10" = some 1 := by kernel_rfl
theorem gRng : Tryd.prog.globalNamed "strconv.ErrRange" = some 3 := by kernel_rfl
theorem Env.below {w w' : World} (h : Env w) (hb : Below w.heap.size w w') : Env w' := by
  have h6 := h.big
  obtain ⟨tp, p, hr⟩ := h.rng
  exact ⟨var?_below hb gPow (by omega) h.pow, ⟨tp, p, var?_below hb gRng (by omega) hr⟩, by have := hb.size; omega⟩
theorem Env.over {w w' : World} {N : Nat} (h : Env w) (hb : Below N w w') (hN : 6 ≤ N) : Env w' := by
  have h6 := h.big
  obtain ⟨tp, p, hr⟩ := h.rng
  exact ⟨var?_below hb gPow (by omega) h.pow, ⟨tp, p, var?_below hb gRng (by omega) hr⟩, by have := hb.size; omega⟩
theorem parseI_ok (s : ByteArray) (hs : s.size ≤ 140737488351232) (v : Int) (h : Lib.parseIntB 64 s.data.toList = .ok v) (w : World) :
    Calls Tryd.prog 74 #[.string s, .int .i64 10, .int .i64 64] w fun e w' => e = .returned (.tuple #[.int .i64 v, .nilIface]) ∧ Below w.heap.size w w' := by
  refine (strconv_ParseInt_10_at64_ok s (by omega) v h w).mono ?_
  rintro e w' ⟨rfl, hw⟩
  refine ⟨rfl, ?_⟩
  rcases hw with rfl | ⟨t, rfl⟩
  · exact Below.refl _ _
  · exact Lib.bytesWorld_below _ _ _
theorem parseI_rng (s : ByteArray) (hs : s.size ≤ 140737488351232) (h : Lib.parseIntB 64 s.data.toList = .range) (w : World) (he : Env w) :
    Calls Tryd.prog 74 #[.string s, .int .i64 10, .int .i64 64] w fun e w' => ∃ n N, e = .returned (.tuple #[.int .i64 n, .iface 122 (.pointer (some ⟨N, 0, none⟩))]) ∧ Below w.heap.size w w' := by
  obtain ⟨tp, p, hr⟩ := he.rng
  refine (strconv_ParseInt_10_at64_range_var s (by omega) h tp p w hr).mono ?_
  rintro e w' ⟨N, rfl, _, _, hb⟩
  exact ⟨_, N, rfl, hb⟩
theorem fmt_any (n : Int) (h0 : -9223372036854775808 ≤ n) (h1 : n ≤ 9223372036854775807) (w : World) (he : Env w) :
    Calls Tryd.prog 68 #[.int .i64 n, .int .i64 10] w fun e w' => e = .returned (.string ⟨(Lib.itoa n).toArray⟩) ∧ Below w.heap.size w w' := by
  refine (strconv_FormatInt_10 n h0 h1 w he.pow).mono ?_
  rintro e w' ⟨rfl, k, os, rfl⟩
  exact ⟨rfl, rfl, rfl, rfl, by rw [Sort.size_grow]; exact Nat.le_add_right _ _, fun b hb => Array.getElem?_append_left (show b < w.heap.size from hb)⟩
end Go.Proofs.YtbnpidmlcjofiaaDoor

namespace Go.Proofs.YtbnpidmlcjofiaaDoor
open Go
set_option linter.unusedVariables false
set_option linter.unusedSimpArgs false

theorem takeWhile_all {α : Type} {p : α → Bool} : ∀ {l : List α}, (∀ c ∈ l, p c = true) → l.takeWhile p = l := by
  intro l
  induction l with
  | nil => intro _; rfl
  | cons c r ih => intro h; rw [List.takeWhile_cons, if_pos (h c (List.mem_cons_self ..)), ih fun c hc => h c (List.mem_cons_of_mem _ hc)]
def numT (neg : Bool) (ds : List UInt8) : List UInt8 := if neg = true then 45 :: ds else ds
theorem num_of (neg : Bool) {ds : List UInt8} (hd : ∀ c ∈ ds, isD c = true) : numL (numT neg ds) = numE neg ds (numT neg ds).length := by
  unfold numL digs fromL numT
  cases neg with
  | true => simp [takeWhile_all hd]
  | false =>
    have h : ds.head? ≠ some 45 := fun e => by
      have := hd 45 (List.mem_of_mem_head? e)
      exact absurd this (by decide)
    simp [h, takeWhile_all hd]
theorem parse_num (neg : Bool) {ds : List UInt8} (hd : ∀ c ∈ ds, isD c = true) (h0 : neg = true ∨ ds ≠ []) : parseL (numT neg ds) = numE neg ds (numT neg ds).length := by
  rw [← num_of neg hd]
  unfold numT
  cases neg with
  | true => simp [parseL]
  | false =>
    cases ds with
    | nil => simp at h0
    | cons c r =>
      have hc := hd c (List.mem_cons_self ..)
      have h34 : c ≠ 34 := fun e => by subst e; exact absurd hc (by decide)
      simp [parseL, hc, h34]
theorem takeWhile_len {α : Type} {p : α → Bool} {l : List α} (h : l.length ≤ (l.takeWhile p).length) : l.takeWhile p = l := by
  have h1 := List.takeWhile_append_dropWhile (p := p) (l := l)
  have h2 := congrArg List.length h1
  rw [List.length_append] at h2
  have : l.dropWhile p = [] := List.eq_nil_of_length_eq_zero (by omega)
  rw [this, List.append_nil] at h1
  exact h1
theorem takeWhile_mem {α : Type} {p : α → Bool} : ∀ {l : List α}, ∀ c ∈ l.takeWhile p, p c = true := by
  intro l
  induction l with
  | nil => intro c hc; cases hc
  | cons a r ih =>
    intro c hc
    rw [List.takeWhile_cons] at hc
    split at hc
    · rename_i ha
      rcases List.mem_cons.1 hc with rfl | hc
      · exact ha
      · exact ih c hc
    · cases hc
theorem numE_good {neg : Bool} {ds : List UInt8} {len : Nat} (h : (numE neg ds len).e = 0) : ds ≠ [] ∧ (ds.head? = some 48 → neg = false ∧ ds.length = 1) ∧ (if neg = true then dval 0 ds ≤ 9223372036854775808 else dval 0 ds < 9223372036854775808) ∧ len ≤ (if neg = true then 1 else 0) + ds.length ∧ numE neg ds len = .good (intV (if neg = true then -(dval 0 ds : Int) else dval 0 ds)) := by
  unfold numE at h ⊢
  simp only at h ⊢
  by_cases h1 : ds = []
  · rw [if_pos h1] at h; exfalso; (repeat' split at h) <;> simp [Pz.bad] at h
  · rw [if_neg h1] at h ⊢
    by_cases h2 : ds.head? = some 48 ∧ neg = true
    · rw [if_pos h2] at h; simp [Pz.bad] at h
    · rw [if_neg h2] at h ⊢
      by_cases h3 : ds.head? = some 48 ∧ 1 < ds.length
      · rw [if_pos h3] at h; simp [Pz.bad] at h
      · rw [if_neg h3] at h ⊢
        by_cases h4 : (if neg = true then 9223372036854775808 < dval 0 ds else 9223372036854775808 ≤ dval 0 ds)
        · rw [if_pos h4] at h; simp [Pz.bad] at h
        · rw [if_neg h4] at h ⊢
          by_cases h5 : (if neg = true then 1 else 0) + ds.length < len
          · rw [if_pos h5] at h; simp [Pz.bad] at h
          · rw [if_neg h5] at h ⊢
            refine ⟨h1, fun e => ?_, ?_, by omega, rfl⟩
            · have : 0 < ds.length := List.length_pos_iff.2 h1
              refine ⟨?_, ?_⟩
              · cases neg with
                | true => exact absurd ⟨e, rfl⟩ h2
                | false => rfl
              · have : ¬ 1 < ds.length := fun h => h3 ⟨e, h⟩
                omega
            · cases neg <;> simp at h4 ⊢ <;> omega
theorem numE_of {neg : Bool} {ds : List UInt8} {len : Nat} (h1 : ds ≠ []) (h2 : ds.head? = some 48 → neg = false ∧ ds.length = 1) (h3 : if neg = true then dval 0 ds ≤ 9223372036854775808 else dval 0 ds < 9223372036854775808) (h4 : len ≤ (if neg = true then 1 else 0) + ds.length) : numE neg ds len = .good (intV (if neg = true then -(dval 0 ds : Int) else dval 0 ds)) := by
  unfold numE
  simp only
  rw [if_neg h1, if_neg (fun e => by have := (h2 e.1).1; rw [e.2] at this; cases this), if_neg (fun e => by have := (h2 e.1).2; omega), if_neg (by cases neg <;> simp at h3 ⊢ <;> omega), if_neg (by omega)]
theorem itoa_dval (neg : Bool) {ds : List UInt8} (hd : ∀ c ∈ ds, isD c = true) (h1 : ds ≠ []) (h2 : ds.head? = some 48 → neg = false ∧ ds.length = 1) : Lib.itoa (if neg = true then -(dval 0 ds : Int) else dval 0 ds) = numT neg ds := by
  have e := dec_dval ds.length ds rfl hd h1 (fun h => (h2 h).2)
  unfold Lib.itoa numT
  cases neg with
  | true =>
    have : 0 < dval 0 ds := dval_pos hd h1 (fun h => by have := (h2 h).1; cases this)
    simp only [if_true]
    rw [if_pos (by omega), show (-(dval 0 ds : Int)).natAbs = dval 0 ds by omega, e]
  | false =>
    simp only [Bool.false_eq_true, if_false]
    rw [if_neg (by omega), show ((dval 0 ds : Int)).toNat = dval 0 ds by omega, e]
theorem numL_shape {s : List UInt8} (h : s.length ≤ (if (decide (s.head? = some 45)) = true then 1 else 0) + (digs s).length) (hne : s ≠ []) : s = numT (decide (s.head? = some 45)) (digs s) := by
  unfold numT
  unfold digs fromL at *
  cases s with
  | nil => exact absurd rfl hne
  | cons c r =>
    by_cases hc : c = 45
    · subst hc
      simp at h ⊢
      exact (takeWhile_len (by omega)).symm
    · simp [hc] at h ⊢
      exact (takeWhile_len (by simpa using h)).symm
theorem head_take {l : List UInt8} {k : Nat} (hk : 0 < k) : (l.take k).head? = l.head? := by
  cases k with
  | zero => omega
  | succ k => cases l <;> rfl
theorem want_good : ∀ (q r : List UInt8) (i : Nat), (wantL r q i).e = 0 → r = q
  | [], [], _, _ => rfl
  | [], _ :: _, i, h => absurd h (by simp [wantL, Pz.bad])
  | _ :: _, [], i, h => absurd h (by simp [wantL, Pz.bad])
  | d :: q, c :: r, i, h => by
    unfold wantL at h
    split at h
    · rename_i e; rw [e, want_good q r _ h]
    · simp [Pz.bad] at h
/-- what is read is what would be printed; its beginnings -/
theorem parse_good {s : List UInt8} (h : (parseL s).e = 0) : ∃ v, parseL s = .good v ∧ v.ok = true ∧ v.rng ∧ litL v = s ∧ ∀ cut, cut < s.length → (parseL (s.take cut)).e = 0 ∨ parseL (s.take cut) = .bad 3 cut := by
  cases s with
  | nil => simp [parseL, Pz.bad] at h
  | cons c r =>
    by_cases h1 : c = 34
    · subst h1
      simp only [parseL, if_true] at h ⊢
      obtain ⟨t, e1, e2, e3, e4, e5⟩ := scan_good r.length r 1 [] (Nat.le_refl _) h (by simp)
      rw [List.nil_append] at e1 e4
      refine ⟨wordV t, e1, ?_, ⟨by simp [wordV], by simp [wordV]⟩, ?_, fun cut hc => ?_⟩
      · unfold Vl.ok wordV
        simp only
        rw [if_neg (by decide), if_neg (by decide)]
        simp only [if_true, decide_true, Bool.true_and, Bool.and_eq_true, decide_eq_true_eq]
        refine ⟨by simpa [ByteArray.size] using e4, ?_⟩
        unfold okT
        rw [List.all_eq_true]
        simpa using e3
      · unfold litL wordV
        simp only
        rw [if_neg (by decide), if_neg (by decide)]
        simp [e2]
      · rcases cut with _ | cut
        · right; rfl
        · right
          simp only [List.take_succ_cons, if_true]
          rw [e5 cut (by simp at hc; omega)]
          congr 1; omega
    · by_cases h2 : c = 45 ∨ isD c = true
      · have hp : parseL (c :: r) = numL (c :: r) := by simp only [parseL]; rw [if_neg h1, if_pos h2]
        rw [hp] at h ⊢
        unfold numL at h ⊢
        generalize hneg : decide ((c :: r).head? = some 45) = neg at h ⊢
        obtain ⟨g1, g2, g3, g4, g5⟩ := numE_good h
        have hs := numL_shape (s := c :: r) (by rw [hneg]; exact g4) (by simp)
        rw [hneg] at hs
        generalize hds : digs (c :: r) = ds at *
        have hd : ∀ c ∈ ds, isD c = true := by rw [← hds]; unfold digs; exact takeWhile_mem
        refine ⟨_, g5, ?_, ?_, ?_, fun cut hc => ?_⟩
        · simp [Vl.ok, intV]
        · unfold Vl.rng intV; cases neg <;> simp at g3 ⊢ <;> omega
        · rw [hs, ← itoa_dval neg hd g1 g2]; simp [litL, intV]
        · rw [hs] at hc ⊢
          cases neg with
          | true =>
            rcases cut with _ | cut
            · right; rfl
            · have e : (numT true ds).take (cut + 1) = numT true (ds.take cut) := by simp [numT]
              rw [e, parse_num true (fun c hc => hd c (List.mem_of_mem_take hc)) (.inl rfl)]
              rcases cut with _ | cut
              · right; simp [numE, numT]
              · left
                rw [numE_of]
                · rfl
                · intro e; have := congrArg List.length e; rw [List.length_take, List.length_nil] at this; simp [numT] at hc; omega
                · intro e; rw [head_take (by omega)] at e; exact absurd (g2 e).1 (by decide)
                · have := dval_take ds (cut + 1) 0; simp at g3 ⊢; omega
                · unfold numT; simp only [if_true, List.length_cons]; omega
          | false =>
            rcases cut with _ | cut
            · right; rfl
            · have e : (numT false ds).take (cut + 1) = numT false (ds.take (cut + 1)) := by simp [numT]
              have hne : ds.take (cut + 1) ≠ [] := by intro e; have := congrArg List.length e; rw [List.length_take, List.length_nil] at this; simp [numT] at hc; omega
              rw [e, parse_num false (fun c hc => hd c (List.mem_of_mem_take hc)) (.inr hne)]
              left
              rw [numE_of hne]
              · rfl
              · intro e; rw [head_take (by omega)] at e; have := (g2 e).2; simp [numT] at hc; omega
              · have := dval_take ds (cut + 1) 0; simp at g3 ⊢; omega
              · unfold numT; simp only [Bool.false_eq_true, if_false]; omega
      · have hp : parseL (c :: r) = wantL (c :: r) noneT 0 := by simp only [parseL]; rw [if_neg h1, if_neg h2]
        rw [hp] at h ⊢
        have hs : c :: r = noneT := want_good _ _ _ h
        rw [hs]
        refine ⟨vl0, rfl, rfl, ⟨by decide, by decide⟩, rfl, fun cut hc => .inr ?_⟩
        rcases cut with _ | _ | _ | _ | cut
        · rfl
        · rfl
        · rfl
        · rfl
        · exfalso; have h4 : noneT.length = 4 := rfl; omega
/-- what is printed is read -/
theorem parse_lit {v : Vl} (hv : v.ok = true) (hr : v.rng) : parseL (litL v) = .good v := by
  rcases ok_forms hv with rfl | ⟨h1, h2⟩ | ⟨h1, h2, h3, h4⟩
  · rfl
  · obtain ⟨k, n, s⟩ := v
    simp only at h1 h2
    subst h1 h2
    unfold litL
    rw [if_pos rfl]
    simp only
    have hb : -9223372036854775808 ≤ n ∧ n ≤ 9223372036854775807 := hr
    by_cases hn : n < 0
    · have e : Lib.itoa n = numT true (Lib.decDigits n.natAbs) := by unfold Lib.itoa numT; rw [if_pos hn]; rfl
      rw [e, parse_num true (dec_isD _) (.inl rfl), numE_of (dec_ne _) (fun e => absurd e (dec_head _ (by omega))) (by rw [dval_dec]; simp only [if_true]; omega) (by unfold numT; simp only [if_true, List.length_cons]; omega)]
      rw [dval_dec]
      unfold intV
      simp only [if_true]
      rw [show -((n.natAbs : Nat) : Int) = n by omega]
    · have e : Lib.itoa n = numT false (Lib.decDigits n.toNat) := by unfold Lib.itoa numT; rw [if_neg hn]; rfl
      rw [e, parse_num false (dec_isD _) (.inr (dec_ne _)), numE_of (dec_ne _) (fun e => ⟨rfl, ?_⟩) (by rw [dval_dec]; simp only [Bool.false_eq_true, if_false]; omega) (by unfold numT; simp only [Bool.false_eq_true, if_false]; omega)]
      · rw [dval_dec]
        unfold intV
        simp only [Bool.false_eq_true, if_false]
        rw [show ((n.toNat : Nat) : Int) = n by omega]
      · by_cases h0 : n.toNat = 0
        · rw [h0, dec_zero]; rfl
        · exact absurd e (dec_head _ h0)
  · obtain ⟨k, n, s⟩ := v
    simp only at h1 h2 h3 h4
    subst h1 h2
    unfold litL
    have hl : s.data.toList.length = s.size := by rw [Array.length_toList]; rfl
    rw [if_neg (by simp), if_neg (by simp)]
    simp only [parseL, if_true]
    rw [scan_esc _ _ _ (by unfold okT at h4; rw [List.all_eq_true] at h4; exact h4) (by rw [List.length_nil, hl]; omega)]
    rfl
theorem lit_inj {v w : Vl} (hv : v.ok = true) (hr : v.rng) (hw : w.ok = true) (hq : w.rng) (h : litL v = litL w) : v = w := by
  have h1 := parse_lit hv hr
  rw [h, parse_lit hw hq] at h1
  have := congrArg Pz.v h1
  exact this.symm
end Go.Proofs.YtbnpidmlcjofiaaDoor

namespace Go.Proofs.YtbnpidmlcjofiaaDoor
open Go.RowKit
set_option linter.unusedVariables false
set_option linter.unusedSimpArgs false

theorem digit_any (c : UInt8) (w : World) : Calls Tryd.prog 73 #[.int .u8 (c.toNat : Nat)] w fun e w' => e = .returned (.bool (isD c)) ∧ w' = w := by
  unfold isD
  by_cases h : 48 ≤ c.toNat
  · have t1 : decide ((48 : Int) ≤ (c.toNat : Int)) = true := decide_eq_true (by omega)
    have hc : Hid ((decide (48 ≤ c.toNat) && decide (c.toNat ≤ 57)) = decide ((c.toNat : Int) ≤ 57)) := hid (by rw [decide_eq_true h, Bool.true_and]; exact decide_eq_decide.2 (by omega))
    clear h
    go_enter Tryd.func73, Tryd.ntmps73
    go_wp2_with fail
    go_ret
    exact ⟨by rw [hc.out]; first | rfl | simp, rfl⟩
  · have t1 : decide ((48 : Int) ≤ (c.toNat : Int)) = false := decide_eq_false (by omega)
    have hc : Hid ((decide (48 ≤ c.toNat) && decide (c.toNat ≤ 57)) = false) := hid (by rw [decide_eq_false h, Bool.false_and])
    clear h
    go_enter Tryd.func73, Tryd.ntmps73
    go_wp2_with fail
    go_ret
    exact ⟨by rw [hc.out]; rfl, rfl⟩
theorem takeWhile_take {α : Type} (p : α → Bool) : ∀ (n : Nat) (l : List α), n ≤ l.length → (∀ j (h : j < l.length), j < n → p l[j] = true) → (∀ h : n < l.length, p l[n] = false) → l.takeWhile p = l.take n := by
  intro n
  induction n with
  | zero =>
    intro l _ _ h2
    cases l with
    | nil => rfl
    | cons c r => rw [List.takeWhile_cons, if_neg (by rw [show p c = false from h2 (by simp)]; decide)]; rfl
  | succ n ih =>
    intro l hl h1 h2
    cases l with
    | nil => simp at hl
    | cons c r =>
      rw [List.takeWhile_cons, if_pos (show p c = true from h1 0 (by simp) (by omega)), List.take_succ_cons, ih r (by simpa using hl) (fun j hj hn => h1 (j + 1) (by simpa using hj) (by omega)) (fun h => h2 (by simpa using h))]
theorem parseI_num (neg : Bool) {ds : List UInt8} (hd : ∀ c ∈ ds, isD c = true) (h0 : ds ≠ []) :
    Lib.parseIntB 64 (if neg = true then 45 :: ds else ds) = if (if neg = true then 9223372036854775808 < dval 0 ds else 9223372036854775808 ≤ dval 0 ds) then .range else .ok (if neg = true then -(dval 0 ds : Int) else dval 0 ds) := by
  cases neg with
  | true =>
    simp only [if_true]
    rw [parseI_neg hd h0]
    by_cases h : dval 0 ds ≤ 9223372036854775808
    · rw [if_pos h, if_neg (by omega)]
    · rw [if_neg h, if_pos (by omega)]
  | false =>
    simp only [Bool.false_eq_true, if_false]
    rw [parseI_pos hd h0]
    by_cases h : dval 0 ds < 9223372036854775808
    · rw [if_pos h, if_neg (by omega)]
    · rw [if_neg h, if_pos (by omega)]
/-- the digits stand from f to k -/
structure Dig (s : ByteArray) (neg : Bool) (f k : Nat) : Prop where
  fe : f = if neg = true then 1 else 0
  hd : decide (s.data.toList.head? = some 45) = neg
  le : f ≤ k ∧ k ≤ s.size
  ds : digs s.data.toList = (s.data.toList.drop f).take (k - f)
  len : (digs s.data.toList).length = k - f
  all : ∀ c ∈ digs s.data.toList, isD c = true
section
variable {s : ByteArray} {neg : Bool} {f k : Nat}
theorem Dig.mk' (fe : f = if neg = true then 1 else 0) (hd : decide (s.data.toList.head? = some 45) = neg) (le : f ≤ k ∧ k ≤ s.size) (h1 : ∀ j (hj : j < s.size), f ≤ j → j < k → isD (s.data[j]'hj) = true) (h2 : ∀ h : k < s.size, isD (s.data[k]'h) = false) : Dig s neg f k := by
  have hf : fromL s.data.toList = f := by
    unfold fromL
    rw [fe, ← hd]
    by_cases h : s.data.toList.head? = some 45 <;> simp [h]
  have hl : s.data.toList.length = s.size := by rw [Array.length_toList]; rfl
  have e : digs s.data.toList = (s.data.toList.drop f).take (k - f) := by
    unfold digs
    rw [hf]
    refine takeWhile_take isD (k - f) _ (by rw [List.length_drop, hl]; omega) (fun j hj hn => ?_) (fun h => ?_)
    · rw [List.length_drop, hl] at hj
      rw [List.getElem_drop, Array.getElem_toList]
      exact h1 _ (by omega) (by omega) (by omega)
    · rw [List.length_drop, hl] at h
      rw [List.getElem_drop, Array.getElem_toList]
      have := h2 (by omega)
      simp only [show f + (k - f) = k by omega]
      exact this
  refine ⟨fe, hd, le, e, ?_, by unfold digs; exact takeWhile_mem⟩
  rw [e, List.length_take, List.length_drop, hl]
  omega
theorem Dig.num (h : Dig s neg f k) : numL s.data.toList = numE neg (digs s.data.toList) s.size := by
  unfold numL
  rw [h.hd, Array.length_toList]
  rfl
theorem Dig.f1 (h : Dig s neg f k) : (if neg = true then 1 else 0) = f := h.fe.symm
theorem Dig.c1 (h : Dig s neg f k) (hk : k = f) (he : k = s.size) : numL s.data.toList = .bad 3 k := by
  have e : digs s.data.toList = [] := List.eq_nil_of_length_eq_zero (by rw [h.len]; omega)
  rw [h.num]; unfold numE; simp only; rw [if_pos e, h.f1, if_pos (by omega), hk]
theorem Dig.c2 (h : Dig s neg f k) (hk : k = f) (he : k ≠ s.size) : numL s.data.toList = .bad 21 k := by
  have e : digs s.data.toList = [] := List.eq_nil_of_length_eq_zero (by rw [h.len]; omega)
  rw [h.num]; unfold numE; simp only; rw [if_pos e, h.f1, if_neg (by omega), hk]
theorem Dig.ne (h : Dig s neg f k) (hk : f < k) : digs s.data.toList ≠ [] := fun e => by have := h.len; rw [e] at this; simp at this; omega
theorem Dig.head (h : Dig s neg f k) (hk : f < k) (hf : f < s.size) : (digs s.data.toList).head? = some (s.data[f]'hf) := by
  rw [h.ds, head_take (by omega), drop_some hf]; rfl
theorem Dig.c3 (h : Dig s neg f k) (hk : f < k) (hf : f < s.size) (h48 : s.data[f]'hf = 48) (hn : neg = true) : numL s.data.toList = .bad 21 1 := by
  rw [h.num]; unfold numE; simp only; rw [if_neg (h.ne hk), h.head hk hf, h48, if_pos ⟨rfl, hn⟩]
theorem Dig.c4 (h : Dig s neg f k) (hk : f + 1 < k) (hf : f < s.size) (h48 : s.data[f]'hf = 48) (hn : neg = false) : numL s.data.toList = .bad 21 1 := by
  rw [h.num]; unfold numE; simp only; rw [if_neg (h.ne (by omega)), h.head (by omega) hf, h48, if_neg (by rw [hn]; simp), if_pos ⟨rfl, by rw [h.len]; omega⟩]
def Dig.Big (s : ByteArray) (neg : Bool) : Prop := if neg = true then 9223372036854775808 < dval 0 (digs s.data.toList) else 9223372036854775808 ≤ dval 0 (digs s.data.toList)
def Dig.val (s : ByteArray) (neg : Bool) : Int := if neg = true then -(dval 0 (digs s.data.toList) : Int) else dval 0 (digs s.data.toList)
theorem Dig.c567 (h : Dig s neg f k) (hk : f < k) (hf : f < s.size) (h48 : s.data[f]'hf = 48 → neg = false ∧ k = f + 1) : (Dig.Big s neg → numL s.data.toList = .bad 22 0) ∧ (¬ Dig.Big s neg → k < s.size → numL s.data.toList = .bad 4 k) ∧ (¬ Dig.Big s neg → k = s.size → numL s.data.toList = .good (intV (Dig.val s neg))) := by
  have hE : numL s.data.toList = if (if neg = true then 9223372036854775808 < dval 0 (digs s.data.toList) else 9223372036854775808 ≤ dval 0 (digs s.data.toList)) then .bad 22 0 else if f + (k - f) < s.size then .bad 4 (f + (k - f)) else .good (intV (if neg = true then -(dval 0 (digs s.data.toList) : Int) else dval 0 (digs s.data.toList))) := by
    rw [h.num]
    unfold numE
    simp only
    rw [if_neg (h.ne hk), h.head hk hf, if_neg (by rintro ⟨e, hn⟩; have := h48 (Option.some.inj e); rw [hn] at this; exact absurd this.1 (by decide)), if_neg (by rintro ⟨e, hn⟩; have := h48 (Option.some.inj e); rw [h.len] at hn; omega), h.f1, h.len]
  unfold Dig.Big Dig.val
  refine ⟨fun hb => ?_, fun hb hl => ?_, fun hb hl => ?_⟩
  · rw [hE, if_pos hb]
  · rw [hE, if_neg hb, if_pos (by omega), show f + (k - f) = k by omega]
  · rw [hE, if_neg hb, if_neg (by omega)]
theorem Dig.parse (h : Dig s neg f k) (hk : f < k) : (Dig.Big s neg → Lib.parseIntB 64 (s.extract 0 k).data.toList = .range) ∧ (¬ Dig.Big s neg → Lib.parseIntB 64 (s.extract 0 k).data.toList = .ok (Dig.val s neg)) := by
  have e : (s.extract 0 k).data.toList = if neg = true then 45 :: digs s.data.toList else digs s.data.toList := by
    have e1 : (s.extract 0 k).data.toList = s.data.toList.take k := by
      rw [ByteArray.data_extract, Array.toList_extract, List.extract_eq_take_drop]; simp
    rw [e1, h.ds]
    have hfe := h.fe
    cases neg with
    | false => simp only [Bool.false_eq_true, if_false] at hfe ⊢; subst hfe; simp
    | true =>
      simp only [if_true] at hfe ⊢
      subst hfe
      have h0 : s.data.toList.head? = some 45 := of_decide_eq_true h.hd
      cases hs : s.data.toList with
      | nil => rw [hs] at h0; cases h0
      | cons a r =>
        rw [hs] at h0
        obtain rfl : a = 45 := Option.some.inj h0
        obtain ⟨k', rfl⟩ : ∃ k', k = k' + 1 := ⟨k - 1, by omega⟩
        simp
  rw [e, parseI_num neg h.all (h.ne hk)]
  exact ⟨fun hb => if_pos hb, fun hb => if_neg hb⟩
theorem Dig.rng (h : Dig s neg f k) (hb : ¬ Dig.Big s neg) : -9223372036854775808 ≤ Dig.val s neg ∧ Dig.val s neg ≤ 9223372036854775807 := by
  unfold Dig.Big at hb; unfold Dig.val
  cases neg <;> simp at hb ⊢ <;> omega
end

end Go.Proofs.YtbnpidmlcjofiaaDoor

namespace Go.Proofs.YtbnpidmlcjofiaaDoor
open Go.RowKit
set_option linter.unusedVariables false
set_option linter.unusedSimpArgs false

def lb (L : List Nat) : List UInt8 := L.map UInt8.ofNat
theorem lb_len (L : List Nat) : (lb L).length = L.length := List.length_map ..
theorem lb_snoc (L : List Nat) (c : UInt8) : lb (L ++ [c.toNat]) = lb L ++ [c] := by unfold lb; simp
theorem lb_bt (L : List Nat) : (wordV (lb L)).s = bt L := rfl
section
variable {s : ByteArray} {k : Nat} {L : List Nat}
theorem sc_end (hk : s.size ≤ k) (out : List UInt8) : scanL (s.data.toList.drop k) k out = .bad 3 k := by rw [drop_end hk]; rfl
theorem sc_quote (hk : k < s.size) (h : s.data[k]'hk = 34) (out : List UInt8) : scanL (s.data.toList.drop k) k out = if k + 1 < s.size then .bad 4 (k + 1) else .good (wordV out) := by
  rw [drop_some hk, scan_c (by rw [h]; decide), if_pos h]
  by_cases h1 : k + 1 < s.size
  · rw [if_pos h1, if_neg (by rw [drop_some h1]; simp)]
  · rw [if_neg h1, if_pos (drop_end (by omega))]
theorem okB_92 : okB 92 = true := by decide
theorem sc_bad (hk : k < s.size) (h0 : s.data[k]'hk ≠ 34) (h : okB (s.data[k]'hk) = false) (out : List UInt8) : scanL (s.data.toList.drop k) k out = .bad 21 k := by
  have h92 : s.data[k]'hk ≠ 92 := fun e => by rw [e] at h; exact absurd h (by decide)
  rw [drop_some hk, scan_c h92, if_neg h0, if_pos h]
theorem sc_long (hk : k < s.size) (h0 : s.data[k]'hk ≠ 34) (h : okB (s.data[k]'hk) = true) {out : List UInt8} (hl : out.length = 64) : scanL (s.data.toList.drop k) k out = .bad 1 k := by
  rw [drop_some hk]
  by_cases h92 : s.data[k]'hk = 92
  · rw [h92]
    cases s.data.toList.drop (k + 1) with
    | nil => rw [scan_b1, if_pos hl]
    | cons d r => rw [scan_b2, if_pos hl]
  · rw [scan_c h92, if_neg h0, if_neg (by rw [h]; decide), if_pos hl]
theorem sc_one (hk : k < s.size) (h0 : s.data[k]'hk ≠ 34) (h : okB (s.data[k]'hk) = true) {out : List UInt8} (hl : out.length ≠ 64) (h92 : s.data[k]'hk ≠ 92) : scanL (s.data.toList.drop k) k out = scanL (s.data.toList.drop (k + 1)) (k + 1) (out ++ [s.data[k]'hk]) := by
  rw [drop_some hk, scan_c h92, if_neg h0, if_neg (by rw [h]; decide), if_neg hl]
theorem sc_half (hk : k < s.size) {out : List UInt8} (hl : out.length ≠ 64) (h92 : s.data[k]'hk = 92) (he : s.size = k + 1) : scanL (s.data.toList.drop k) k out = .bad 3 s.size := by
  rw [drop_some hk, drop_end (by omega), h92, scan_b1, if_neg hl, he]
theorem sc_two (hk : k < s.size) {out : List UInt8} (hl : out.length ≠ 64) (h92 : s.data[k]'hk = 92) (he : k + 1 < s.size) : scanL (s.data.toList.drop k) k out = if s.data[k + 1]'he = 34 ∨ s.data[k + 1]'he = 92 then scanL (s.data.toList.drop (k + 2)) (k + 2) (out ++ [s.data[k + 1]'he]) else .bad 21 (k + 1) := by
  rw [drop_some hk, drop_some he, h92, scan_b2, if_neg hl]
theorem byte_ne {hk : k < s.size} {c : UInt8} (h : s.data[k]'hk ≠ c) : (s[k]'hk).toNat ≠ c.toNat := fun e => h (UInt8.toNat_inj.1 e)
theorem byte_eq {hk : k < s.size} {c : UInt8} (h : s.data[k]'hk = c) : (s[k]'hk).toNat = c.toNat := by show (s.data[k]'hk).toNat = c.toNat; rw [h]
end

set_option maxRecDepth 100000 in
set_option maxHeartbeats 4000000 in
theorem parseText_any (s : ByteArray) (w : World) (hs : s.size ≤ 140737488351232) (h1s : 1 ≤ s.size) : Calls Tryd.prog 46 #[.string s] w (PzOut (scanL (s.data.toList.drop 1) 1 []) w) := by
  generalize hRR0 : scanL (s.data.toList.drop 1) 1 [] = R
  have hRR := hid hRR0
  clear hRR0
  obtain ⟨ib, hb0, hb1, hb2, hb3⟩ := info_parts info_u8
  have hz := hid (VZ.start w)
  have hs9 : (s.size : Int) ≤ 140737488351232 := by omega
  have hs8 := hid hs
  clear hs
  go_enter Tryd.func46, Tryd.ntmps46
  go_upto_region 1 with fail
  generalize w.alloc (.cells #[.int .i64 0, .int .i64 0, .string ⟨#[]⟩] 24) = W at *
  obtain ⟨fz, hlt, z0, z1, z2⟩ := hz.out.facts
  go_wp2_with fail
  go_loopw [5, 6, 7, 8] (fun v5 v6 _ _ wr => ∃ (k : Nat) (A : Option Addr) (c : Nat) (L : List Nat), v5 = .slice A L.length c ∧ v6 = .int .i64 k ∧ 1 ≤ k ∧ k ≤ s.size ∧ L.length ≤ 64 ∧ wr.ownsRow W.heap.size 5 1 (.slice A L.length c) L.length (bcells L) ∧ Below W.heap.size W wr ∧ scanL (s.data.toList.drop k) k (lb L) = R) (fun _ v6 _ _ _ => s.size - (intOf v6).toNat)
  case atStart => exact ⟨1, none, 0, [], rfl, rfl, Nat.le_refl _, h1s, by decide, World.ownsRow_nil _ _ _ _, Below.refl _ _, hRR.out⟩
  case round =>
    clear fz hlt z0 z1 z2
    obtain ⟨k, A, c, L, rfl, rfl, hk1, hks, hL0, hown0, hB0, hR0⟩ := hrel
    have hL := hid hL0; have hown := hid hown0; have hB := hid hB0; have hR := hid hR0
    have hL9 : (L.length : Int) ≤ 64 := by omega
    clear hL0 hown0 hB0 hR0
    by_cases hlt : k < s.size
    · have i1 : (k : Int) < (s.size : Int) := by omega
      by_cases h34 : s.data[k]'hlt = 34
      · have b1 : (s[k]'hlt).toNat = 34 := byte_eq (hk := hlt) h34
        have b2 : (((s[k]'hlt).toNat : Int) == 34) = true := by rw [b1]; rfl
        have hsc := sc_quote hlt h34 (lb L)
        by_cases hmo : k + 1 < s.size
        · have i2 : (k : Int) + 1 < (s.size : Int) := by omega
          have hfin : Hid (R = .bad 4 (k + 1)) := hid (by rw [← hR.out, hsc, if_pos hmo])
          clear hsc h34 hmo
          have hz := hid (hz.out.below hB.out)
          obtain ⟨fz, hlt, z0, z1, z2⟩ := hz.out.facts
          go_wp2_with fail
          have hT := hz.out.set ⟨0, 0, ⟨#[]⟩⟩
          dsimp only at hT
          obtain ⟨-, -, z0, z1, z2⟩ := hT.facts
          dsimp only at z0 z1 z2
          refine bodyPost_ret (v := .tuple #[.agg #[.int .i64 (⟨0, 0, ⟨#[]⟩⟩ : Vl).k, .int .i64 (⟨0, 0, ⟨#[]⟩⟩ : Vl).n, .string (⟨0, 0, ⟨#[]⟩⟩ : Vl).s], .int .i64 4, .int .i64 ((k + 1 : Nat) : Int)]) (by simp [results, Tryd.results46, go_sem, z0, z1, z2]) rfl ⟨?_, hT.bel⟩
          rw [hfin.out]; rfl
        · have i2 : ¬ ((k : Int) + 1 < (s.size : Int)) := by omega
          have hfin : Hid (R = .good (wordV (lb L))) := hid (by rw [← hR.out, hsc, if_neg hmo])
          clear hsc h34 hmo
          have hcv := convB (Rd.of_own hown.out) (c := c) rfl
          go_wp2_with fail
          refine (word2_any _ _).mono ?_
          rintro e w2 ⟨rfl, hb20⟩
          have hB2 := hid (hB.out.trans (hb20.mono hB.out.size))
          clear hb20 hcv
          have hz := hid (hz.out.below hB2.out)
          obtain ⟨fz, hlt, z0, z1, z2⟩ := hz.out.facts
          go_wp2_with fail
          have hT := hz.out.set ⟨2, 0, bt L⟩
          dsimp only at hT
          obtain ⟨-, -, z0, z1, z2⟩ := hT.facts
          dsimp only at z0 z1 z2
          refine bodyPost_ret (v := .tuple #[.agg #[.int .i64 (⟨2, 0, bt L⟩ : Vl).k, .int .i64 (⟨2, 0, bt L⟩ : Vl).n, .string (⟨2, 0, bt L⟩ : Vl).s], .int .i64 0, .int .i64 0]) (by simp [results, Tryd.results46, go_sem, z0, z1, z2]) rfl ⟨?_, hT.bel⟩
          rw [hfin.out]; rfl
      · have b1 : (s[k]'hlt).toNat ≠ 34 := byte_ne (hk := hlt) h34
        have b2 : (((s[k]'hlt).toNat : Int) == 34) = false := by simp; omega
        cases hok : okB (s.data[k]'hlt) with
        | false =>
          have hpl := hid (mayB hlt hok (plain_any _ wr))
          have hfin : Hid (R = .bad 21 k) := hid (by rw [← hR.out, sc_bad hlt h34 hok])
          clear h34 hok b1
          go_wp2_with fail
          refine hpl.out.mono ?_
          rintro e w2 ⟨rfl, hwq⟩
          obtain rfl := hwq.symm
          clear hpl
          have hz := hid (hz.out.below hB.out)
          obtain ⟨fz, hlt, z0, z1, z2⟩ := hz.out.facts
          go_wp2_with fail
          have hT := hz.out.set ⟨0, 0, ⟨#[]⟩⟩
          dsimp only at hT
          obtain ⟨-, -, z0, z1, z2⟩ := hT.facts
          dsimp only at z0 z1 z2
          refine bodyPost_ret (v := .tuple #[.agg #[.int .i64 (⟨0, 0, ⟨#[]⟩⟩ : Vl).k, .int .i64 (⟨0, 0, ⟨#[]⟩⟩ : Vl).n, .string (⟨0, 0, ⟨#[]⟩⟩ : Vl).s], .int .i64 21, .int .i64 (k : Nat)]) (by simp [results, Tryd.results46, go_sem, z0, z1, z2]) rfl ⟨?_, hT.bel⟩
          rw [hfin.out]; rfl
        | true =>
          have hpl := hid (mayB hlt hok (plain_any _ wr))
          by_cases h64 : L.length = 64
          · have l1 : ((L.length : Int) == 64) = true := by rw [h64]; rfl
            have hfin : Hid (R = .bad 1 k) := hid (by rw [← hR.out, sc_long hlt h34 hok (by rw [lb_len]; exact h64)])
            clear h34 hok b1 h64
            go_wp2_with fail
            refine hpl.out.mono ?_
            rintro e w2 ⟨rfl, hwq⟩
            obtain rfl := hwq.symm
            clear hpl
            have hz := hid (hz.out.below hB.out)
            obtain ⟨fz, hlt, z0, z1, z2⟩ := hz.out.facts
            go_wp2_with fail
            have hT := hz.out.set ⟨0, 0, ⟨#[]⟩⟩
            dsimp only at hT
            obtain ⟨-, -, z0, z1, z2⟩ := hT.facts
            dsimp only at z0 z1 z2
            refine bodyPost_ret (v := .tuple #[.agg #[.int .i64 (⟨0, 0, ⟨#[]⟩⟩ : Vl).k, .int .i64 (⟨0, 0, ⟨#[]⟩⟩ : Vl).n, .string (⟨0, 0, ⟨#[]⟩⟩ : Vl).s], .int .i64 1, .int .i64 (k : Nat)]) (by simp [results, Tryd.results46, go_sem, z0, z1, z2]) rfl ⟨?_, hT.bel⟩
            rw [hfin.out]; rfl
          · have l1 : ((L.length : Int) == 64) = false := by simp; omega
            have hL2 := hid (show L.length + 1 ≤ 64 by have := hL.out; omega)
            by_cases h92 : s.data[k]'hlt = 92
            · have b3 : (s[k]'hlt).toNat = 92 := byte_eq (hk := hlt) h92
              have hpl : Hid (Calls Tryd.prog 72 #[.int .u8 92] wr fun e w' => e = .returned (.bool true) ∧ w' = wr) := hid (by have h := mayB hlt hok (plain_any _ wr); rw [b3] at h; exact h)
              have b4 : (((s[k]'hlt).toNat : Int) == 92) = true := by rw [b3]; rfl
              by_cases hen : s.size = k + 1
              · have e1 : ((k : Int) + 1 == (s.size : Int)) = true := by rw [hen]; simp
                have hfin : Hid (R = .bad 3 s.size) := hid (by rw [← hR.out, sc_half hlt (by rw [lb_len]; exact h64) h92 hen])
                clear h34 hok b1 h64 h92 hen
                go_wp2_with fail
                refine hpl.out.mono ?_
                rintro e w2 ⟨rfl, hwq⟩
                obtain rfl := hwq.symm
                clear hpl
                have hz := hid (hz.out.below hB.out)
                obtain ⟨fz, hlt, z0, z1, z2⟩ := hz.out.facts
                go_wp2_with fail
                have hT := hz.out.set ⟨0, 0, ⟨#[]⟩⟩
                dsimp only at hT
                obtain ⟨-, -, z0, z1, z2⟩ := hT.facts
                dsimp only at z0 z1 z2
                refine bodyPost_ret (v := .tuple #[.agg #[.int .i64 (⟨0, 0, ⟨#[]⟩⟩ : Vl).k, .int .i64 (⟨0, 0, ⟨#[]⟩⟩ : Vl).n, .string (⟨0, 0, ⟨#[]⟩⟩ : Vl).s], .int .i64 3, .int .i64 (s.size : Nat)]) (by simp [results, Tryd.results46, go_sem, z0, z1, z2]) rfl ⟨?_, hT.bel⟩
                rw [hfin.out]; rfl
              · have hl2 : k + 1 < s.size := by omega
                have i2 : (k : Int) + 1 < (s.size : Int) := by omega
                have e1 : ((k : Int) + 1 == (s.size : Int)) = false := by simp; omega
                have hst := sc_two hlt (out := lb L) (by rw [lb_len]; exact h64) h92 hl2
                clear h34 hok b1 h64 h92 hen
                by_cases d34 : s.data[k + 1]'hl2 = 34
                · have d1 : (s[k + 1]'hl2).toNat = 34 := byte_eq (hk := hl2) d34
                  have d2 : (((s[k + 1]'hl2).toNat : Int) != 34) = false := by rw [d1]; rfl
                  have hR2 : Hid (scanL (s.data.toList.drop (k + 2)) (k + 2) (lb (L ++ [34])) = R) := hid (by rw [← hR.out, hst, if_pos (.inl d34), d34, show (34 : Nat) = (34 : UInt8).toNat from rfl, lb_snoc])
                  clear hst d34
                  go_wp2_with fail
                  refine hpl.out.mono ?_
                  rintro e w2 ⟨rfl, hwq⟩
                  obtain rfl := hwq.symm
                  clear hpl
                  go_wp2_with (
                    at_builtin
                    refine wpList_append_rd _ rfl (.tmp 62) (.tmp 64) 22 rfl W.heap.size 5 ib _ 1 1 Tryd.underlying22 hb0 hb1 hb2 hb3 rfl (by omega) (.slice A L.length c) L.length (bcells L) rfl (hown.out.alloc _) (fun b => b = wr.heap.size) (some ⟨wr.heap.size, 0, none⟩) 1 1 [.int .u8 (((34 : Nat) : Int))] rfl (Rd.new wr 5 1 1 #[.int .u8 (((34 : Nat) : Int))] _ rfl rfl) (by intro u hu; simp at hu; subst hu; rfl) (by simp only [maxLen]; have := hL.out; omega) (by have := hL.out; omega) (by have := hB.out.size; simp; omega) ?_
                    intro v9 w9 hown9 hg9 hat9
                    have hB9 := hid ((hB.out.alloc hB.out.size (.cells #[.int .u8 (((34 : Nat) : Int))] 5)).grown hg9 (by have := hB.out.size; simp; omega) fun k hk => (hown.out.lt k hk).1)
                    obtain ⟨A9, c9, rfl, _⟩ := own_form hown9
                    rw [← bcells_snoc] at hown9
                    have hown9 := hid hown9
                    clear hg9 hat9)
                  refine ⟨⟨k + 2, A9, c9, L ++ [34], by simp, by first | rfl | (simp; done) | (simp; omega), by omega, by omega, by have := hL2.out; simp; omega, by simpa using hown9.out, hB9.out, hR2.out⟩, ?_⟩
                  simp [intOf]
                  omega
                · by_cases d92 : s.data[k + 1]'hl2 = 92
                  · have d1 : (s[k + 1]'hl2).toNat = 92 := byte_eq (hk := hl2) d92
                    have d2 : (((s[k + 1]'hl2).toNat : Int) != 34) = true := by rw [d1]; rfl
                    have d3 : (((s[k + 1]'hl2).toNat : Int) != 92) = false := by rw [d1]; rfl
                    have hR2 : Hid (scanL (s.data.toList.drop (k + 2)) (k + 2) (lb (L ++ [92])) = R) := hid (by rw [← hR.out, hst, if_pos (.inr d92), d92, show (92 : Nat) = (92 : UInt8).toNat from rfl, lb_snoc])
                    clear hst d34 d92
                    go_wp2_with fail
                    refine hpl.out.mono ?_
                    rintro e w2 ⟨rfl, hwq⟩
                    obtain rfl := hwq.symm
                    clear hpl
                    go_wp2_with (
                      at_builtin
                      refine wpList_append_rd _ rfl (.tmp 62) (.tmp 64) 22 rfl W.heap.size 5 ib _ 1 1 Tryd.underlying22 hb0 hb1 hb2 hb3 rfl (by omega) (.slice A L.length c) L.length (bcells L) rfl (hown.out.alloc _) (fun b => b = wr.heap.size) (some ⟨wr.heap.size, 0, none⟩) 1 1 [.int .u8 (((92 : Nat) : Int))] rfl (Rd.new wr 5 1 1 #[.int .u8 (((92 : Nat) : Int))] _ rfl rfl) (by intro u hu; simp at hu; subst hu; rfl) (by simp only [maxLen]; have := hL.out; omega) (by have := hL.out; omega) (by have := hB.out.size; simp; omega) ?_
                      intro v9 w9 hown9 hg9 hat9
                      have hB9 := hid ((hB.out.alloc hB.out.size (.cells #[.int .u8 (((92 : Nat) : Int))] 5)).grown hg9 (by have := hB.out.size; simp; omega) fun k hk => (hown.out.lt k hk).1)
                      obtain ⟨A9, c9, rfl, _⟩ := own_form hown9
                      rw [← bcells_snoc] at hown9
                      have hown9 := hid hown9
                      clear hg9 hat9)
                    refine ⟨⟨k + 2, A9, c9, L ++ [92], by simp, by first | rfl | (simp; done) | (simp; omega), by omega, by omega, by have := hL2.out; simp; omega, by simpa using hown9.out, hB9.out, hR2.out⟩, ?_⟩
                    simp [intOf]
                    omega
                  · have d1 : (s[k + 1]'hl2).toNat ≠ 34 := byte_ne (hk := hl2) d34
                    have d1' : (s[k + 1]'hl2).toNat ≠ 92 := byte_ne (hk := hl2) d92
                    have d2 : (((s[k + 1]'hl2).toNat : Int) != 34) = true := by simp; omega
                    have d3 : (((s[k + 1]'hl2).toNat : Int) != 92) = true := by simp; omega
                    have hfin : Hid (R = .bad 21 (k + 1)) := hid (by rw [← hR.out, hst, if_neg (fun e => e.elim d34 d92)])
                    clear hst d34 d92 d1 d1'
                    go_wp2_with fail
                    refine hpl.out.mono ?_
                    rintro e w2 ⟨rfl, hwq⟩
                    obtain rfl := hwq.symm
                    clear hpl
                    have hz := hid (hz.out.below hB.out)
                    obtain ⟨fz, hlt, z0, z1, z2⟩ := hz.out.facts
                    go_wp2_with fail
                    have hT := hz.out.set ⟨0, 0, ⟨#[]⟩⟩
                    dsimp only at hT
                    obtain ⟨-, -, z0, z1, z2⟩ := hT.facts
                    dsimp only at z0 z1 z2
                    refine bodyPost_ret (v := .tuple #[.agg #[.int .i64 (⟨0, 0, ⟨#[]⟩⟩ : Vl).k, .int .i64 (⟨0, 0, ⟨#[]⟩⟩ : Vl).n, .string (⟨0, 0, ⟨#[]⟩⟩ : Vl).s], .int .i64 21, .int .i64 ((k + 1 : Nat) : Int)]) (by simp [results, Tryd.results46, go_sem, z0, z1, z2]) rfl ⟨?_, hT.bel⟩
                    rw [hfin.out]; rfl
            · have b3 : (s[k]'hlt).toNat ≠ 92 := byte_ne (hk := hlt) h92
              have b4 : (((s[k]'hlt).toNat : Int) == 92) = false := by simp; omega
              have hR2 : Hid (scanL (s.data.toList.drop (k + 1)) (k + 1) (lb (L ++ [(s[k]'hlt).toNat])) = R) := hid (by rw [← hR.out, sc_one hlt h34 hok (by rw [lb_len]; exact h64) h92, show (s[k]'hlt).toNat = (s.data[k]'hlt).toNat from rfl, lb_snoc])
              clear h34 hok b1 h64 h92
              go_wp2_with fail
              refine hpl.out.mono ?_
              rintro e w2 ⟨rfl, hwq⟩
              obtain rfl := hwq.symm
              clear hpl
              go_wp2_with (
                at_builtin
                refine wpList_append_rd _ rfl (.tmp 62) (.tmp 64) 22 rfl W.heap.size 5 ib _ 1 1 Tryd.underlying22 hb0 hb1 hb2 hb3 rfl (by omega) (.slice A L.length c) L.length (bcells L) rfl (hown.out.alloc _) (fun b => b = wr.heap.size) (some ⟨wr.heap.size, 0, none⟩) 1 1 [.int .u8 (((s[k]'hlt).toNat : Nat))] rfl (Rd.new wr 5 1 1 #[.int .u8 (((s[k]'hlt).toNat : Nat))] _ rfl rfl) (by intro u hu; simp at hu; subst hu; rfl) (by simp only [maxLen]; have := hL.out; omega) (by have := hL.out; omega) (by have := hB.out.size; simp; omega) ?_
                intro v9 w9 hown9 hg9 hat9
                have hB9 := hid ((hB.out.alloc hB.out.size (.cells #[.int .u8 (((s[k]'hlt).toNat : Nat))] 5)).grown hg9 (by have := hB.out.size; simp; omega) fun k hk => (hown.out.lt k hk).1)
                obtain ⟨A9, c9, rfl, _⟩ := own_form hown9
                rw [← bcells_snoc] at hown9
                have hown9 := hid hown9
                clear hg9 hat9)
              refine ⟨⟨k + 1, A9, c9, L ++ [(s[k]'hlt).toNat], by simp, by first | rfl | (simp; done) | (simp; omega), by omega, by omega, by have := hL2.out; simp; omega, by simpa using hown9.out, hB9.out, hR2.out⟩, ?_⟩
              simp [intOf]
              omega
    · have i1 : ¬ ((k : Int) < (s.size : Int)) := by omega
      have hfin : Hid (R = .bad 3 s.size) := hid (by rw [← hR.out, sc_end (by omega)]; congr 1; omega)
      clear hlt
      have hz := hid (hz.out.below hB.out)
      obtain ⟨fz, hlt, z0, z1, z2⟩ := hz.out.facts
      go_wp2_with fail
      have hT := hz.out.set ⟨0, 0, ⟨#[]⟩⟩
      dsimp only at hT
      obtain ⟨-, -, z0, z1, z2⟩ := hT.facts
      dsimp only at z0 z1 z2
      refine bodyPost_ret (v := .tuple #[.agg #[.int .i64 (⟨0, 0, ⟨#[]⟩⟩ : Vl).k, .int .i64 (⟨0, 0, ⟨#[]⟩⟩ : Vl).n, .string (⟨0, 0, ⟨#[]⟩⟩ : Vl).s], .int .i64 3, .int .i64 (s.size : Nat)]) (by simp [results, Tryd.results46, go_sem, z0, z1, z2]) rfl ⟨?_, hT.bel⟩
      rw [hfin.out]; rfl

end Go.Proofs.YtbnpidmlcjofiaaDoor


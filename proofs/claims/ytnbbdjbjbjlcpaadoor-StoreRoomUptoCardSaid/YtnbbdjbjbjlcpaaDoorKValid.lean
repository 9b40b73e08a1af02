/- value: Valid, in the program and in the document. -/
import Derived.Test.YtnbbdjbjbjlcpaaDoorGBase
import Derived.Test.YtnbbdjbjbjlcpaaDoorKHelp
namespace Go.Proofs.YtnbbdjbjbjlcpaaDoor
open Go.RowKit
set_option linter.unusedVariables false
set_option linter.unusedSimpArgs false

theorem plain_any (c : Nat) (w : World) : Calls Tryd.prog 75 #[.int .u8 c] w fun e w' => e = .returned (.bool (decide (32 ≤ c) && decide (c ≤ 126))) ∧ w' = w := by
  by_cases h : 32 ≤ c
  · have t1 : decide ((32 : Int) ≤ (c : Int)) = true := decide_eq_true (by omega)
    have hc : Hid ((decide (32 ≤ c) && decide (c ≤ 126)) = decide ((c : Int) ≤ 126)) := hid (by rw [decide_eq_true h, Bool.true_and]; exact decide_eq_decide.2 (by omega))
    clear h
    go_enter Tryd.func75, Tryd.ntmps75
    go_wp2_with fail
    go_ret
    exact ⟨by rw [hc.out]; first | rfl | simp, rfl⟩
  · have t1 : decide ((32 : Int) ≤ (c : Int)) = false := decide_eq_false (by omega)
    have hc : Hid ((decide (32 ≤ c) && decide (c ≤ 126)) = false) := hid (by rw [decide_eq_false h, Bool.false_and])
    clear h
    go_enter Tryd.func75, Tryd.ntmps75
    go_wp2_with fail
    go_ret
    exact ⟨by rw [hc.out]; rfl, rfl⟩
theorem okT_at {s : ByteArray} {k : Nat} (h : k < s.size) (hb : okB (s.data[k]'h) = false) : okT s = false := by
  unfold okT
  rw [List.all_eq_false]
  exact ⟨s.data[k]'h, by rw [Array.mem_toList_iff]; exact Array.getElem_mem h, by rw [hb]; decide⟩
theorem okT_all {s : ByteArray} (h : ∀ k (hk : k < s.size), okB (s.data[k]'hk) = true) : okT s = true := by
  unfold okT
  rw [List.all_eq_true]
  intro c hc
  rw [Array.mem_toList_iff] at hc
  obtain ⟨k, hk, rfl⟩ := Array.mem_iff_getElem.1 hc
  exact h k hk
theorem mayB {F : FuncId} {s : ByteArray} {k : Nat} {w : World} {b : Bool} (hk : k < s.size) (hc : okB (s.data[k]'hk) = b) (h : Calls Tryd.prog F #[.int .u8 ((s[k]'hk).toNat : Nat)] w fun e w' => e = .returned (.bool (decide (32 ≤ (s[k]'hk).toNat) && decide ((s[k]'hk).toNat ≤ 126))) ∧ w' = w) :
    Calls Tryd.prog F #[.int .u8 ((s[k]'hk).toNat : Nat)] w fun e w' => e = .returned (.bool b) ∧ w' = w := by
  rwa [show (decide (32 ≤ (s[k]'hk).toNat) && decide ((s[k]'hk).toNat ≤ 126)) = b from hc] at h
set_option maxRecDepth 100000 in
theorem printable_any (s : ByteArray) (w : World) (hs : s.size ≤ 9223372036854775806) : Calls Tryd.prog 55 #[.string s] w fun e w' => e = .returned (.bool (okT s)) ∧ w' = w := by
  go_enter Tryd.func55, Tryd.ntmps55
  go_wp2_with fail
  go_loopw [6] (fun v wr => ∃ k : Nat, v = .int .i64 k ∧ k ≤ s.size ∧ wr = w ∧ ∀ j (hj : j < s.size), j < k → okB (s.data[j]'hj) = true) (fun v _ => s.size - (intOf v).toNat)
  case atStart => exact ⟨0, rfl, Nat.zero_le _, rfl, fun j _ h => by omega⟩
  case round =>
    obtain ⟨k, rfl, hk, rfl, ha0⟩ := hrel
    have ha := hid ha0
    clear ha0
    by_cases hlt : k < s.size
    · have i1 : (k : Int) < (s.size : Int) := by omega
      have hs9 : (s.size : Int) ≤ 9223372036854775806 := by omega
      cases hc : okB (s.data[k]'hlt) with
      | true =>
        have hpl := hid (mayB hlt hc (plain_any _ wr))
        have hc := hid hc
        go_wp2_with fail
        refine hpl.out.mono ?_
        rintro e w2 ⟨rfl, rfl⟩
        go_wp2_with fail
        go_roundw
        case rel => exact ⟨k + 1, by go_num, hlt, by first | rfl | trivial, fun j hj hjk => by
          by_cases e : j = k
          · subst e; exact hc.out
          · exact ha.out j hj (by omega)⟩
        case measure => simp [intOf]; omega
      | false =>
        have hpl := hid (mayB hlt hc (plain_any _ wr))
        have hfin : Hid (okT s = false) := hid (okT_at hlt hc)
        clear hc
        go_wp2_with fail
        refine hpl.out.mono ?_
        rintro e w2 ⟨rfl, rfl⟩
        go_wp2_with fail
        go_ret
        exact ⟨by rw [hfin.out]; rfl, by first | rfl | trivial⟩
    · obtain rfl : k = s.size := by omega
      have hfin : Hid (okT s = true) := hid (okT_all fun j hj => ha.out j hj hj)
      go_wp2_with fail
      go_ret
      exact ⟨by rw [hfin.out]; rfl, by first | rfl | trivial⟩
theorem run_eqVal (a b : Vl) (w : World) :
    (Op.equalIn 10000 50 (.agg #[.int .i64 a.k, .int .i64 a.n, .string a.s]) (.agg #[.int .i64 b.k, .int .i64 b.n, .string b.s])).run Tryd.prog w = .ok (decide (a = b)) w := by
  have ht : Tryd.prog.underlying 50 = some (.struct (Tryd.prog.fieldsOf 50)) := by kernel_rfl
  have hp : Tryd.prog.stoodInHeld 50 = false := by kernel_rfl
  rw [run_equalIn_agg w 9999 _ _ _ ht hp]
  have e : decide (a = b) = (a.k == b.k && (a.n == b.n && (a.s.toList == b.s.toList))) := by
    rw [bytes_dec, Bool.eq_iff_iff]
    simp only [decide_eq_true_eq, Bool.and_eq_true, beq_iff_eq]
    exact ⟨fun e => by subst e; simp, fun ⟨h1, h2, h3⟩ => by cases a; cases b; simp_all⟩
  rw [e]
  clear ht hp e
  simp only [Program.fieldsOf, Tryd.underlying50]
  go_simp
  by_cases h1 : a.k = b.k <;> by_cases h2 : a.n = b.n <;> by_cases h3 : a.s.toList = b.s.toList <;> simp [h1, h2, h3]
theorem guardVal : Tryd.prog.eqGuardType Tryd.prog.depth 50 = false := by kernel_rfl
theorem eql_zero (k n : Int) (s : ByteArray) (w : World) : (binOp .eql 50 (.agg #[.int .i64 k, .int .i64 n, .string s]) (.agg #[.int .i64 0, .int .i64 0, .string ⟨#[]⟩])).run Tryd.prog w = .ok (.bool (decide ((⟨k, n, s⟩ : Vl) = vl0))) w := by
  have h := run_eqVal ⟨k, n, s⟩ vl0 w
  have e : vl0 = ⟨0, 0, ⟨#[]⟩⟩ := rfl
  rw [e] at h ⊢
  simp only at h
  rw [run_eql_struct, h]
  simp only [Result.andThen]
theorem ok_none (n : Int) (s : ByteArray) : Vl.ok ⟨0, n, s⟩ = decide ((⟨0, n, s⟩ : Vl) = vl0) := by
  unfold Vl.ok vl0
  rw [if_pos rfl, Bool.eq_iff_iff]
  simp
theorem str_nil {s : ByteArray} (h : s ≠ ⟨#[]⟩) : (s.toList == (⟨#[]⟩ : ByteArray).toList) = false ∧ (s.toList == []) = false ∧ ¬ s.toList = [] := by
  have h1 : (s.toList == (⟨#[]⟩ : ByteArray).toList) = false := by rw [bytes_dec]; exact decide_eq_false h
  have h2 : (⟨#[]⟩ : ByteArray).toList = [] := by rw [ByteArray.toList_eq]
  rw [h2] at h1
  exact ⟨by rw [h2]; exact h1, h1, by simpa using h1⟩
set_option maxRecDepth 100000 in
theorem valid_any (v : Vl) (w : World) (hs : v.s.size ≤ 9223372036854775806) : Calls Tryd.prog 42 #[.agg #[.int .i64 v.k, .int .i64 v.n, .string v.s]] w fun e w' => e = .returned (.bool v.ok) ∧ Below w.heap.size w w' := by
  obtain ⟨k, n, s⟩ := v
  have hgd := guardVal
  simp only at hs
  have hB : Hid (Below w.heap.size w (w.alloc (.cells #[.int .i64 k, .int .i64 n, .string s] 50))) := hid ((Below.refl _ _).alloc (Nat.le_refl _) _)
  have kb := Blk.new w 50 #[.int .i64 k, .int .i64 n, .string s]
  have x0 := kb.cell 0
  have x1 := kb.cell 1
  have x2 := kb.cell 2
  simp only [List.getElem?_toArray, List.getElem?_cons_zero, List.getElem?_cons_succ] at x0 x1 x2
  have hs9 := hid hs
  clear kb hs
  by_cases hk0 : k = 0
  · subst hk0
    have hz := eql_zero 0 n s
    have hok := hid (ok_none n s)
    generalize decide ((⟨0, n, s⟩ : Vl) = vl0) = b at *
    go_enter Tryd.func42, Tryd.ntmps42
    go_upto_region 1 with fail
    generalize w.alloc (.cells #[.int .i64 0, .int .i64 n, .string s] 50) = w1 at *
    go_wp2_with fail
    go_ret
    exact ⟨by rw [hok.out]; rfl, hB.out⟩
  have n0 : (k == 0) = false := by simpa using hk0
  by_cases hk1 : k = 1
  · subst hk1
    by_cases he : s = ⟨#[]⟩
    · subst he
      have hok : Hid (Vl.ok ⟨1, n, ⟨#[]⟩⟩ = true) := hid rfl
      go_enter Tryd.func42, Tryd.ntmps42
      go_upto_region 1 with fail
      generalize w.alloc (.cells #[.int .i64 1, .int .i64 n, .string ⟨#[]⟩] 50) = w1 at *
      go_wp2_with fail
      go_ret
      exact ⟨by rw [hok.out]; rfl, hB.out⟩
    · have hok : Hid (Vl.ok ⟨1, n, s⟩ = false) := hid (by unfold Vl.ok; simp only; rw [if_neg (by decide)]; simp only [if_true]; exact decide_eq_false he)
      obtain ⟨e1, e2, e3⟩ := str_nil he
      go_enter Tryd.func42, Tryd.ntmps42
      go_upto_region 1 with fail
      generalize w.alloc (.cells #[.int .i64 1, .int .i64 n, .string s] 50) = w1 at *
      go_wp2_with fail
      go_ret
      exact ⟨by rw [hok.out]; rfl, hB.out⟩
  have n1 : (k == 1) = false := by simpa using hk1
  by_cases hk2 : k = 2
  · subst hk2
    have hok : Hid (Vl.ok ⟨2, n, s⟩ = (decide (n = 0) && (decide (s.size ≤ 64) && okT s))) := hid rfl
    clear hk0 hk1 n0 n1
    by_cases hn : n = 0
    · subst hn
      by_cases hz : s.size ≤ 64
      · have z1 : decide ((s.size : Int) ≤ 64) = true := decide_eq_true (by omega)
        have z2 : decide (s.size ≤ 64) = true := decide_eq_true hz
        have hpr := hid fun w => printable_any s w (by omega)
        have hf : Hid (Vl.ok ⟨2, 0, s⟩ = okT s) := hid (by rw [hok.out, z2]; simp)
        clear hz
        go_enter Tryd.func42, Tryd.ntmps42
        go_upto_region 1 with fail
        generalize w.alloc (.cells #[.int .i64 2, .int .i64 0, .string s] 50) = w1 at *
        go_wp2_with fail
        refine (hpr.out _).mono ?_
        rintro e w2 ⟨rfl, rfl⟩
        go_wp2_with fail
        go_ret
        exact ⟨by rw [hf.out]; rfl, hB.out⟩
      · have z1 : decide ((s.size : Int) ≤ 64) = false := decide_eq_false (by omega)
        have z2 : decide (s.size ≤ 64) = false := decide_eq_false hz
        have hf : Hid (Vl.ok ⟨2, 0, s⟩ = false) := hid (by rw [hok.out, z2]; simp)
        clear hz
        go_enter Tryd.func42, Tryd.ntmps42
        go_upto_region 1 with fail
        generalize w.alloc (.cells #[.int .i64 2, .int .i64 0, .string s] 50) = w1 at *
        go_wp2_with fail
        go_ret
        exact ⟨by rw [hf.out]; rfl, hB.out⟩
    · have n1 : (n == 0) = false := by simpa using hn
      have hf : Hid (Vl.ok ⟨2, n, s⟩ = false) := hid (by rw [hok.out, decide_eq_false hn]; rfl)
      clear hn
      go_enter Tryd.func42, Tryd.ntmps42
      go_upto_region 1 with fail
      generalize w.alloc (.cells #[.int .i64 2, .int .i64 n, .string s] 50) = w1 at *
      go_wp2_with fail
      go_ret
      exact ⟨by rw [hf.out]; rfl, hB.out⟩
  have n2 : (k == 2) = false := by simpa using hk2
  have hf : Hid (Vl.ok ⟨k, n, s⟩ = false) := hid (by unfold Vl.ok; simp only; rw [if_neg hk0, if_neg hk1, if_neg hk2])
  clear hk0 hk1 hk2
  go_enter Tryd.func42, Tryd.ntmps42
  go_upto_region 1 with fail
  generalize w.alloc (.cells #[.int .i64 k, .int .i64 n, .string s] 50) = w1 at *
  go_wp2_with fail
  go_ret
  exact ⟨by rw [hf.out]; rfl, hB.out⟩
end Go.Proofs.YtnbbdjbjbjlcpaaDoor

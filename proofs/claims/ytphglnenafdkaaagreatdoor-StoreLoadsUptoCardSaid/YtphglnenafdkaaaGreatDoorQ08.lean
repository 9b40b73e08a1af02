/- Texts of the proof, joined: VRNum, VRNum0, VRNum1, VNum0, VNum1, VRWord, VParse, VDig, VPrint. -/
import Derived.Test.YtphglnenafdkaaaGreatDoorQ07
import Derived.Lib.ItoaLen
import Derived.Test.YtphglnenafdkaaaGreatDoorQ05
import Derived.Laws.OwnMore
namespace Go.Proofs.YtphglnenafdkaaaGreatDoor
open Go.RowKit
set_option linter.unusedVariables false
set_option linter.unusedSimpArgs false

def dAt (s : ByteArray) (k : Nat) : Bool := if h : k < s.size then isD (s.data[k]'h) else false
theorem rdigit_any (s : ByteArray) (k : Nat) (w : World) : Calls Tryz.prog 107 #[.string s, .int .i64 (k : Nat)] w fun e w' => e = .returned (.bool (dAt s k)) ∧ w' = w := by
  by_cases hk : k < s.size
  · have hd : Hid (dAt s k = (decide (48 ≤ (s[k]'hk).toNat) && decide ((s[k]'hk).toNat ≤ 57))) := hid (by unfold dAt; rw [dif_pos hk]; rfl)
    have i1 : (k : Int) < (s.size : Int) := by omega
    by_cases h : 48 ≤ (s[k]'hk).toNat
    · have t1 : (48 : Int) ≤ ((s[k]'hk).toNat : Int) := by omega
      have hc : Hid (dAt s k = decide (((s[k]'hk).toNat : Int) ≤ 57)) := hid (by rw [hd.out, decide_eq_true h, Bool.true_and]; exact decide_eq_decide.2 (by omega))
      clear h hd
      go_enter Tryz.func107, Tryz.ntmps107
      go_wp2_with fail
      go_ret
      exact ⟨by rw [hc.out]; first | rfl | simp, rfl⟩
    · have t1 : ¬ ((48 : Int) ≤ ((s[k]'hk).toNat : Int)) := by omega
      have hc : Hid (dAt s k = false) := hid (by rw [hd.out, decide_eq_false h, Bool.false_and])
      clear h hd
      go_enter Tryz.func107, Tryz.ntmps107
      go_wp2_with fail
      go_ret
      exact ⟨by rw [hc.out]; rfl, rfl⟩
  · have i1 : ¬ ((k : Int) < (s.size : Int)) := by omega
    have hc : Hid (dAt s k = false) := hid (by unfold dAt; rw [dif_neg hk])
    clear hk
    go_enter Tryz.func107, Tryz.ntmps107
    go_wp2_with fail
    go_ret
    exact ⟨by rw [hc.out]; rfl, rfl⟩

set_option maxRecDepth 100000 in
set_option maxHeartbeats 4000000 in
theorem rvalue0_any (s : ByteArray) (w : World) (hs : s.size ≤ 140737488351232) (hd : ∀ c ∈ s.data.toList, isD c = true) : Calls Tryz.prog 144 #[.string s, .bool false] w fun e w' => e = .returned (if 9223372036854775807 < dval 0 s.data.toList then .tuple #[.int .i64 0, .bool false] else .tuple #[.int .i64 ((dval 0 s.data.toList : Int)), .bool true]) ∧ w' = w := by
  have hs9 : (s.size : Int) ≤ 140737488351232 := by omega
  have hs8 := hid hs
  have hdd := hid hd
  skip
  obtain ⟨R, hR⟩ : ∃ R, R = dval 0 s.data.toList := ⟨_, rfl⟩
  have hRh := hid hR
  rw [← hR]
  generalize hRV0 : (if 9223372036854775807 < R then Value.tuple #[.int .i64 0, .bool false] else .tuple #[.int .i64 ((R : Int)), .bool true]) = RV
  have hRV := hid hRV0
  clear hs hd hR hRV0
  go_enter Tryz.func144, Tryz.ntmps144
  go_wp2_with fail
  go_loopw [7, 8, 9] (fun v7 v8 _ wr => ∃ k n : Nat, v7 = .int .u64 (n : Nat) ∧ v8 = .int .i64 (k : Nat) ∧ k ≤ s.size ∧ wr = w ∧ n ≤ 9223372036854775807 ∧ n = dval 0 (s.data.toList.take k)) (fun _ v8 _ _ => s.size - (intOf v8).toNat)
  case atStart => exact ⟨0, 0, rfl, rfl, Nat.zero_le _, rfl, by decide, by simp [dval_nil]⟩
  case round =>
    obtain ⟨k, n, rfl, rfl, hks, rfl, hn0, hv0⟩ := hrel
    have hn := hid hn0; have hv := hid hv0
    clear hn0 hv0
    by_cases hlt : k < s.size
    · have i1 : (k : Int) < (s.size : Int) := by omega
      have hl : k < s.data.toList.length := by rw [Array.length_toList]; exact hlt
      have hdk := isD_iff.1 (hdd.out (s.data[k]'hlt) (by rw [Array.mem_toList_iff]; exact Array.getElem_mem hlt))
      have hst : Hid (dval 0 (s.data.toList.take (k + 1)) = 10 * n + ((s.data[k]'hlt).toNat - 48)) := hid (by
        rw [List.take_succ_eq_append_getElem hl, dval_snoc, ← hv.out, Array.getElem_toList])
      have hle := hid (dval_take s.data.toList (k + 1) 0)
      obtain ⟨D, hD⟩ : ∃ D, D = (s.data[k]'hlt).toNat - 48 := ⟨_, rfl⟩
      rw [← hD] at hst
      have hx : (s[k]'hlt).toNat = 48 + D := by show (s.data[k]'hlt).toNat = _; omega
      have hD9 : D ≤ 9 := by omega
      have g1 : (((s[k]'hlt).toNat : Int) - 48) % 256 = (D : Int) := by omega
      have g1' : ((D : Int) + 48 - 48) % 256 = (D : Int) := by omega
      clear hl hdk hD
      obtain ⟨M1, hM1⟩ : ∃ M1 : Nat, M1 = 9223372036854775807 - D := ⟨_, rfl⟩
      have g2 : (9223372036854775807 - (D : Int)) % 18446744073709551616 = (M1 : Int) := by omega
      obtain ⟨Q, hQ⟩ : ∃ Q : Nat, Q = M1 / 10 := ⟨_, rfl⟩
      have g3 : (M1 : Int) / 10 = (Q : Int) := by omega
      have hn1 := hn.out
      obtain ⟨T, hT⟩ : ∃ T : Nat, T = 10 * n := ⟨_, rfl⟩
      by_cases hov : Q < n
      · have i2 : (Q : Int) < (n : Int) := by omega
        have hfin : Hid (9223372036854775807 < R) := hid (by have h1 := hle.out; rw [hst.out, ← hRh.out] at h1; omega)
        clear hov hM1 hQ hn1 hT hx
        go_wp2_with fail
        exact bodyPost_ret (v := .tuple #[.int .i64 0, .bool false]) (by simp [results, Tryz.results144, go_sem]) rfl ⟨by rw [← hRV.out, if_pos hfin.out], rfl⟩
      · have i2 : ¬ ((Q : Int) < (n : Int)) := by omega
        obtain ⟨N', hN'⟩ : ∃ N' : Nat, N' = T + D := ⟨_, rfl⟩
        have hN1 := hid (show N' ≤ 9223372036854775807 by omega)
        have hNN := hid (show (10 * (n : Int) + (D : Int)) = (N' : Int) by omega)
        have g4 : (10 * (n : Int)) % 18446744073709551616 = (T : Int) := by omega
        have g5 : ((T : Int) + (D : Int)) % 18446744073709551616 = (N' : Int) := by omega
        have hN2 : Hid (N' = dval 0 (s.data.toList.take (k + 1))) := hid (by rw [hst.out]; omega)
        clear hov hM1 hQ hn1 hT hx hN'
        go_wp2_with fail
        refine ⟨⟨k + 1, N', by first | rfl | exact congrArg (Value.int .u64) hNN.out, by first | rfl | simp, hlt, by first | rfl | trivial, hN1.out, hN2.out⟩, ?_⟩
        simp [intOf]
        omega
    · have i1 : ¬ ((k : Int) < (s.size : Int)) := by omega
      have hfin : Hid (n = R) := hid (by rw [hv.out, hRh.out, List.take_of_length_le (by rw [Array.length_toList]; show s.size ≤ k; omega)])
      clear hlt
      have w1 : wrap64 (n : Int) = n := by have := hn.out; unfold wrap64; omega
      skip
      skip
      skip
      skip
      have w0 := w1
      have w2 := w1
      have w3 := w1
      go_wp2_with fail
      refine bodyPost_ret (v := .tuple #[.int .i64 ((n : Int)), .bool true]) (by simp [results, Tryz.results144, go_sem, w0, w1, w2, w3]) rfl ⟨by rw [← hRV.out, if_neg (by have := hn.out; rw [hfin.out] at this; omega), hfin.out], rfl⟩

set_option maxRecDepth 100000 in
set_option maxHeartbeats 4000000 in
theorem rvalue1_any (s : ByteArray) (w : World) (hs : s.size ≤ 140737488351232) (hd : ∀ c ∈ s.data.toList, isD c = true) (hp : 0 < dval 0 s.data.toList) : Calls Tryz.prog 144 #[.string s, .bool true] w fun e w' => e = .returned (if 9223372036854775808 < dval 0 s.data.toList then .tuple #[.int .i64 0, .bool false] else .tuple #[.int .i64 (-(dval 0 s.data.toList : Int)), .bool true]) ∧ w' = w := by
  have hs9 : (s.size : Int) ≤ 140737488351232 := by omega
  have hs8 := hid hs
  have hdd := hid hd
  have hpp := hid hp
  obtain ⟨R, hR⟩ : ∃ R, R = dval 0 s.data.toList := ⟨_, rfl⟩
  have hRh := hid hR
  rw [← hR]
  generalize hRV0 : (if 9223372036854775808 < R then Value.tuple #[.int .i64 0, .bool false] else .tuple #[.int .i64 (-(R : Int)), .bool true]) = RV
  have hRV := hid hRV0
  clear hs hd hR hRV0 hp
  go_enter Tryz.func144, Tryz.ntmps144
  go_wp2_with fail
  go_loopw [7, 8, 9] (fun v7 v8 _ wr => ∃ k n : Nat, v7 = .int .u64 (n : Nat) ∧ v8 = .int .i64 (k : Nat) ∧ k ≤ s.size ∧ wr = w ∧ n ≤ 9223372036854775808 ∧ n = dval 0 (s.data.toList.take k)) (fun _ v8 _ _ => s.size - (intOf v8).toNat)
  case atStart => exact ⟨0, 0, rfl, rfl, Nat.zero_le _, rfl, by decide, by simp [dval_nil]⟩
  case round =>
    obtain ⟨k, n, rfl, rfl, hks, rfl, hn0, hv0⟩ := hrel
    have hn := hid hn0; have hv := hid hv0
    clear hn0 hv0
    by_cases hlt : k < s.size
    · have i1 : (k : Int) < (s.size : Int) := by omega
      have hl : k < s.data.toList.length := by rw [Array.length_toList]; exact hlt
      have hdk := isD_iff.1 (hdd.out (s.data[k]'hlt) (by rw [Array.mem_toList_iff]; exact Array.getElem_mem hlt))
      have hst : Hid (dval 0 (s.data.toList.take (k + 1)) = 10 * n + ((s.data[k]'hlt).toNat - 48)) := hid (by
        rw [List.take_succ_eq_append_getElem hl, dval_snoc, ← hv.out, Array.getElem_toList])
      have hle := hid (dval_take s.data.toList (k + 1) 0)
      obtain ⟨D, hD⟩ : ∃ D, D = (s.data[k]'hlt).toNat - 48 := ⟨_, rfl⟩
      rw [← hD] at hst
      have hx : (s[k]'hlt).toNat = 48 + D := by show (s.data[k]'hlt).toNat = _; omega
      have hD9 : D ≤ 9 := by omega
      have g1 : (((s[k]'hlt).toNat : Int) - 48) % 256 = (D : Int) := by omega
      have g1' : ((D : Int) + 48 - 48) % 256 = (D : Int) := by omega
      clear hl hdk hD
      obtain ⟨M1, hM1⟩ : ∃ M1 : Nat, M1 = 9223372036854775808 - D := ⟨_, rfl⟩
      have g2 : (9223372036854775808 - (D : Int)) % 18446744073709551616 = (M1 : Int) := by omega
      obtain ⟨Q, hQ⟩ : ∃ Q : Nat, Q = M1 / 10 := ⟨_, rfl⟩
      have g3 : (M1 : Int) / 10 = (Q : Int) := by omega
      have hn1 := hn.out
      obtain ⟨T, hT⟩ : ∃ T : Nat, T = 10 * n := ⟨_, rfl⟩
      by_cases hov : Q < n
      · have i2 : (Q : Int) < (n : Int) := by omega
        have hfin : Hid (9223372036854775808 < R) := hid (by have h1 := hle.out; rw [hst.out, ← hRh.out] at h1; omega)
        clear hov hM1 hQ hn1 hT hx
        go_wp2_with fail
        exact bodyPost_ret (v := .tuple #[.int .i64 0, .bool false]) (by simp [results, Tryz.results144, go_sem]) rfl ⟨by rw [← hRV.out, if_pos hfin.out], rfl⟩
      · have i2 : ¬ ((Q : Int) < (n : Int)) := by omega
        obtain ⟨N', hN'⟩ : ∃ N' : Nat, N' = T + D := ⟨_, rfl⟩
        have hN1 := hid (show N' ≤ 9223372036854775808 by omega)
        have hNN := hid (show (10 * (n : Int) + (D : Int)) = (N' : Int) by omega)
        have g4 : (10 * (n : Int)) % 18446744073709551616 = (T : Int) := by omega
        have g5 : ((T : Int) + (D : Int)) % 18446744073709551616 = (N' : Int) := by omega
        have hN2 : Hid (N' = dval 0 (s.data.toList.take (k + 1))) := hid (by rw [hst.out]; omega)
        clear hov hM1 hQ hn1 hT hx hN'
        go_wp2_with fail
        refine ⟨⟨k + 1, N', by first | rfl | exact congrArg (Value.int .u64) hNN.out, by first | rfl | simp, hlt, by first | rfl | trivial, hN1.out, hN2.out⟩, ?_⟩
        simp [intOf]
        omega
    · have i1 : ¬ ((k : Int) < (s.size : Int)) := by omega
      have hfin : Hid (n = R) := hid (by rw [hv.out, hRh.out, List.take_of_length_le (by rw [Array.length_toList]; show s.size ≤ k; omega)])
      clear hlt
      obtain ⟨P, hP⟩ : ∃ P : Nat, P = n - 1 := ⟨_, rfl⟩
      have g6 : ((n : Int) - 1) % 18446744073709551616 = (P : Int) := by have := hpp.out; rw [← hRh.out, ← hfin.out] at this; have := hn.out; omega
      have w1 : wrap64 (P : Int) = P := by have := hn.out; unfold wrap64; omega
      have w2 : wrap64 (-(P : Int)) = -P := by have := hn.out; unfold wrap64; omega
      have w3 : wrap64 (-(P : Int) - 1) = -n := by have := hpp.out; rw [← hRh.out, ← hfin.out] at this; have := hn.out; unfold wrap64; omega
      have w0 : IntKind.u64.wrap ((n : Int) - 1) = (P : Int) := by simp [IntKind.wrap, IntKind.bits, IntKind.signed]; exact g6
      clear hP
      skip
      go_wp2_with fail
      refine bodyPost_ret (v := .tuple #[.int .i64 (-(n : Int)), .bool true]) (by simp [results, Tryz.results144, go_sem, w0, w1, w2, w3]) rfl ⟨by rw [← hRV.out, if_neg (by have := hn.out; rw [hfin.out] at this; omega), hfin.out], rfl⟩

section
variable {s : ByteArray}
theorem digs_cons {f : Nat} (hfr : fromL s.data.toList = f) (hf : f < s.size) (hd : isD (s.data[f]'hf) = true) : digs s.data.toList = s.data[f]'hf :: (s.data.toList.drop (f + 1)).takeWhile isD := by
  unfold digs
  rw [hfr, drop_some hf, List.takeWhile_cons, if_pos hd]
theorem num_neg0 (hh : decide (s.data.toList.head? = some 45) = true) (h1 : 1 < s.size) (h48 : s.data[1]'h1 = 48) : numL s.data.toList = .bad 21 1 := by
  have hfr : fromL s.data.toList = 1 := by unfold fromL; rw [if_pos (of_decide_eq_true hh)]
  have e := digs_cons hfr h1 (by rw [h48]; decide)
  unfold numL numE
  rw [hh, e, h48]
  simp
theorem num_pos0 (hh : decide (s.data.toList.head? = some 45) = false) (h0 : 0 < s.size) (h48 : s.data[0]'h0 = 48) (h1 : 1 < s.size) (hd : isD (s.data[1]'h1) = true) : numL s.data.toList = .bad 21 1 := by
  have hfr : fromL s.data.toList = 0 := by unfold fromL; rw [if_neg (of_decide_eq_false hh)]
  have e := digs_cons hfr h0 (by rw [h48]; decide)
  rw [drop_some h1, List.takeWhile_cons, if_pos hd] at e
  unfold numL numE
  rw [hh, e, h48]
  simp
theorem dAt_lt {k : Nat} (h : k < s.size) : dAt s k = isD (s.data[k]'h) := by unfold dAt; rw [dif_pos h]
theorem dAt_ge {k : Nat} (h : ¬ k < s.size) : dAt s k = false := by unfold dAt; rw [dif_neg h]
theorem ext_list (f k : Nat) : (s.extract f k).data.toList = (s.data.toList.drop f).take (k - f) := by
  rw [ByteArray.data_extract, Array.toList_extract, List.extract_eq_take_drop]
end
theorem rval0_dig {s : ByteArray} {k : Nat} (hD : Dig s false 0 k) (hs : s.size ≤ 140737488351232) (w : World) : Calls Tryz.prog 144 #[.string (s.extract 0 k), .bool false] w fun e w' => e = .returned (if 9223372036854775807 < dval 0 (digs s.data.toList) then .tuple #[.int .i64 0, .bool false] else .tuple #[.int .i64 (dval 0 (digs s.data.toList) : Int), .bool true]) ∧ w' = w := by
  have e : (s.extract 0 k).data.toList = digs s.data.toList := by rw [ext_list, hD.ds]
  have := rvalue0_any (s.extract 0 k) w (by rw [ByteArray.size_extract]; omega) (by rw [e]; exact hD.all)
  rw [e] at this
  exact this
theorem rval1_dig {s : ByteArray} {k : Nat} (hD : Dig s true 1 k) (hs : s.size ≤ 140737488351232) (hp : 0 < dval 0 (digs s.data.toList)) (w : World) : Calls Tryz.prog 144 #[.string (s.extract 1 k), .bool true] w fun e w' => e = .returned (if 9223372036854775808 < dval 0 (digs s.data.toList) then .tuple #[.int .i64 0, .bool false] else .tuple #[.int .i64 (-(dval 0 (digs s.data.toList) : Int)), .bool true]) ∧ w' = w := by
  have e : (s.extract 1 k).data.toList = digs s.data.toList := by rw [ext_list, hD.ds]
  have := rvalue1_any (s.extract 1 k) w (by rw [ByteArray.size_extract]; omega) (by rw [e]; exact hD.all) (by rw [e]; exact hp)
  rw [e] at this
  exact this

end Go.Proofs.YtphglnenafdkaaaGreatDoor

namespace Go.Proofs.YtphglnenafdkaaaGreatDoor
open Go.RowKit
set_option linter.unusedVariables false
set_option linter.unusedSimpArgs false

set_option maxRecDepth 100000 in
set_option maxHeartbeats 4000000 in
theorem rnum0_any (s : ByteArray) (w : World) (hs : s.size ≤ 140737488351232) (h0 : 0 < s.size) (hd0 : isD (s.data[0]) = true) : Calls Tryz.prog 108 #[.string s] w (PzOut (numL s.data.toList) w) := by
  have hz := hid (VZ.start w)
  have hs9 : (s.size : Int) ≤ 140737488351232 := by omega
  have hs8 := hid hs
  have i00 : (0 : Int) < (s.size : Int) := by omega
  have h45 : s.data[0]'h0 ≠ 45 := fun e => by rw [e] at hd0; exact absurd hd0 (by decide)
  have hhd : Hid (decide (s.data.toList.head? = some 45) = false) := hid (by
    have e : s.data.toList.head? = some (s.data[0]'h0) := by have := drop_some h0; rw [List.drop_zero] at this; rw [this]; rfl
    rw [e]
    exact decide_eq_false (fun e => h45 (Option.some.inj e)))
  have b0 : (s[0]'h0).toNat ≠ 45 := byte_ne (hk := h0) h45
  have b0' : (((s[0]'h0).toNat : Int) == 45) = false := by simp; omega
  skip
  clear hs h45 b0
  have hdg : Calls Tryz.prog 107 #[.string s, .int .i64 1] (w.alloc (.cells #[.int .i64 0, .int .i64 0, .string ⟨#[]⟩] 38)) fun e w' => e = .returned (.bool (dAt s 1)) ∧ w' = (w.alloc (.cells #[.int .i64 0, .int .i64 0, .string ⟨#[]⟩] 38)) := rdigit_any s 1 _
  have hdg := hid hdg
  go_enter Tryz.func108, Tryz.ntmps108
  go_upto_region 1 with fail
  generalize w.alloc (.cells #[.int .i64 0, .int .i64 0, .string ⟨#[]⟩] 38) = W at *
  obtain ⟨fz, hltz, z0, z1, z2⟩ := hz.out.facts
  have hf := h0
  have hdf := hid hd0
  clear hd0
  by_cases h48 : s.data[0]'h0 = 48
  · have b1 : (s[0]'h0).toNat = 48 := byte_eq (hk := h0) h48
    have b2 : (((s[0]'h0).toNat : Int) == 48) = true := by rw [b1]; rfl
    cases hd1 : dAt s 1 with
    | true =>
      have hpl := hdg
      rw [hd1] at hpl
      have hf1 : 1 < s.size := by
        rcases Nat.lt_or_ge 1 s.size with h | h
        · exact h
        · rw [dAt_ge (by omega)] at hd1; cases hd1
      have hfin : Hid (numL s.data.toList = .bad 21 1) := hid (num_pos0 hhd.out h0 h48 hf1 (by rw [dAt_lt hf1] at hd1; exact hd1))
      clear h48 hd1 hdg
      go_wp2_with fail
      refine hpl.out.mono ?_
      rintro e w2 ⟨rfl, hwq⟩
      obtain rfl := hwq.symm
      clear hpl
      go_wp2_with fail
      have hT := hz.out.set ⟨0, 0, ⟨#[]⟩⟩
      dsimp only at hT
      obtain ⟨-, -, z0, z1, z2⟩ := hT.facts
      dsimp only at z0 z1 z2
      refine bodyPost_ret (v := .tuple #[.agg #[.int .i64 (⟨0, 0, ⟨#[]⟩⟩ : Vl).k, .int .i64 (⟨0, 0, ⟨#[]⟩⟩ : Vl).n, .string (⟨0, 0, ⟨#[]⟩⟩ : Vl).s], .int .i64 21, .int .i64 1]) (by simp [results, Tryz.results108, go_sem, z0, z1, z2]) rfl ⟨?_, hT.bel⟩
      rw [hfin.out]; rfl
    | false =>
      have hpl := hdg
      rw [hd1] at hpl
      have h48a := hid (fun (k : Nat) (hks : k ≤ s.size) (ha : ∀ j (hj : j < s.size), 0 ≤ j → j < k → isD (s.data[j]'hj) = true) (hk : 0 < k) => (by
        rcases Nat.lt_or_ge 1 k with h | h
        · have := ha 1 (by omega) (by omega) h
          rw [dAt_lt (by omega), this] at hd1; cases hd1
        · omega : k = 0 + 1))
      clear h48 hd1 hdg b1
      go_wp2_with fail
      refine hpl.out.mono ?_
      rintro e w2 ⟨rfl, hwq⟩
      obtain rfl := hwq.symm
      clear hpl
      go_wp2_with fail
      go_loopw [6] (fun v wr => ∃ k : Nat, v = .int .i64 (k : Nat) ∧ 0 ≤ k ∧ k ≤ s.size ∧ wr = W ∧ ∀ j (hj : j < s.size), 0 ≤ j → j < k → isD (s.data[j]'hj) = true) (fun v _ => s.size - (intOf v).toNat)
      case atStart => exact ⟨0, rfl, Nat.le_refl _, by omega, rfl, fun j _ h1 h2 => by omega⟩
      case round =>
        obtain ⟨k, rfl, hfk, hks, hwr, ha0⟩ := hrel
        have ha := hid ha0
        clear ha0
        obtain rfl := hwr.symm
        have hpl0 := rdigit_any s k W
        by_cases hlt : k < s.size
        · have i1 : (k : Int) < (s.size : Int) := by omega
          rw [dAt_lt hlt] at hpl0
          cases hd : isD (s.data[k]'hlt) with
          | true =>
            rw [hd] at hpl0
            have hpl := hid hpl0
            have hd := hid hd
            clear hpl0
            go_wp2_with fail
            refine hpl.out.mono ?_
            rintro e w2 ⟨rfl, hwq⟩
            obtain rfl := hwq.symm
            clear hpl
            go_wp2_with fail
            refine ⟨⟨k + 1, by first | rfl | simp, by omega, hlt, by first | rfl | trivial, fun j hj h1 h2 => ?_⟩, by simp [intOf]; omega⟩
            by_cases e : j = k
            · subst e; exact hd.out
            · exact ha.out j hj h1 (by omega)
          | false =>
            rw [hd] at hpl0
            have hpl := hid hpl0
            have hD : Hid (Dig s false 0 k) := hid (Dig.mk' rfl hhd.out ⟨hfk, hks⟩ ha.out (fun h => hd))
            have hkf : 0 < k := by
              rcases Nat.lt_or_ge 0 k with h | h
              · exact h
              · exfalso
                obtain rfl : k = 0 := by omega
                rw [hdf.out] at hd; cases hd
            have h567 := hD.out.c567 hkf hf (fun e => ⟨rfl, h48a.out k hks ha.out hkf⟩)
            clear ha hd hpl0 h48a
            go_wp2_with fail
            refine hpl.out.mono ?_
            rintro e w2 ⟨rfl, hwq⟩
            obtain rfl := hwq.symm
            clear hpl
            have ik : (k : Int) ≤ (s.size : Int) := by omega
            have ik0 : (0 : Int) ≤ (k : Int) := by omega
            skip
            have hvv := rval0_dig hD.out hs8.out W
            by_cases hbig : Dig.Big s false
            · have hpr : Hid (Calls Tryz.prog 144 #[.string (s.extract 0 k), .bool false] W fun e w' => e = .returned (.tuple #[.int .i64 0, .bool false]) ∧ w' = W) := hid (by rw [if_pos (by unfold Dig.Big at hbig; simp at hbig; omega)] at hvv; exact hvv)
              have hfin : Hid (numL s.data.toList = .bad 22 0) := hid (h567.1 hbig)
              clear hbig h567 hvv
              go_wp2_with fail
              refine hpr.out.mono ?_
              rintro e w2 ⟨rfl, hwq⟩
              obtain rfl := hwq.symm
              clear hpr
              go_wp2_with fail
              have hT := hz.out.set ⟨0, 0, ⟨#[]⟩⟩
              dsimp only at hT
              obtain ⟨-, -, z0, z1, z2⟩ := hT.facts
              dsimp only at z0 z1 z2
              refine bodyPost_ret (v := .tuple #[.agg #[.int .i64 (⟨0, 0, ⟨#[]⟩⟩ : Vl).k, .int .i64 (⟨0, 0, ⟨#[]⟩⟩ : Vl).n, .string (⟨0, 0, ⟨#[]⟩⟩ : Vl).s], .int .i64 22, .int .i64 0]) (by simp [results, Tryz.results108, go_sem, z0, z1, z2]) rfl ⟨?_, hT.bel⟩
              rw [hfin.out]; rfl
            · have hpr : Hid (Calls Tryz.prog 144 #[.string (s.extract 0 k), .bool false] W fun e w' => e = .returned (.tuple #[.int .i64 (Dig.val s false), .bool true]) ∧ w' = W) := hid (by rw [if_neg (by unfold Dig.Big at hbig; simp at hbig; omega)] at hvv; exact hvv)
              have hfin : Hid (numL s.data.toList = .bad 4 k) := hid (h567.2.1 hbig (by omega))
              clear hbig h567 hvv
              generalize Dig.val s false = nv at *
              go_wp2_with fail
              refine hpr.out.mono ?_
              rintro e w2 ⟨rfl, hwq⟩
              obtain rfl := hwq.symm
              clear hpr
              go_wp2_with fail
              have hT := hz.out.set ⟨0, 0, ⟨#[]⟩⟩
              dsimp only at hT
              obtain ⟨-, -, z0, z1, z2⟩ := hT.facts
              dsimp only at z0 z1 z2
              refine bodyPost_ret (v := .tuple #[.agg #[.int .i64 (⟨0, 0, ⟨#[]⟩⟩ : Vl).k, .int .i64 (⟨0, 0, ⟨#[]⟩⟩ : Vl).n, .string (⟨0, 0, ⟨#[]⟩⟩ : Vl).s], .int .i64 4, .int .i64 (k : Nat)]) (by simp [results, Tryz.results108, go_sem, z0, z1, z2]) rfl ⟨?_, hT.bel⟩
              rw [hfin.out]; rfl
        · have i1 : ¬ ((k : Int) < (s.size : Int)) := by omega
          rw [dAt_ge hlt] at hpl0
          have hpl := hid hpl0
          have hD : Hid (Dig s false 0 k) := hid (Dig.mk' rfl hhd.out ⟨hfk, hks⟩ ha.out (fun h => absurd h hlt))
          have hkf : 0 < k := by omega
          have h567 := hD.out.c567 hkf hf (fun e => ⟨rfl, h48a.out k hks ha.out hkf⟩)
          clear ha hpl0 h48a
          go_wp2_with fail
          refine hpl.out.mono ?_
          rintro e w2 ⟨rfl, hwq⟩
          obtain rfl := hwq.symm
          clear hpl
          have ik : (k : Int) ≤ (s.size : Int) := by omega
          have ik0 : (0 : Int) ≤ (k : Int) := by omega
          skip
          have hvv := rval0_dig hD.out hs8.out W
          by_cases hbig : Dig.Big s false
          · have hpr : Hid (Calls Tryz.prog 144 #[.string (s.extract 0 k), .bool false] W fun e w' => e = .returned (.tuple #[.int .i64 0, .bool false]) ∧ w' = W) := hid (by rw [if_pos (by unfold Dig.Big at hbig; simp at hbig; omega)] at hvv; exact hvv)
            have hfin : Hid (numL s.data.toList = .bad 22 0) := hid (h567.1 hbig)
            clear hbig h567 hvv
            go_wp2_with fail
            refine hpr.out.mono ?_
            rintro e w2 ⟨rfl, hwq⟩
            obtain rfl := hwq.symm
            clear hpr
            go_wp2_with fail
            have hT := hz.out.set ⟨0, 0, ⟨#[]⟩⟩
            dsimp only at hT
            obtain ⟨-, -, z0, z1, z2⟩ := hT.facts
            dsimp only at z0 z1 z2
            refine bodyPost_ret (v := .tuple #[.agg #[.int .i64 (⟨0, 0, ⟨#[]⟩⟩ : Vl).k, .int .i64 (⟨0, 0, ⟨#[]⟩⟩ : Vl).n, .string (⟨0, 0, ⟨#[]⟩⟩ : Vl).s], .int .i64 22, .int .i64 0]) (by simp [results, Tryz.results108, go_sem, z0, z1, z2]) rfl ⟨?_, hT.bel⟩
            rw [hfin.out]; rfl
          · have hpr : Hid (Calls Tryz.prog 144 #[.string (s.extract 0 k), .bool false] W fun e w' => e = .returned (.tuple #[.int .i64 (Dig.val s false), .bool true]) ∧ w' = W) := hid (by rw [if_neg (by unfold Dig.Big at hbig; simp at hbig; omega)] at hvv; exact hvv)
            have hfin : Hid (numL s.data.toList = .good (intV (Dig.val s false))) := hid (h567.2.2 hbig (by omega))
            clear hbig h567 hvv
            generalize Dig.val s false = nv at *
            go_wp2_with fail
            refine hpr.out.mono ?_
            rintro e w2 ⟨rfl, hwq⟩
            obtain rfl := hwq.symm
            clear hpr
            go_wp2_with fail
            refine (rof_any _ _).mono ?_
            rintro e w3 ⟨rfl, hb30⟩
            have hz := hid (hz.out.below hb30)
            clear hb30
            obtain ⟨fz, hltz, z0, z1, z2⟩ := hz.out.facts
            go_wp2_with fail
            have hT := hz.out.set ⟨1, nv, ⟨#[]⟩⟩
            dsimp only at hT
            obtain ⟨-, -, z0, z1, z2⟩ := hT.facts
            dsimp only at z0 z1 z2
            refine bodyPost_ret (v := .tuple #[.agg #[.int .i64 (⟨1, nv, ⟨#[]⟩⟩ : Vl).k, .int .i64 (⟨1, nv, ⟨#[]⟩⟩ : Vl).n, .string (⟨1, nv, ⟨#[]⟩⟩ : Vl).s], .int .i64 0, .int .i64 0]) (by simp [results, Tryz.results108, go_sem, z0, z1, z2]) rfl ⟨?_, hT.bel⟩
            rw [hfin.out]; rfl
  · have b1 : (s[0]'h0).toNat ≠ 48 := byte_ne (hk := h0) h48
    have b2 : (((s[0]'h0).toNat : Int) == 48) = false := by simp; omega
    have hn48 := hid h48
    clear h48 hdg b1
    go_wp2_with fail
    go_loopw [6] (fun v wr => ∃ k : Nat, v = .int .i64 (k : Nat) ∧ 0 ≤ k ∧ k ≤ s.size ∧ wr = W ∧ ∀ j (hj : j < s.size), 0 ≤ j → j < k → isD (s.data[j]'hj) = true) (fun v _ => s.size - (intOf v).toNat)
    case atStart => exact ⟨0, rfl, Nat.le_refl _, by omega, rfl, fun j _ h1 h2 => by omega⟩
    case round =>
      obtain ⟨k, rfl, hfk, hks, hwr, ha0⟩ := hrel
      have ha := hid ha0
      clear ha0
      obtain rfl := hwr.symm
      have hpl0 := rdigit_any s k W
      by_cases hlt : k < s.size
      · have i1 : (k : Int) < (s.size : Int) := by omega
        rw [dAt_lt hlt] at hpl0
        cases hd : isD (s.data[k]'hlt) with
        | true =>
          rw [hd] at hpl0
          have hpl := hid hpl0
          have hd := hid hd
          clear hpl0
          go_wp2_with fail
          refine hpl.out.mono ?_
          rintro e w2 ⟨rfl, hwq⟩
          obtain rfl := hwq.symm
          clear hpl
          go_wp2_with fail
          refine ⟨⟨k + 1, by first | rfl | simp, by omega, hlt, by first | rfl | trivial, fun j hj h1 h2 => ?_⟩, by simp [intOf]; omega⟩
          by_cases e : j = k
          · subst e; exact hd.out
          · exact ha.out j hj h1 (by omega)
        | false =>
          rw [hd] at hpl0
          have hpl := hid hpl0
          have hD : Hid (Dig s false 0 k) := hid (Dig.mk' rfl hhd.out ⟨hfk, hks⟩ ha.out (fun h => hd))
          have hkf : 0 < k := by
            rcases Nat.lt_or_ge 0 k with h | h
            · exact h
            · exfalso
              obtain rfl : k = 0 := by omega
              rw [hdf.out] at hd; cases hd
          have h567 := hD.out.c567 hkf hf (fun e => absurd e hn48.out)
          clear ha hd hpl0
          go_wp2_with fail
          refine hpl.out.mono ?_
          rintro e w2 ⟨rfl, hwq⟩
          obtain rfl := hwq.symm
          clear hpl
          have ik : (k : Int) ≤ (s.size : Int) := by omega
          have ik0 : (0 : Int) ≤ (k : Int) := by omega
          skip
          have hvv := rval0_dig hD.out hs8.out W
          by_cases hbig : Dig.Big s false
          · have hpr : Hid (Calls Tryz.prog 144 #[.string (s.extract 0 k), .bool false] W fun e w' => e = .returned (.tuple #[.int .i64 0, .bool false]) ∧ w' = W) := hid (by rw [if_pos (by unfold Dig.Big at hbig; simp at hbig; omega)] at hvv; exact hvv)
            have hfin : Hid (numL s.data.toList = .bad 22 0) := hid (h567.1 hbig)
            clear hbig h567 hvv
            go_wp2_with fail
            refine hpr.out.mono ?_
            rintro e w2 ⟨rfl, hwq⟩
            obtain rfl := hwq.symm
            clear hpr
            go_wp2_with fail
            have hT := hz.out.set ⟨0, 0, ⟨#[]⟩⟩
            dsimp only at hT
            obtain ⟨-, -, z0, z1, z2⟩ := hT.facts
            dsimp only at z0 z1 z2
            refine bodyPost_ret (v := .tuple #[.agg #[.int .i64 (⟨0, 0, ⟨#[]⟩⟩ : Vl).k, .int .i64 (⟨0, 0, ⟨#[]⟩⟩ : Vl).n, .string (⟨0, 0, ⟨#[]⟩⟩ : Vl).s], .int .i64 22, .int .i64 0]) (by simp [results, Tryz.results108, go_sem, z0, z1, z2]) rfl ⟨?_, hT.bel⟩
            rw [hfin.out]; rfl
          · have hpr : Hid (Calls Tryz.prog 144 #[.string (s.extract 0 k), .bool false] W fun e w' => e = .returned (.tuple #[.int .i64 (Dig.val s false), .bool true]) ∧ w' = W) := hid (by rw [if_neg (by unfold Dig.Big at hbig; simp at hbig; omega)] at hvv; exact hvv)
            have hfin : Hid (numL s.data.toList = .bad 4 k) := hid (h567.2.1 hbig (by omega))
            clear hbig h567 hvv
            generalize Dig.val s false = nv at *
            go_wp2_with fail
            refine hpr.out.mono ?_
            rintro e w2 ⟨rfl, hwq⟩
            obtain rfl := hwq.symm
            clear hpr
            go_wp2_with fail
            have hT := hz.out.set ⟨0, 0, ⟨#[]⟩⟩
            dsimp only at hT
            obtain ⟨-, -, z0, z1, z2⟩ := hT.facts
            dsimp only at z0 z1 z2
            refine bodyPost_ret (v := .tuple #[.agg #[.int .i64 (⟨0, 0, ⟨#[]⟩⟩ : Vl).k, .int .i64 (⟨0, 0, ⟨#[]⟩⟩ : Vl).n, .string (⟨0, 0, ⟨#[]⟩⟩ : Vl).s], .int .i64 4, .int .i64 (k : Nat)]) (by simp [results, Tryz.results108, go_sem, z0, z1, z2]) rfl ⟨?_, hT.bel⟩
            rw [hfin.out]; rfl
      · have i1 : ¬ ((k : Int) < (s.size : Int)) := by omega
        rw [dAt_ge hlt] at hpl0
        have hpl := hid hpl0
        have hD : Hid (Dig s false 0 k) := hid (Dig.mk' rfl hhd.out ⟨hfk, hks⟩ ha.out (fun h => absurd h hlt))
        have hkf : 0 < k := by omega
        have h567 := hD.out.c567 hkf hf (fun e => absurd e hn48.out)
        clear ha hpl0
        go_wp2_with fail
        refine hpl.out.mono ?_
        rintro e w2 ⟨rfl, hwq⟩
        obtain rfl := hwq.symm
        clear hpl
        have ik : (k : Int) ≤ (s.size : Int) := by omega
        have ik0 : (0 : Int) ≤ (k : Int) := by omega
        skip
        have hvv := rval0_dig hD.out hs8.out W
        by_cases hbig : Dig.Big s false
        · have hpr : Hid (Calls Tryz.prog 144 #[.string (s.extract 0 k), .bool false] W fun e w' => e = .returned (.tuple #[.int .i64 0, .bool false]) ∧ w' = W) := hid (by rw [if_pos (by unfold Dig.Big at hbig; simp at hbig; omega)] at hvv; exact hvv)
          have hfin : Hid (numL s.data.toList = .bad 22 0) := hid (h567.1 hbig)
          clear hbig h567 hvv
          go_wp2_with fail
          refine hpr.out.mono ?_
          rintro e w2 ⟨rfl, hwq⟩
          obtain rfl := hwq.symm
          clear hpr
          go_wp2_with fail
          have hT := hz.out.set ⟨0, 0, ⟨#[]⟩⟩
          dsimp only at hT
          obtain ⟨-, -, z0, z1, z2⟩ := hT.facts
          dsimp only at z0 z1 z2
          refine bodyPost_ret (v := .tuple #[.agg #[.int .i64 (⟨0, 0, ⟨#[]⟩⟩ : Vl).k, .int .i64 (⟨0, 0, ⟨#[]⟩⟩ : Vl).n, .string (⟨0, 0, ⟨#[]⟩⟩ : Vl).s], .int .i64 22, .int .i64 0]) (by simp [results, Tryz.results108, go_sem, z0, z1, z2]) rfl ⟨?_, hT.bel⟩
          rw [hfin.out]; rfl
        · have hpr : Hid (Calls Tryz.prog 144 #[.string (s.extract 0 k), .bool false] W fun e w' => e = .returned (.tuple #[.int .i64 (Dig.val s false), .bool true]) ∧ w' = W) := hid (by rw [if_neg (by unfold Dig.Big at hbig; simp at hbig; omega)] at hvv; exact hvv)
          have hfin : Hid (numL s.data.toList = .good (intV (Dig.val s false))) := hid (h567.2.2 hbig (by omega))
          clear hbig h567 hvv
          generalize Dig.val s false = nv at *
          go_wp2_with fail
          refine hpr.out.mono ?_
          rintro e w2 ⟨rfl, hwq⟩
          obtain rfl := hwq.symm
          clear hpr
          go_wp2_with fail
          refine (rof_any _ _).mono ?_
          rintro e w3 ⟨rfl, hb30⟩
          have hz := hid (hz.out.below hb30)
          clear hb30
          obtain ⟨fz, hltz, z0, z1, z2⟩ := hz.out.facts
          go_wp2_with fail
          have hT := hz.out.set ⟨1, nv, ⟨#[]⟩⟩
          dsimp only at hT
          obtain ⟨-, -, z0, z1, z2⟩ := hT.facts
          dsimp only at z0 z1 z2
          refine bodyPost_ret (v := .tuple #[.agg #[.int .i64 (⟨1, nv, ⟨#[]⟩⟩ : Vl).k, .int .i64 (⟨1, nv, ⟨#[]⟩⟩ : Vl).n, .string (⟨1, nv, ⟨#[]⟩⟩ : Vl).s], .int .i64 0, .int .i64 0]) (by simp [results, Tryz.results108, go_sem, z0, z1, z2]) rfl ⟨?_, hT.bel⟩
          rw [hfin.out]; rfl

end Go.Proofs.YtphglnenafdkaaaGreatDoor

namespace Go.Proofs.YtphglnenafdkaaaGreatDoor
open Go.RowKit
set_option linter.unusedVariables false
set_option linter.unusedSimpArgs false

set_option maxRecDepth 100000 in
set_option maxHeartbeats 4000000 in
theorem rnum1_any (s : ByteArray) (w : World) (hs : s.size ≤ 140737488351232) (h0 : 0 < s.size) (h45 : s.data[0] = 45) : Calls Tryz.prog 108 #[.string s] w (PzOut (numL s.data.toList) w) := by
  have hz := hid (VZ.start w)
  have hs9 : (s.size : Int) ≤ 140737488351232 := by omega
  have hs8 := hid hs
  have i00 : (0 : Int) < (s.size : Int) := by omega
  skip
  have hhd : Hid (decide (s.data.toList.head? = some 45) = true) := hid (by
    have e : s.data.toList.head? = some (s.data[0]'h0) := by have := drop_some h0; rw [List.drop_zero] at this; rw [this]; rfl
    rw [e]
    rw [h45]; rfl)
  have b0 : (s[0]'h0).toNat = 45 := byte_eq (hk := h0) h45
  have b0' : (((s[0]'h0).toNat : Int) == 45) = true := by rw [b0]; rfl
  have b0'' : (((s[0]'h0).toNat : Int) == 48) = false := by rw [b0]; rfl
  clear hs h45
  have hdg : Calls Tryz.prog 107 #[.string s, .int .i64 1] (w.alloc (.cells #[.int .i64 0, .int .i64 0, .string ⟨#[]⟩] 38)) fun e w' => e = .returned (.bool (dAt s 1)) ∧ w' = (w.alloc (.cells #[.int .i64 0, .int .i64 0, .string ⟨#[]⟩] 38)) := rdigit_any s 1 _
  have hdg := hid hdg
  go_enter Tryz.func108, Tryz.ntmps108
  go_upto_region 1 with fail
  generalize w.alloc (.cells #[.int .i64 0, .int .i64 0, .string ⟨#[]⟩] 38) = W at *
  obtain ⟨fz, hltz, z0, z1, z2⟩ := hz.out.facts
  by_cases hone : s.size = 1
  · have q1 : ((s.size : Int) == 1) = true := by rw [hone]; rfl
    have hD := Dig.mk' (s := s) (neg := true) (f := 1) (k := 1) rfl hhd.out ⟨by omega, by omega⟩ (fun j _ h1 h2 => by omega) (fun h => by omega)
    have hfin : Hid (numL s.data.toList = .bad 3 1) := hid (hD.c1 rfl hone.symm)
    clear hD hone
    go_wp2_with fail
    have hT := hz.out.set ⟨0, 0, ⟨#[]⟩⟩
    dsimp only at hT
    obtain ⟨-, -, z0, z1, z2⟩ := hT.facts
    dsimp only at z0 z1 z2
    refine bodyPost_ret (v := .tuple #[.agg #[.int .i64 (⟨0, 0, ⟨#[]⟩⟩ : Vl).k, .int .i64 (⟨0, 0, ⟨#[]⟩⟩ : Vl).n, .string (⟨0, 0, ⟨#[]⟩⟩ : Vl).s], .int .i64 3, .int .i64 1]) (by simp [results, Tryz.results108, go_sem, z0, z1, z2]) rfl ⟨?_, hT.bel⟩
    rw [hfin.out]; rfl
  · have q1 : ((s.size : Int) == 1) = false := by simp; omega
    have hf : 1 < s.size := by omega
    have hf' : (1 : Int) < (s.size : Int) := by omega
    have hdg := hdg.out
    rw [dAt_lt hf] at hdg
    clear hone
    cases hd1 : isD (s.data[1]'hf) with
    | false =>
      rw [hd1] at hdg
      have hpl := hid hdg
      have hD := Dig.mk' (s := s) (neg := true) (f := 1) (k := 1) rfl hhd.out ⟨by omega, by omega⟩ (fun j _ h1 h2 => by omega) (fun h => hd1)
      have hfin : Hid (numL s.data.toList = .bad 21 1) := hid (hD.c2 rfl (by omega))
      clear hD hd1 hdg
      go_wp2_with fail
      refine hpl.out.mono ?_
      rintro e w2 ⟨rfl, hwq⟩
      obtain rfl := hwq.symm
      clear hpl
      go_wp2_with fail
      have hT := hz.out.set ⟨0, 0, ⟨#[]⟩⟩
      dsimp only at hT
      obtain ⟨-, -, z0, z1, z2⟩ := hT.facts
      dsimp only at z0 z1 z2
      refine bodyPost_ret (v := .tuple #[.agg #[.int .i64 (⟨0, 0, ⟨#[]⟩⟩ : Vl).k, .int .i64 (⟨0, 0, ⟨#[]⟩⟩ : Vl).n, .string (⟨0, 0, ⟨#[]⟩⟩ : Vl).s], .int .i64 21, .int .i64 1]) (by simp [results, Tryz.results108, go_sem, z0, z1, z2]) rfl ⟨?_, hT.bel⟩
      rw [hfin.out]; rfl
    | true =>
      rw [hd1] at hdg
      have hpl := hid hdg
      have hdf := hid hd1
      clear hdg hd1
      by_cases h48 : s.data[1]'hf = 48
      · have b1 : (s[1]'hf).toNat = 48 := byte_eq (hk := hf) h48
        have b2 : (((s[1]'hf).toNat : Int) == 48) = true := by rw [b1]; rfl
        have hfin : Hid (numL s.data.toList = .bad 21 1) := hid (num_neg0 hhd.out hf h48)
        clear h48
        go_wp2_with fail
        refine hpl.out.mono ?_
        rintro e w2 ⟨rfl, hwq⟩
        obtain rfl := hwq.symm
        clear hpl
        go_wp2_with fail
        have hT := hz.out.set ⟨0, 0, ⟨#[]⟩⟩
        dsimp only at hT
        obtain ⟨-, -, z0, z1, z2⟩ := hT.facts
        dsimp only at z0 z1 z2
        refine bodyPost_ret (v := .tuple #[.agg #[.int .i64 (⟨0, 0, ⟨#[]⟩⟩ : Vl).k, .int .i64 (⟨0, 0, ⟨#[]⟩⟩ : Vl).n, .string (⟨0, 0, ⟨#[]⟩⟩ : Vl).s], .int .i64 21, .int .i64 1]) (by simp [results, Tryz.results108, go_sem, z0, z1, z2]) rfl ⟨?_, hT.bel⟩
        rw [hfin.out]; rfl
      · have b1 : (s[1]'hf).toNat ≠ 48 := byte_ne (hk := hf) h48
        have b2 : (((s[1]'hf).toNat : Int) == 48) = false := by simp; omega
        have hn48 := hid h48
        clear h48 b1
        go_wp2_with fail
        refine hpl.out.mono ?_
        rintro e w2 ⟨rfl, hwq⟩
        obtain rfl := hwq.symm
        clear hpl
        go_wp2_with fail
        go_loopw [6] (fun v wr => ∃ k : Nat, v = .int .i64 (k : Nat) ∧ 1 ≤ k ∧ k ≤ s.size ∧ wr = W ∧ ∀ j (hj : j < s.size), 1 ≤ j → j < k → isD (s.data[j]'hj) = true) (fun v _ => s.size - (intOf v).toNat)
        case atStart => exact ⟨1, rfl, Nat.le_refl _, by omega, rfl, fun j _ h1 h2 => by omega⟩
        case round =>
          obtain ⟨k, rfl, hfk, hks, hwr, ha0⟩ := hrel
          have ha := hid ha0
          clear ha0
          obtain rfl := hwr.symm
          have hpl0 := rdigit_any s k W
          by_cases hlt : k < s.size
          · have i1 : (k : Int) < (s.size : Int) := by omega
            rw [dAt_lt hlt] at hpl0
            cases hd : isD (s.data[k]'hlt) with
            | true =>
              rw [hd] at hpl0
              have hpl := hid hpl0
              have hd := hid hd
              clear hpl0
              go_wp2_with fail
              refine hpl.out.mono ?_
              rintro e w2 ⟨rfl, hwq⟩
              obtain rfl := hwq.symm
              clear hpl
              go_wp2_with fail
              refine ⟨⟨k + 1, by first | rfl | simp, by omega, hlt, by first | rfl | trivial, fun j hj h1 h2 => ?_⟩, by simp [intOf]; omega⟩
              by_cases e : j = k
              · subst e; exact hd.out
              · exact ha.out j hj h1 (by omega)
            | false =>
              rw [hd] at hpl0
              have hpl := hid hpl0
              have hD : Hid (Dig s true 1 k) := hid (Dig.mk' rfl hhd.out ⟨hfk, hks⟩ ha.out (fun h => hd))
              have hkf : 1 < k := by
                rcases Nat.lt_or_ge 1 k with h | h
                · exact h
                · exfalso
                  obtain rfl : k = 1 := by omega
                  rw [hdf.out] at hd; cases hd
              have h567 := hD.out.c567 hkf hf (fun e => absurd e hn48.out)
              clear ha hd hpl0
              go_wp2_with fail
              refine hpl.out.mono ?_
              rintro e w2 ⟨rfl, hwq⟩
              obtain rfl := hwq.symm
              clear hpl
              have ik : (k : Int) ≤ (s.size : Int) := by omega
              have ik0 : (1 : Int) ≤ (k : Int) := by omega
              have hpos := dval_pos hD.out.all (hD.out.ne hkf) (by rw [hD.out.head hkf hf]; exact fun e => absurd (Option.some.inj e) hn48.out)
              have hvv := rval1_dig hD.out hs8.out hpos W
              by_cases hbig : Dig.Big s true
              · have hpr : Hid (Calls Tryz.prog 144 #[.string (s.extract 1 k), .bool true] W fun e w' => e = .returned (.tuple #[.int .i64 0, .bool false]) ∧ w' = W) := hid (by rw [if_pos (by unfold Dig.Big at hbig; simp at hbig; omega)] at hvv; exact hvv)
                have hfin : Hid (numL s.data.toList = .bad 22 0) := hid (h567.1 hbig)
                clear hbig h567 hvv hpos
                go_wp2_with fail
                refine hpr.out.mono ?_
                rintro e w2 ⟨rfl, hwq⟩
                obtain rfl := hwq.symm
                clear hpr
                go_wp2_with fail
                have hT := hz.out.set ⟨0, 0, ⟨#[]⟩⟩
                dsimp only at hT
                obtain ⟨-, -, z0, z1, z2⟩ := hT.facts
                dsimp only at z0 z1 z2
                refine bodyPost_ret (v := .tuple #[.agg #[.int .i64 (⟨0, 0, ⟨#[]⟩⟩ : Vl).k, .int .i64 (⟨0, 0, ⟨#[]⟩⟩ : Vl).n, .string (⟨0, 0, ⟨#[]⟩⟩ : Vl).s], .int .i64 22, .int .i64 0]) (by simp [results, Tryz.results108, go_sem, z0, z1, z2]) rfl ⟨?_, hT.bel⟩
                rw [hfin.out]; rfl
              · have hpr : Hid (Calls Tryz.prog 144 #[.string (s.extract 1 k), .bool true] W fun e w' => e = .returned (.tuple #[.int .i64 (Dig.val s true), .bool true]) ∧ w' = W) := hid (by rw [if_neg (by unfold Dig.Big at hbig; simp at hbig; omega)] at hvv; exact hvv)
                have hfin : Hid (numL s.data.toList = .bad 4 k) := hid (h567.2.1 hbig (by omega))
                clear hbig h567 hvv hpos
                generalize Dig.val s true = nv at *
                go_wp2_with fail
                refine hpr.out.mono ?_
                rintro e w2 ⟨rfl, hwq⟩
                obtain rfl := hwq.symm
                clear hpr
                go_wp2_with fail
                have hT := hz.out.set ⟨0, 0, ⟨#[]⟩⟩
                dsimp only at hT
                obtain ⟨-, -, z0, z1, z2⟩ := hT.facts
                dsimp only at z0 z1 z2
                refine bodyPost_ret (v := .tuple #[.agg #[.int .i64 (⟨0, 0, ⟨#[]⟩⟩ : Vl).k, .int .i64 (⟨0, 0, ⟨#[]⟩⟩ : Vl).n, .string (⟨0, 0, ⟨#[]⟩⟩ : Vl).s], .int .i64 4, .int .i64 (k : Nat)]) (by simp [results, Tryz.results108, go_sem, z0, z1, z2]) rfl ⟨?_, hT.bel⟩
                rw [hfin.out]; rfl
          · have i1 : ¬ ((k : Int) < (s.size : Int)) := by omega
            rw [dAt_ge hlt] at hpl0
            have hpl := hid hpl0
            have hD : Hid (Dig s true 1 k) := hid (Dig.mk' rfl hhd.out ⟨hfk, hks⟩ ha.out (fun h => absurd h hlt))
            have hkf : 1 < k := by omega
            have h567 := hD.out.c567 hkf hf (fun e => absurd e hn48.out)
            clear ha hpl0
            go_wp2_with fail
            refine hpl.out.mono ?_
            rintro e w2 ⟨rfl, hwq⟩
            obtain rfl := hwq.symm
            clear hpl
            have ik : (k : Int) ≤ (s.size : Int) := by omega
            have ik0 : (1 : Int) ≤ (k : Int) := by omega
            have hpos := dval_pos hD.out.all (hD.out.ne hkf) (by rw [hD.out.head hkf hf]; exact fun e => absurd (Option.some.inj e) hn48.out)
            have hvv := rval1_dig hD.out hs8.out hpos W
            by_cases hbig : Dig.Big s true
            · have hpr : Hid (Calls Tryz.prog 144 #[.string (s.extract 1 k), .bool true] W fun e w' => e = .returned (.tuple #[.int .i64 0, .bool false]) ∧ w' = W) := hid (by rw [if_pos (by unfold Dig.Big at hbig; simp at hbig; omega)] at hvv; exact hvv)
              have hfin : Hid (numL s.data.toList = .bad 22 0) := hid (h567.1 hbig)
              clear hbig h567 hvv hpos
              go_wp2_with fail
              refine hpr.out.mono ?_
              rintro e w2 ⟨rfl, hwq⟩
              obtain rfl := hwq.symm
              clear hpr
              go_wp2_with fail
              have hT := hz.out.set ⟨0, 0, ⟨#[]⟩⟩
              dsimp only at hT
              obtain ⟨-, -, z0, z1, z2⟩ := hT.facts
              dsimp only at z0 z1 z2
              refine bodyPost_ret (v := .tuple #[.agg #[.int .i64 (⟨0, 0, ⟨#[]⟩⟩ : Vl).k, .int .i64 (⟨0, 0, ⟨#[]⟩⟩ : Vl).n, .string (⟨0, 0, ⟨#[]⟩⟩ : Vl).s], .int .i64 22, .int .i64 0]) (by simp [results, Tryz.results108, go_sem, z0, z1, z2]) rfl ⟨?_, hT.bel⟩
              rw [hfin.out]; rfl
            · have hpr : Hid (Calls Tryz.prog 144 #[.string (s.extract 1 k), .bool true] W fun e w' => e = .returned (.tuple #[.int .i64 (Dig.val s true), .bool true]) ∧ w' = W) := hid (by rw [if_neg (by unfold Dig.Big at hbig; simp at hbig; omega)] at hvv; exact hvv)
              have hfin : Hid (numL s.data.toList = .good (intV (Dig.val s true))) := hid (h567.2.2 hbig (by omega))
              clear hbig h567 hvv hpos
              generalize Dig.val s true = nv at *
              go_wp2_with fail
              refine hpr.out.mono ?_
              rintro e w2 ⟨rfl, hwq⟩
              obtain rfl := hwq.symm
              clear hpr
              go_wp2_with fail
              refine (rof_any _ _).mono ?_
              rintro e w3 ⟨rfl, hb30⟩
              have hz := hid (hz.out.below hb30)
              clear hb30
              obtain ⟨fz, hltz, z0, z1, z2⟩ := hz.out.facts
              go_wp2_with fail
              have hT := hz.out.set ⟨1, nv, ⟨#[]⟩⟩
              dsimp only at hT
              obtain ⟨-, -, z0, z1, z2⟩ := hT.facts
              dsimp only at z0 z1 z2
              refine bodyPost_ret (v := .tuple #[.agg #[.int .i64 (⟨1, nv, ⟨#[]⟩⟩ : Vl).k, .int .i64 (⟨1, nv, ⟨#[]⟩⟩ : Vl).n, .string (⟨1, nv, ⟨#[]⟩⟩ : Vl).s], .int .i64 0, .int .i64 0]) (by simp [results, Tryz.results108, go_sem, z0, z1, z2]) rfl ⟨?_, hT.bel⟩
              rw [hfin.out]; rfl

end Go.Proofs.YtphglnenafdkaaaGreatDoor

namespace Go.Proofs.YtphglnenafdkaaaGreatDoor
open Go.RowKit
set_option linter.unusedVariables false
set_option linter.unusedSimpArgs false

set_option maxRecDepth 100000 in
set_option maxHeartbeats 4000000 in
theorem parseNum0_any (s : ByteArray) (w : World) (hs : s.size ≤ 140737488351232) (h0 : 0 < s.size) (h45 : s.data[0]'h0 ≠ 45) (he : Env w) : Calls Tryz.prog 81 #[.string s] w (PzOut (numL s.data.toList) w) := by
  have hz := hid (VZ.start w)
  have he := hid (he.below (hz.out.bel))
  have hs9 : (s.size : Int) ≤ 140737488351232 := by omega
  have hs8 := hid hs
  have i00 : (0 : Int) < (s.size : Int) := by omega
  have hhd : Hid (decide (s.data.toList.head? = some 45) = false) := hid (by
    have e : s.data.toList.head? = some (s.data[0]'h0) := by have := drop_some h0; rw [List.drop_zero] at this; rw [this]; rfl
    rw [e]
    exact decide_eq_false (fun e => h45 (Option.some.inj e)))
  have b0 : (s[0]'h0).toNat ≠ 45 := byte_ne (hk := h0) h45
  have b0' : (((s[0]'h0).toNat : Int) == 45) = false := by simp; omega
  clear hs h45 b0
  go_enter Tryz.func81, Tryz.ntmps81
  go_upto_region 1 with fail
  generalize w.alloc (.cells #[.int .i64 0, .int .i64 0, .string ⟨#[]⟩] 38) = W at *
  obtain ⟨fz, hltz, z0, z1, z2⟩ := hz.out.facts
  go_wp2_with fail
  go_loopw [6] (fun v wr => ∃ k : Nat, v = .int .i64 k ∧ 0 ≤ k ∧ k ≤ s.size ∧ wr = W ∧ ∀ j (hj : j < s.size), 0 ≤ j → j < k → isD (s.data[j]'hj) = true) (fun v _ => s.size - (intOf v).toNat)
  case atStart => exact ⟨0, rfl, Nat.le_refl _, by omega, rfl, fun j _ h1 h2 => by omega⟩
  case round =>
    obtain ⟨k, rfl, hfk, hks, rfl, ha0⟩ := hrel
    have ha := hid ha0
    clear ha0
    by_cases hlt : k < s.size
    · have i1 : (k : Int) < (s.size : Int) := by omega
      cases hd : isD (s.data[k]'hlt) with
      | true =>
        have hpl : Hid (Calls Tryz.prog 102 #[.int .u8 ((s[k]'hlt).toNat : Nat)] wr fun e w' => e = .returned (.bool true) ∧ w' = wr) := hid (by have := digit_any (s.data[k]'hlt) wr; rw [hd] at this; exact this)
        have hd := hid hd
        go_wp2_with fail
        refine hpl.out.mono ?_
        rintro e w2 ⟨rfl, hwq⟩
        obtain rfl := hwq.symm
        clear hpl
        go_wp2_with fail
        refine ⟨⟨k + 1, by first | rfl | simp, by omega, hlt, by first | rfl | trivial, fun j hj h1 h2 => ?_⟩, by simp [intOf]; omega⟩
        by_cases e : j = k
        · subst e; exact hd.out
        · exact ha.out j hj h1 (by omega)
      | false =>
        have hpl : Hid (Calls Tryz.prog 102 #[.int .u8 ((s[k]'hlt).toNat : Nat)] wr fun e w' => e = .returned (.bool false) ∧ w' = wr) := hid (by have := digit_any (s.data[k]'hlt) wr; rw [hd] at this; exact this)
        have hD : Hid (Dig s false 0 k) := hid (Dig.mk' rfl hhd.out ⟨hfk, hks⟩ ha.out (fun h => hd))
        clear ha hd
        go_wp2_with fail
        refine hpl.out.mono ?_
        rintro e w2 ⟨rfl, hwq⟩
        obtain rfl := hwq.symm
        clear hpl
        by_cases hkf : k = 0
        · have hfin : Hid (numL s.data.toList = .bad 21 0) := hid (by rw [← hkf]; exact hD.out.c2 hkf (by omega))
          have q1 : ((0 : Int) == (s.size : Int)) = false := by simp; omega
          have q2 : ((k : Int) == 0) = true := by rw [hkf]; rfl
          have q3 : ((k : Int) == (s.size : Int)) = false := by simp; omega
          have q4 : (k : Int) = 0 := by omega
          clear hkf
          go_wp2_with fail
          have hT := hz.out.set ⟨0, 0, ⟨#[]⟩⟩
          dsimp only at hT
          obtain ⟨-, -, z0, z1, z2⟩ := hT.facts
          dsimp only at z0 z1 z2
          refine bodyPost_ret (v := .tuple #[.agg #[.int .i64 (⟨0, 0, ⟨#[]⟩⟩ : Vl).k, .int .i64 (⟨0, 0, ⟨#[]⟩⟩ : Vl).n, .string (⟨0, 0, ⟨#[]⟩⟩ : Vl).s], .int .i64 21, .int .i64 0]) (by simp [results, Tryz.results81, go_sem, z0, z1, z2]) rfl ⟨?_, hT.bel⟩
          rw [hfin.out]; rfl
        · have q2 : ((k : Int) == 0) = false := by simp; omega
          have hk1 := hid (show 0 < k by omega)
          have hf : 0 < s.size := by omega
          have hf' : (0 : Int) < (s.size : Int) := by omega
          by_cases h48 : s.data[0]'hf = 48
          · have b1 : (s[0]'hf).toNat = 48 := byte_eq (hk := hf) h48
            have b2 : (((s[0]'hf).toNat : Int) == 48) = true := by rw [b1]; rfl
            by_cases hk2 : 1 < k
            · have q5 : (1 : Int) < (k : Int) := by omega
              have hfin : Hid (numL s.data.toList = .bad 21 1) := hid (hD.out.c4 hk2 hf h48 rfl)
              clear h48 hkf hk2
              go_wp2_with fail
              have hT := hz.out.set ⟨0, 0, ⟨#[]⟩⟩
              dsimp only at hT
              obtain ⟨-, -, z0, z1, z2⟩ := hT.facts
              dsimp only at z0 z1 z2
              refine bodyPost_ret (v := .tuple #[.agg #[.int .i64 (⟨0, 0, ⟨#[]⟩⟩ : Vl).k, .int .i64 (⟨0, 0, ⟨#[]⟩⟩ : Vl).n, .string (⟨0, 0, ⟨#[]⟩⟩ : Vl).s], .int .i64 21, .int .i64 1]) (by simp [results, Tryz.results81, go_sem, z0, z1, z2]) rfl ⟨?_, hT.bel⟩
              rw [hfin.out]; rfl
            · have q5 : ¬ ((1 : Int) < (k : Int)) := by omega
              have h567 := hD.out.c567 hk1.out hf (fun _ => ⟨rfl, by omega⟩)
              clear h48 hkf hk2
              have hpa := hD.out.parse hk1.out
              have ik : (k : Int) ≤ (s.size : Int) := by omega
              have hes : (s.extract 0 k).size ≤ 140737488351232 := by rw [ByteArray.size_extract]; have := hs8.out; omega
              by_cases hbig : Dig.Big s false
              · have hpr := hid (parseI_rng _ hes (hpa.1 hbig) wr he.out)
                have hfin : Hid (numL s.data.toList = .bad 22 0) := hid (h567.1 hbig)
                clear hbig hpa h567 hes
                go_wp2_with fail
                refine hpr.out.mono ?_
                rintro e w2 ⟨n, N, rfl, hb20⟩
                have hz := hid (hz.out.below hb20)
                clear hb20 fz hltz z0 z1 z2 hpr
                obtain ⟨fz, hltz, z0, z1, z2⟩ := hz.out.facts
                go_wp2_with fail
                have hT := hz.out.set ⟨0, 0, ⟨#[]⟩⟩
                dsimp only at hT
                obtain ⟨-, -, z0, z1, z2⟩ := hT.facts
                dsimp only at z0 z1 z2
                refine bodyPost_ret (v := .tuple #[.agg #[.int .i64 (⟨0, 0, ⟨#[]⟩⟩ : Vl).k, .int .i64 (⟨0, 0, ⟨#[]⟩⟩ : Vl).n, .string (⟨0, 0, ⟨#[]⟩⟩ : Vl).s], .int .i64 22, .int .i64 0]) (by simp [results, Tryz.results81, go_sem, z0, z1, z2]) rfl ⟨?_, hT.bel⟩
                rw [hfin.out]; rfl
              · have hpr := hid (parseI_ok _ hes _ (hpa.2 hbig) wr)
                have hfin : Hid (numL s.data.toList = .bad 4 k) := hid (h567.2.1 hbig (by omega))
                clear hbig hpa h567 hes
                generalize Dig.val s false = nv at *
                go_wp2_with fail
                refine hpr.out.mono ?_
                rintro e w2 ⟨rfl, hb20⟩
                have hz := hid (hz.out.below hb20)
                clear hb20 fz hltz z0 z1 z2 hpr
                obtain ⟨fz, hltz, z0, z1, z2⟩ := hz.out.facts
                go_wp2_with fail
                have hT := hz.out.set ⟨0, 0, ⟨#[]⟩⟩
                dsimp only at hT
                obtain ⟨-, -, z0, z1, z2⟩ := hT.facts
                dsimp only at z0 z1 z2
                refine bodyPost_ret (v := .tuple #[.agg #[.int .i64 (⟨0, 0, ⟨#[]⟩⟩ : Vl).k, .int .i64 (⟨0, 0, ⟨#[]⟩⟩ : Vl).n, .string (⟨0, 0, ⟨#[]⟩⟩ : Vl).s], .int .i64 4, .int .i64 (k : Nat)]) (by simp [results, Tryz.results81, go_sem, z0, z1, z2]) rfl ⟨?_, hT.bel⟩
                rw [hfin.out]; rfl
          · have b1 : (s[0]'hf).toNat ≠ 48 := byte_ne (hk := hf) h48
            have b2 : (((s[0]'hf).toNat : Int) == 48) = false := by simp; omega
            have h567 := hD.out.c567 hk1.out hf (fun e => absurd e h48)
            clear h48 hkf b1
            have hpa := hD.out.parse hk1.out
            have ik : (k : Int) ≤ (s.size : Int) := by omega
            have hes : (s.extract 0 k).size ≤ 140737488351232 := by rw [ByteArray.size_extract]; have := hs8.out; omega
            by_cases hbig : Dig.Big s false
            · have hpr := hid (parseI_rng _ hes (hpa.1 hbig) wr he.out)
              have hfin : Hid (numL s.data.toList = .bad 22 0) := hid (h567.1 hbig)
              clear hbig hpa h567 hes
              go_wp2_with fail
              refine hpr.out.mono ?_
              rintro e w2 ⟨n, N, rfl, hb20⟩
              have hz := hid (hz.out.below hb20)
              clear hb20 fz hltz z0 z1 z2 hpr
              obtain ⟨fz, hltz, z0, z1, z2⟩ := hz.out.facts
              go_wp2_with fail
              have hT := hz.out.set ⟨0, 0, ⟨#[]⟩⟩
              dsimp only at hT
              obtain ⟨-, -, z0, z1, z2⟩ := hT.facts
              dsimp only at z0 z1 z2
              refine bodyPost_ret (v := .tuple #[.agg #[.int .i64 (⟨0, 0, ⟨#[]⟩⟩ : Vl).k, .int .i64 (⟨0, 0, ⟨#[]⟩⟩ : Vl).n, .string (⟨0, 0, ⟨#[]⟩⟩ : Vl).s], .int .i64 22, .int .i64 0]) (by simp [results, Tryz.results81, go_sem, z0, z1, z2]) rfl ⟨?_, hT.bel⟩
              rw [hfin.out]; rfl
            · have hpr := hid (parseI_ok _ hes _ (hpa.2 hbig) wr)
              have hfin : Hid (numL s.data.toList = .bad 4 k) := hid (h567.2.1 hbig (by omega))
              clear hbig hpa h567 hes
              generalize Dig.val s false = nv at *
              go_wp2_with fail
              refine hpr.out.mono ?_
              rintro e w2 ⟨rfl, hb20⟩
              have hz := hid (hz.out.below hb20)
              clear hb20 fz hltz z0 z1 z2 hpr
              obtain ⟨fz, hltz, z0, z1, z2⟩ := hz.out.facts
              go_wp2_with fail
              have hT := hz.out.set ⟨0, 0, ⟨#[]⟩⟩
              dsimp only at hT
              obtain ⟨-, -, z0, z1, z2⟩ := hT.facts
              dsimp only at z0 z1 z2
              refine bodyPost_ret (v := .tuple #[.agg #[.int .i64 (⟨0, 0, ⟨#[]⟩⟩ : Vl).k, .int .i64 (⟨0, 0, ⟨#[]⟩⟩ : Vl).n, .string (⟨0, 0, ⟨#[]⟩⟩ : Vl).s], .int .i64 4, .int .i64 (k : Nat)]) (by simp [results, Tryz.results81, go_sem, z0, z1, z2]) rfl ⟨?_, hT.bel⟩
              rw [hfin.out]; rfl
    · have i1 : ¬ ((k : Int) < (s.size : Int)) := by omega
      have hD : Hid (Dig s false 0 k) := hid (Dig.mk' rfl hhd.out ⟨hfk, hks⟩ ha.out (fun h => absurd h hlt))
      clear ha
      by_cases hkf : k = 0
      · exfalso; omega
      · have q2 : ((k : Int) == 0) = false := by simp; omega
        have hk1 := hid (show 0 < k by omega)
        have hf : 0 < s.size := by omega
        have hf' : (0 : Int) < (s.size : Int) := by omega
        by_cases h48 : s.data[0]'hf = 48
        · have b1 : (s[0]'hf).toNat = 48 := byte_eq (hk := hf) h48
          have b2 : (((s[0]'hf).toNat : Int) == 48) = true := by rw [b1]; rfl
          by_cases hk2 : 1 < k
          · have q5 : (1 : Int) < (k : Int) := by omega
            have hfin : Hid (numL s.data.toList = .bad 21 1) := hid (hD.out.c4 hk2 hf h48 rfl)
            clear h48 hkf hk2
            go_wp2_with fail
            have hT := hz.out.set ⟨0, 0, ⟨#[]⟩⟩
            dsimp only at hT
            obtain ⟨-, -, z0, z1, z2⟩ := hT.facts
            dsimp only at z0 z1 z2
            refine bodyPost_ret (v := .tuple #[.agg #[.int .i64 (⟨0, 0, ⟨#[]⟩⟩ : Vl).k, .int .i64 (⟨0, 0, ⟨#[]⟩⟩ : Vl).n, .string (⟨0, 0, ⟨#[]⟩⟩ : Vl).s], .int .i64 21, .int .i64 1]) (by simp [results, Tryz.results81, go_sem, z0, z1, z2]) rfl ⟨?_, hT.bel⟩
            rw [hfin.out]; rfl
          · have q5 : ¬ ((1 : Int) < (k : Int)) := by omega
            have h567 := hD.out.c567 hk1.out hf (fun _ => ⟨rfl, by omega⟩)
            clear h48 hkf hk2
            have hpa := hD.out.parse hk1.out
            have ik : (k : Int) ≤ (s.size : Int) := by omega
            have hes : (s.extract 0 k).size ≤ 140737488351232 := by rw [ByteArray.size_extract]; have := hs8.out; omega
            by_cases hbig : Dig.Big s false
            · have hpr := hid (parseI_rng _ hes (hpa.1 hbig) wr he.out)
              have hfin : Hid (numL s.data.toList = .bad 22 0) := hid (h567.1 hbig)
              clear hbig hpa h567 hes
              go_wp2_with fail
              refine hpr.out.mono ?_
              rintro e w2 ⟨n, N, rfl, hb20⟩
              have hz := hid (hz.out.below hb20)
              clear hb20 fz hltz z0 z1 z2 hpr
              obtain ⟨fz, hltz, z0, z1, z2⟩ := hz.out.facts
              go_wp2_with fail
              have hT := hz.out.set ⟨0, 0, ⟨#[]⟩⟩
              dsimp only at hT
              obtain ⟨-, -, z0, z1, z2⟩ := hT.facts
              dsimp only at z0 z1 z2
              refine bodyPost_ret (v := .tuple #[.agg #[.int .i64 (⟨0, 0, ⟨#[]⟩⟩ : Vl).k, .int .i64 (⟨0, 0, ⟨#[]⟩⟩ : Vl).n, .string (⟨0, 0, ⟨#[]⟩⟩ : Vl).s], .int .i64 22, .int .i64 0]) (by simp [results, Tryz.results81, go_sem, z0, z1, z2]) rfl ⟨?_, hT.bel⟩
              rw [hfin.out]; rfl
            · have hpr := hid (parseI_ok _ hes _ (hpa.2 hbig) wr)
              have hfin : Hid (numL s.data.toList = .good (intV (Dig.val s false))) := hid (h567.2.2 hbig (by omega))
              clear hbig hpa h567 hes
              generalize Dig.val s false = nv at *
              go_wp2_with fail
              refine hpr.out.mono ?_
              rintro e w2 ⟨rfl, hb20⟩
              have hz := hid (hz.out.below hb20)
              clear hb20 fz hltz z0 z1 z2 hpr
              go_wp2_with fail
              refine (vof_any _ _).mono ?_
              rintro e w3 ⟨rfl, hb30⟩
              have hz := hid (hz.out.below hb30)
              clear hb30
              obtain ⟨fz, hltz, z0, z1, z2⟩ := hz.out.facts
              go_wp2_with fail
              have hT := hz.out.set ⟨1, nv, ⟨#[]⟩⟩
              dsimp only at hT
              obtain ⟨-, -, z0, z1, z2⟩ := hT.facts
              dsimp only at z0 z1 z2
              refine bodyPost_ret (v := .tuple #[.agg #[.int .i64 (⟨1, nv, ⟨#[]⟩⟩ : Vl).k, .int .i64 (⟨1, nv, ⟨#[]⟩⟩ : Vl).n, .string (⟨1, nv, ⟨#[]⟩⟩ : Vl).s], .int .i64 0, .int .i64 0]) (by simp [results, Tryz.results81, go_sem, z0, z1, z2]) rfl ⟨?_, hT.bel⟩
              rw [hfin.out]; rfl
        · have b1 : (s[0]'hf).toNat ≠ 48 := byte_ne (hk := hf) h48
          have b2 : (((s[0]'hf).toNat : Int) == 48) = false := by simp; omega
          have h567 := hD.out.c567 hk1.out hf (fun e => absurd e h48)
          clear h48 hkf b1
          have hpa := hD.out.parse hk1.out
          have ik : (k : Int) ≤ (s.size : Int) := by omega
          have hes : (s.extract 0 k).size ≤ 140737488351232 := by rw [ByteArray.size_extract]; have := hs8.out; omega
          by_cases hbig : Dig.Big s false
          · have hpr := hid (parseI_rng _ hes (hpa.1 hbig) wr he.out)
            have hfin : Hid (numL s.data.toList = .bad 22 0) := hid (h567.1 hbig)
            clear hbig hpa h567 hes
            go_wp2_with fail
            refine hpr.out.mono ?_
            rintro e w2 ⟨n, N, rfl, hb20⟩
            have hz := hid (hz.out.below hb20)
            clear hb20 fz hltz z0 z1 z2 hpr
            obtain ⟨fz, hltz, z0, z1, z2⟩ := hz.out.facts
            go_wp2_with fail
            have hT := hz.out.set ⟨0, 0, ⟨#[]⟩⟩
            dsimp only at hT
            obtain ⟨-, -, z0, z1, z2⟩ := hT.facts
            dsimp only at z0 z1 z2
            refine bodyPost_ret (v := .tuple #[.agg #[.int .i64 (⟨0, 0, ⟨#[]⟩⟩ : Vl).k, .int .i64 (⟨0, 0, ⟨#[]⟩⟩ : Vl).n, .string (⟨0, 0, ⟨#[]⟩⟩ : Vl).s], .int .i64 22, .int .i64 0]) (by simp [results, Tryz.results81, go_sem, z0, z1, z2]) rfl ⟨?_, hT.bel⟩
            rw [hfin.out]; rfl
          · have hpr := hid (parseI_ok _ hes _ (hpa.2 hbig) wr)
            have hfin : Hid (numL s.data.toList = .good (intV (Dig.val s false))) := hid (h567.2.2 hbig (by omega))
            clear hbig hpa h567 hes
            generalize Dig.val s false = nv at *
            go_wp2_with fail
            refine hpr.out.mono ?_
            rintro e w2 ⟨rfl, hb20⟩
            have hz := hid (hz.out.below hb20)
            clear hb20 fz hltz z0 z1 z2 hpr
            go_wp2_with fail
            refine (vof_any _ _).mono ?_
            rintro e w3 ⟨rfl, hb30⟩
            have hz := hid (hz.out.below hb30)
            clear hb30
            obtain ⟨fz, hltz, z0, z1, z2⟩ := hz.out.facts
            go_wp2_with fail
            have hT := hz.out.set ⟨1, nv, ⟨#[]⟩⟩
            dsimp only at hT
            obtain ⟨-, -, z0, z1, z2⟩ := hT.facts
            dsimp only at z0 z1 z2
            refine bodyPost_ret (v := .tuple #[.agg #[.int .i64 (⟨1, nv, ⟨#[]⟩⟩ : Vl).k, .int .i64 (⟨1, nv, ⟨#[]⟩⟩ : Vl).n, .string (⟨1, nv, ⟨#[]⟩⟩ : Vl).s], .int .i64 0, .int .i64 0]) (by simp [results, Tryz.results81, go_sem, z0, z1, z2]) rfl ⟨?_, hT.bel⟩
            rw [hfin.out]; rfl

end Go.Proofs.YtphglnenafdkaaaGreatDoor

namespace Go.Proofs.YtphglnenafdkaaaGreatDoor
open Go.RowKit
set_option linter.unusedVariables false
set_option linter.unusedSimpArgs false

set_option maxRecDepth 100000 in
set_option maxHeartbeats 4000000 in
theorem parseNum1_any (s : ByteArray) (w : World) (hs : s.size ≤ 140737488351232) (h0 : 0 < s.size) (h45 : s.data[0]'h0 = 45) (he : Env w) : Calls Tryz.prog 81 #[.string s] w (PzOut (numL s.data.toList) w) := by
  have hz := hid (VZ.start w)
  have he := hid (he.below (hz.out.bel))
  have hs9 : (s.size : Int) ≤ 140737488351232 := by omega
  have hs8 := hid hs
  have i00 : (0 : Int) < (s.size : Int) := by omega
  have hhd : Hid (decide (s.data.toList.head? = some 45) = true) := hid (by
    have e : s.data.toList.head? = some (s.data[0]'h0) := by have := drop_some h0; rw [List.drop_zero] at this; rw [this]; rfl
    rw [e]
    rw [h45]; rfl)
  have b0 : (s[0]'h0).toNat = 45 := byte_eq (hk := h0) h45
  have b0' : (((s[0]'h0).toNat : Int) == 45) = true := by rw [b0]; rfl
  clear hs h45
  go_enter Tryz.func81, Tryz.ntmps81
  go_upto_region 1 with fail
  generalize w.alloc (.cells #[.int .i64 0, .int .i64 0, .string ⟨#[]⟩] 38) = W at *
  obtain ⟨fz, hltz, z0, z1, z2⟩ := hz.out.facts
  go_wp2_with fail
  go_loopw [6] (fun v wr => ∃ k : Nat, v = .int .i64 k ∧ 1 ≤ k ∧ k ≤ s.size ∧ wr = W ∧ ∀ j (hj : j < s.size), 1 ≤ j → j < k → isD (s.data[j]'hj) = true) (fun v _ => s.size - (intOf v).toNat)
  case atStart => exact ⟨1, rfl, Nat.le_refl _, by omega, rfl, fun j _ h1 h2 => by omega⟩
  case round =>
    obtain ⟨k, rfl, hfk, hks, rfl, ha0⟩ := hrel
    have ha := hid ha0
    clear ha0
    by_cases hlt : k < s.size
    · have i1 : (k : Int) < (s.size : Int) := by omega
      cases hd : isD (s.data[k]'hlt) with
      | true =>
        have hpl : Hid (Calls Tryz.prog 102 #[.int .u8 ((s[k]'hlt).toNat : Nat)] wr fun e w' => e = .returned (.bool true) ∧ w' = wr) := hid (by have := digit_any (s.data[k]'hlt) wr; rw [hd] at this; exact this)
        have hd := hid hd
        go_wp2_with fail
        refine hpl.out.mono ?_
        rintro e w2 ⟨rfl, hwq⟩
        obtain rfl := hwq.symm
        clear hpl
        go_wp2_with fail
        refine ⟨⟨k + 1, by first | rfl | simp, by omega, hlt, by first | rfl | trivial, fun j hj h1 h2 => ?_⟩, by simp [intOf]; omega⟩
        by_cases e : j = k
        · subst e; exact hd.out
        · exact ha.out j hj h1 (by omega)
      | false =>
        have hpl : Hid (Calls Tryz.prog 102 #[.int .u8 ((s[k]'hlt).toNat : Nat)] wr fun e w' => e = .returned (.bool false) ∧ w' = wr) := hid (by have := digit_any (s.data[k]'hlt) wr; rw [hd] at this; exact this)
        have hD : Hid (Dig s true 1 k) := hid (Dig.mk' rfl hhd.out ⟨hfk, hks⟩ ha.out (fun h => hd))
        clear ha hd
        go_wp2_with fail
        refine hpl.out.mono ?_
        rintro e w2 ⟨rfl, hwq⟩
        obtain rfl := hwq.symm
        clear hpl
        by_cases hkf : k = 1
        · have hfin : Hid (numL s.data.toList = .bad 21 1) := hid (by rw [← hkf]; exact hD.out.c2 hkf (by omega))
          have q1 : ((1 : Int) == (s.size : Int)) = false := by simp; omega
          have q2 : ((k : Int) == 1) = true := by rw [hkf]; rfl
          have q3 : ((k : Int) == (s.size : Int)) = false := by simp; omega
          have q4 : (k : Int) = 1 := by omega
          clear hkf
          go_wp2_with fail
          have hT := hz.out.set ⟨0, 0, ⟨#[]⟩⟩
          dsimp only at hT
          obtain ⟨-, -, z0, z1, z2⟩ := hT.facts
          dsimp only at z0 z1 z2
          refine bodyPost_ret (v := .tuple #[.agg #[.int .i64 (⟨0, 0, ⟨#[]⟩⟩ : Vl).k, .int .i64 (⟨0, 0, ⟨#[]⟩⟩ : Vl).n, .string (⟨0, 0, ⟨#[]⟩⟩ : Vl).s], .int .i64 21, .int .i64 1]) (by simp [results, Tryz.results81, go_sem, z0, z1, z2]) rfl ⟨?_, hT.bel⟩
          rw [hfin.out]; rfl
        · have q2 : ((k : Int) == 1) = false := by simp; omega
          have hk1 := hid (show 1 < k by omega)
          have hf : 1 < s.size := by omega
          have hf' : (1 : Int) < (s.size : Int) := by omega
          by_cases h48 : s.data[1]'hf = 48
          · have b1 : (s[1]'hf).toNat = 48 := byte_eq (hk := hf) h48
            have b2 : (((s[1]'hf).toNat : Int) == 48) = true := by rw [b1]; rfl
            have hfin : Hid (numL s.data.toList = .bad 21 1) := hid (hD.out.c3 hk1.out hf h48 rfl)
            clear h48 hkf
            go_wp2_with fail
            have hT := hz.out.set ⟨0, 0, ⟨#[]⟩⟩
            dsimp only at hT
            obtain ⟨-, -, z0, z1, z2⟩ := hT.facts
            dsimp only at z0 z1 z2
            refine bodyPost_ret (v := .tuple #[.agg #[.int .i64 (⟨0, 0, ⟨#[]⟩⟩ : Vl).k, .int .i64 (⟨0, 0, ⟨#[]⟩⟩ : Vl).n, .string (⟨0, 0, ⟨#[]⟩⟩ : Vl).s], .int .i64 21, .int .i64 1]) (by simp [results, Tryz.results81, go_sem, z0, z1, z2]) rfl ⟨?_, hT.bel⟩
            rw [hfin.out]; rfl
          · have b1 : (s[1]'hf).toNat ≠ 48 := byte_ne (hk := hf) h48
            have b2 : (((s[1]'hf).toNat : Int) == 48) = false := by simp; omega
            have h567 := hD.out.c567 hk1.out hf (fun e => absurd e h48)
            clear h48 hkf b1
            have hpa := hD.out.parse hk1.out
            have ik : (k : Int) ≤ (s.size : Int) := by omega
            have hes : (s.extract 0 k).size ≤ 140737488351232 := by rw [ByteArray.size_extract]; have := hs8.out; omega
            by_cases hbig : Dig.Big s true
            · have hpr := hid (parseI_rng _ hes (hpa.1 hbig) wr he.out)
              have hfin : Hid (numL s.data.toList = .bad 22 0) := hid (h567.1 hbig)
              clear hbig hpa h567 hes
              go_wp2_with fail
              refine hpr.out.mono ?_
              rintro e w2 ⟨n, N, rfl, hb20⟩
              have hz := hid (hz.out.below hb20)
              clear hb20 fz hltz z0 z1 z2 hpr
              obtain ⟨fz, hltz, z0, z1, z2⟩ := hz.out.facts
              go_wp2_with fail
              have hT := hz.out.set ⟨0, 0, ⟨#[]⟩⟩
              dsimp only at hT
              obtain ⟨-, -, z0, z1, z2⟩ := hT.facts
              dsimp only at z0 z1 z2
              refine bodyPost_ret (v := .tuple #[.agg #[.int .i64 (⟨0, 0, ⟨#[]⟩⟩ : Vl).k, .int .i64 (⟨0, 0, ⟨#[]⟩⟩ : Vl).n, .string (⟨0, 0, ⟨#[]⟩⟩ : Vl).s], .int .i64 22, .int .i64 0]) (by simp [results, Tryz.results81, go_sem, z0, z1, z2]) rfl ⟨?_, hT.bel⟩
              rw [hfin.out]; rfl
            · have hpr := hid (parseI_ok _ hes _ (hpa.2 hbig) wr)
              have hfin : Hid (numL s.data.toList = .bad 4 k) := hid (h567.2.1 hbig (by omega))
              clear hbig hpa h567 hes
              generalize Dig.val s true = nv at *
              go_wp2_with fail
              refine hpr.out.mono ?_
              rintro e w2 ⟨rfl, hb20⟩
              have hz := hid (hz.out.below hb20)
              clear hb20 fz hltz z0 z1 z2 hpr
              obtain ⟨fz, hltz, z0, z1, z2⟩ := hz.out.facts
              go_wp2_with fail
              have hT := hz.out.set ⟨0, 0, ⟨#[]⟩⟩
              dsimp only at hT
              obtain ⟨-, -, z0, z1, z2⟩ := hT.facts
              dsimp only at z0 z1 z2
              refine bodyPost_ret (v := .tuple #[.agg #[.int .i64 (⟨0, 0, ⟨#[]⟩⟩ : Vl).k, .int .i64 (⟨0, 0, ⟨#[]⟩⟩ : Vl).n, .string (⟨0, 0, ⟨#[]⟩⟩ : Vl).s], .int .i64 4, .int .i64 (k : Nat)]) (by simp [results, Tryz.results81, go_sem, z0, z1, z2]) rfl ⟨?_, hT.bel⟩
              rw [hfin.out]; rfl
    · have i1 : ¬ ((k : Int) < (s.size : Int)) := by omega
      have hD : Hid (Dig s true 1 k) := hid (Dig.mk' rfl hhd.out ⟨hfk, hks⟩ ha.out (fun h => absurd h hlt))
      clear ha
      by_cases hkf : k = 1
      · have hfin : Hid (numL s.data.toList = .bad 3 1) := hid (by rw [← hkf]; exact hD.out.c1 hkf (by omega))
        have q1 : ((1 : Int) == (s.size : Int)) = true := by rw [show (s.size : Int) = 1 by omega]; rfl
        have q2 : ((k : Int) == 1) = true := by rw [hkf]; rfl
        have q3 : ((k : Int) == (s.size : Int)) = true := by simp; omega
        have q4 : (k : Int) = 1 := by omega
        clear hkf
        go_wp2_with fail
        have hT := hz.out.set ⟨0, 0, ⟨#[]⟩⟩
        dsimp only at hT
        obtain ⟨-, -, z0, z1, z2⟩ := hT.facts
        dsimp only at z0 z1 z2
        refine bodyPost_ret (v := .tuple #[.agg #[.int .i64 (⟨0, 0, ⟨#[]⟩⟩ : Vl).k, .int .i64 (⟨0, 0, ⟨#[]⟩⟩ : Vl).n, .string (⟨0, 0, ⟨#[]⟩⟩ : Vl).s], .int .i64 3, .int .i64 1]) (by simp [results, Tryz.results81, go_sem, z0, z1, z2]) rfl ⟨?_, hT.bel⟩
        rw [hfin.out]; rfl
      · have q2 : ((k : Int) == 1) = false := by simp; omega
        have hk1 := hid (show 1 < k by omega)
        have hf : 1 < s.size := by omega
        have hf' : (1 : Int) < (s.size : Int) := by omega
        by_cases h48 : s.data[1]'hf = 48
        · have b1 : (s[1]'hf).toNat = 48 := byte_eq (hk := hf) h48
          have b2 : (((s[1]'hf).toNat : Int) == 48) = true := by rw [b1]; rfl
          have hfin : Hid (numL s.data.toList = .bad 21 1) := hid (hD.out.c3 hk1.out hf h48 rfl)
          clear h48 hkf
          go_wp2_with fail
          have hT := hz.out.set ⟨0, 0, ⟨#[]⟩⟩
          dsimp only at hT
          obtain ⟨-, -, z0, z1, z2⟩ := hT.facts
          dsimp only at z0 z1 z2
          refine bodyPost_ret (v := .tuple #[.agg #[.int .i64 (⟨0, 0, ⟨#[]⟩⟩ : Vl).k, .int .i64 (⟨0, 0, ⟨#[]⟩⟩ : Vl).n, .string (⟨0, 0, ⟨#[]⟩⟩ : Vl).s], .int .i64 21, .int .i64 1]) (by simp [results, Tryz.results81, go_sem, z0, z1, z2]) rfl ⟨?_, hT.bel⟩
          rw [hfin.out]; rfl
        · have b1 : (s[1]'hf).toNat ≠ 48 := byte_ne (hk := hf) h48
          have b2 : (((s[1]'hf).toNat : Int) == 48) = false := by simp; omega
          have h567 := hD.out.c567 hk1.out hf (fun e => absurd e h48)
          clear h48 hkf b1
          have hpa := hD.out.parse hk1.out
          have ik : (k : Int) ≤ (s.size : Int) := by omega
          have hes : (s.extract 0 k).size ≤ 140737488351232 := by rw [ByteArray.size_extract]; have := hs8.out; omega
          by_cases hbig : Dig.Big s true
          · have hpr := hid (parseI_rng _ hes (hpa.1 hbig) wr he.out)
            have hfin : Hid (numL s.data.toList = .bad 22 0) := hid (h567.1 hbig)
            clear hbig hpa h567 hes
            go_wp2_with fail
            refine hpr.out.mono ?_
            rintro e w2 ⟨n, N, rfl, hb20⟩
            have hz := hid (hz.out.below hb20)
            clear hb20 fz hltz z0 z1 z2 hpr
            obtain ⟨fz, hltz, z0, z1, z2⟩ := hz.out.facts
            go_wp2_with fail
            have hT := hz.out.set ⟨0, 0, ⟨#[]⟩⟩
            dsimp only at hT
            obtain ⟨-, -, z0, z1, z2⟩ := hT.facts
            dsimp only at z0 z1 z2
            refine bodyPost_ret (v := .tuple #[.agg #[.int .i64 (⟨0, 0, ⟨#[]⟩⟩ : Vl).k, .int .i64 (⟨0, 0, ⟨#[]⟩⟩ : Vl).n, .string (⟨0, 0, ⟨#[]⟩⟩ : Vl).s], .int .i64 22, .int .i64 0]) (by simp [results, Tryz.results81, go_sem, z0, z1, z2]) rfl ⟨?_, hT.bel⟩
            rw [hfin.out]; rfl
          · have hpr := hid (parseI_ok _ hes _ (hpa.2 hbig) wr)
            have hfin : Hid (numL s.data.toList = .good (intV (Dig.val s true))) := hid (h567.2.2 hbig (by omega))
            clear hbig hpa h567 hes
            generalize Dig.val s true = nv at *
            go_wp2_with fail
            refine hpr.out.mono ?_
            rintro e w2 ⟨rfl, hb20⟩
            have hz := hid (hz.out.below hb20)
            clear hb20 fz hltz z0 z1 z2 hpr
            go_wp2_with fail
            refine (vof_any _ _).mono ?_
            rintro e w3 ⟨rfl, hb30⟩
            have hz := hid (hz.out.below hb30)
            clear hb30
            obtain ⟨fz, hltz, z0, z1, z2⟩ := hz.out.facts
            go_wp2_with fail
            have hT := hz.out.set ⟨1, nv, ⟨#[]⟩⟩
            dsimp only at hT
            obtain ⟨-, -, z0, z1, z2⟩ := hT.facts
            dsimp only at z0 z1 z2
            refine bodyPost_ret (v := .tuple #[.agg #[.int .i64 (⟨1, nv, ⟨#[]⟩⟩ : Vl).k, .int .i64 (⟨1, nv, ⟨#[]⟩⟩ : Vl).n, .string (⟨1, nv, ⟨#[]⟩⟩ : Vl).s], .int .i64 0, .int .i64 0]) (by simp [results, Tryz.results81, go_sem, z0, z1, z2]) rfl ⟨?_, hT.bel⟩
            rw [hfin.out]; rfl

end Go.Proofs.YtphglnenafdkaaaGreatDoor

namespace Go.Proofs.YtphglnenafdkaaaGreatDoor
open Go.RowKit
set_option linter.unusedVariables false
set_option linter.unusedSimpArgs false

theorem ba_one {s : ByteArray} {j : Nat} (h : j < s.size) (out : List UInt8) : ((⟨out.toArray⟩ : ByteArray) ++ s.extract j (j + 1)) = ⟨(out ++ [s.data[j]'h]).toArray⟩ := by
  apply ByteArray.ext
  rw [ByteArray.data_append, ByteArray.data_extract]
  apply Array.ext'
  have h' : j < s.data.toList.length := by rw [Array.length_toList]; exact h
  rw [Array.toList_append, Array.toList_extract, List.extract_eq_take_drop, List.drop_eq_getElem_cons h', Array.getElem_toList]
  simp
set_option maxRecDepth 100000 in
set_option maxHeartbeats 4000000 in
theorem rwordL_any (s : ByteArray) (w : World) (hs : s.size ≤ 140737488351232) (h1s : 1 ≤ s.size) : Calls Tryz.prog 106 #[.string s] w (PzOut (scanL (s.data.toList.drop 1) 1 []) w) := by
  generalize hRR0 : scanL (s.data.toList.drop 1) 1 [] = R
  have hRR := hid hRR0
  clear hRR0
  have hz := hid (VZ.start w)
  have hs9 : (s.size : Int) ≤ 140737488351232 := by omega
  have hs8 := hid hs
  clear hs
  go_enter Tryz.func106, Tryz.ntmps106
  go_upto_region 1 with fail
  generalize w.alloc (.cells #[.int .i64 0, .int .i64 0, .string ⟨#[]⟩] 38) = W at *
  obtain ⟨fz, hlt, z0, z1, z2⟩ := hz.out.facts
  go_wp2_with fail
  go_loopw [5, 6, 7] (fun v5 v6 _ wr => ∃ (k : Nat) (out : List UInt8), v5 = .string ⟨out.toArray⟩ ∧ v6 = .int .i64 k ∧ 1 ≤ k ∧ k ≤ s.size ∧ out.length ≤ 64 ∧ VZ w wr vl0 ∧ scanL (s.data.toList.drop k) k out = R) (fun _ v6 _ _ => s.size - (intOf v6).toNat)
  case atStart => exact ⟨1, [], rfl, rfl, Nat.le_refl _, h1s, by decide, hz.out, hRR.out⟩
  case round =>
    clear fz hlt z0 z1 z2 hz
    obtain ⟨k, out, rfl, rfl, hk1, hks, hL0, hz0, hR0⟩ := hrel
    have hL := hid hL0; have hz := hid hz0; have hR := hid hR0
    have hL9 : (out.length : Int) ≤ 64 := by omega
    clear hL0 hz0 hR0
    obtain ⟨fz, hltz, z0, z1, z2⟩ := hz.out.facts
    by_cases hlt : k < s.size
    · have i1 : (k : Int) < (s.size : Int) := by omega
      have i0 : ¬ ((s.size : Int) ≤ (k : Int)) := by omega
      by_cases h34 : s.data[k]'hlt = 34
      · have b1 : (s[k]'hlt).toNat = 34 := byte_eq (hk := hlt) h34
        have b2 : (((s[k]'hlt).toNat : Int) == 34) = true := by rw [b1]; rfl
        have hsc := sc_quote hlt h34 out
        by_cases hmo : k + 1 < s.size
        · have i2 : (k : Int) + 1 < (s.size : Int) := by omega
          have hfin : Hid (R = .bad 4 (k + 1)) := hid (by rw [← hR.out, hsc, if_pos hmo])
          clear hsc h34 hmo
          go_wp2_with fail
          have hT := hz.out.set ⟨0, 0, ⟨#[]⟩⟩
          dsimp only at hT
          obtain ⟨-, -, z0, z1, z2⟩ := hT.facts
          dsimp only at z0 z1 z2
          refine bodyPost_ret (v := .tuple #[.agg #[.int .i64 (⟨0, 0, ⟨#[]⟩⟩ : Vl).k, .int .i64 (⟨0, 0, ⟨#[]⟩⟩ : Vl).n, .string (⟨0, 0, ⟨#[]⟩⟩ : Vl).s], .int .i64 4, .int .i64 ((k + 1 : Nat) : Int)]) (by simp [results, Tryz.results106, go_sem, z0, z1, z2]) rfl ⟨?_, hT.bel⟩
          rw [hfin.out]; rfl
        · have i2 : ¬ ((k : Int) + 1 < (s.size : Int)) := by omega
          have hfin : Hid (R = .good (wordV out)) := hid (by rw [← hR.out, hsc, if_neg hmo])
          clear hsc h34 hmo
          go_wp2_with fail
          refine (rword2_any _ _).mono ?_
          rintro e w2 ⟨rfl, hb20⟩
          have hz := hid (hz.out.below hb20)
          clear hb20 fz hltz z0 z1 z2
          obtain ⟨fz, hlt, z0, z1, z2⟩ := hz.out.facts
          go_wp2_with fail
          have hT := hz.out.set ⟨2, 0, ⟨out.toArray⟩⟩
          dsimp only at hT
          obtain ⟨-, -, z0, z1, z2⟩ := hT.facts
          dsimp only at z0 z1 z2
          refine bodyPost_ret (v := .tuple #[.agg #[.int .i64 (⟨2, 0, ⟨out.toArray⟩⟩ : Vl).k, .int .i64 (⟨2, 0, ⟨out.toArray⟩⟩ : Vl).n, .string (⟨2, 0, ⟨out.toArray⟩⟩ : Vl).s], .int .i64 0, .int .i64 0]) (by simp [results, Tryz.results106, go_sem, z0, z1, z2]) rfl ⟨?_, hT.bel⟩
          rw [hfin.out]; rfl
      · have b1 : (s[k]'hlt).toNat ≠ 34 := byte_ne (hk := hlt) h34
        have b2 : (((s[k]'hlt).toNat : Int) == 34) = false := by simp; omega
        cases hok : okB (s.data[k]'hlt) with
        | false =>
          have hpl := hid (mayB hlt hok (rmay_any _ wr))
          have hfin : Hid (R = .bad 21 k) := hid (by rw [← hR.out, sc_bad hlt h34 hok])
          clear h34 hok b1
          go_wp2_with fail
          refine hpl.out.mono ?_
          rintro e w2 ⟨rfl, hwq⟩
          obtain rfl := hwq.symm
          clear hpl
          go_wp2_with fail
          have hT := hz.out.set ⟨0, 0, ⟨#[]⟩⟩
          dsimp only at hT
          obtain ⟨-, -, z0, z1, z2⟩ := hT.facts
          dsimp only at z0 z1 z2
          refine bodyPost_ret (v := .tuple #[.agg #[.int .i64 (⟨0, 0, ⟨#[]⟩⟩ : Vl).k, .int .i64 (⟨0, 0, ⟨#[]⟩⟩ : Vl).n, .string (⟨0, 0, ⟨#[]⟩⟩ : Vl).s], .int .i64 21, .int .i64 (k : Nat)]) (by simp [results, Tryz.results106, go_sem, z0, z1, z2]) rfl ⟨?_, hT.bel⟩
          rw [hfin.out]; rfl
        | true =>
          have hpl := hid (mayB hlt hok (rmay_any _ wr))
          by_cases h64 : out.length = 64
          · have l1 : ((out.length : Int) == 64) = true := by rw [h64]; rfl
            have hfin : Hid (R = .bad 1 k) := hid (by rw [← hR.out, sc_long hlt h34 hok h64])
            clear h34 hok b1 h64
            go_wp2_with fail
            refine hpl.out.mono ?_
            rintro e w2 ⟨rfl, hwq⟩
            obtain rfl := hwq.symm
            clear hpl
            go_wp2_with fail
            have hT := hz.out.set ⟨0, 0, ⟨#[]⟩⟩
            dsimp only at hT
            obtain ⟨-, -, z0, z1, z2⟩ := hT.facts
            dsimp only at z0 z1 z2
            refine bodyPost_ret (v := .tuple #[.agg #[.int .i64 (⟨0, 0, ⟨#[]⟩⟩ : Vl).k, .int .i64 (⟨0, 0, ⟨#[]⟩⟩ : Vl).n, .string (⟨0, 0, ⟨#[]⟩⟩ : Vl).s], .int .i64 1, .int .i64 (k : Nat)]) (by simp [results, Tryz.results106, go_sem, z0, z1, z2]) rfl ⟨?_, hT.bel⟩
            rw [hfin.out]; rfl
          · have l1 : ((out.length : Int) == 64) = false := by simp; omega
            have hL2 := hid (show out.length + 1 ≤ 64 by have := hL.out; omega)
            by_cases h92 : s.data[k]'hlt = 92
            · have b3 : (s[k]'hlt).toNat = 92 := byte_eq (hk := hlt) h92
              have hpl : Hid (Calls Tryz.prog 72 #[.int .u8 92] wr fun e w' => e = .returned (.bool true) ∧ w' = wr) := hid (by have h := mayB hlt hok (rmay_any _ wr); rw [b3] at h; exact h)
              have b4 : (((s[k]'hlt).toNat : Int) == 92) = true := by rw [b3]; rfl
              by_cases hen : s.size = k + 1
              · have e1 : (s.size : Int) ≤ (k : Int) + 1 := by omega
                have hfin : Hid (R = .bad 3 s.size) := hid (by rw [← hR.out, sc_half hlt h64 h92 hen])
                clear h34 hok b1 h64 h92 hen
                go_wp2_with fail
                refine hpl.out.mono ?_
                rintro e w2 ⟨rfl, hwq⟩
                obtain rfl := hwq.symm
                clear hpl
                go_wp2_with fail
                have hT := hz.out.set ⟨0, 0, ⟨#[]⟩⟩
                dsimp only at hT
                obtain ⟨-, -, z0, z1, z2⟩ := hT.facts
                dsimp only at z0 z1 z2
                refine bodyPost_ret (v := .tuple #[.agg #[.int .i64 (⟨0, 0, ⟨#[]⟩⟩ : Vl).k, .int .i64 (⟨0, 0, ⟨#[]⟩⟩ : Vl).n, .string (⟨0, 0, ⟨#[]⟩⟩ : Vl).s], .int .i64 3, .int .i64 (s.size : Nat)]) (by simp [results, Tryz.results106, go_sem, z0, z1, z2]) rfl ⟨?_, hT.bel⟩
                rw [hfin.out]; rfl
              · have hl2 : k + 1 < s.size := by omega
                have i2 : (k : Int) + 1 < (s.size : Int) := by omega
                have e1 : ¬ ((s.size : Int) ≤ (k : Int) + 1) := by omega
                have hst := sc_two hlt (out := out) h64 h92 hl2
                clear h34 hok b1 h64 h92 hen
                by_cases d34 : s.data[k + 1]'hl2 = 34
                · have d1 : (s[k + 1]'hl2).toNat = 34 := byte_eq (hk := hl2) d34
                  have d2 : (((s[k + 1]'hl2).toNat : Int) != 34) = false := by rw [d1]; rfl
                  have hR2 : Hid (scanL (s.data.toList.drop (k + 2)) (k + 2) (out ++ [s.data[k + 1]'hl2]) = R) := hid (by rw [← hR.out, hst, if_pos (.inl d34)])
                  clear hst d34
                  go_wp2_with fail
                  refine hpl.out.mono ?_
                  rintro e w2 ⟨rfl, hwq⟩
                  obtain rfl := hwq.symm
                  clear hpl
                  go_upto_region 17 with fail
                  go_wp2_with fail
                  refine ⟨⟨k + 2, out ++ [s.data[k + 1]'hl2], ?_, by first | rfl | (simp; done) | (simp; omega), by omega, by omega, by have := hL2.out; simp; omega, hz.out, hR2.out⟩, ?_⟩
                  · exact congrArg Value.string (ba_one _ out)
                  · simp [intOf]
                    omega
                · by_cases d92 : s.data[k + 1]'hl2 = 92
                  · have d1 : (s[k + 1]'hl2).toNat = 92 := byte_eq (hk := hl2) d92
                    have d2 : (((s[k + 1]'hl2).toNat : Int) != 34) = true := by rw [d1]; rfl
                    have d3 : (((s[k + 1]'hl2).toNat : Int) != 92) = false := by rw [d1]; rfl
                    have hR2 : Hid (scanL (s.data.toList.drop (k + 2)) (k + 2) (out ++ [s.data[k + 1]'hl2]) = R) := hid (by rw [← hR.out, hst, if_pos (.inr d92)])
                    clear hst d34 d92
                    go_wp2_with fail
                    refine hpl.out.mono ?_
                    rintro e w2 ⟨rfl, hwq⟩
                    obtain rfl := hwq.symm
                    clear hpl
                    go_upto_region 17 with fail
                    go_wp2_with fail
                    refine ⟨⟨k + 2, out ++ [s.data[k + 1]'hl2], ?_, by first | rfl | (simp; done) | (simp; omega), by omega, by omega, by have := hL2.out; simp; omega, hz.out, hR2.out⟩, ?_⟩
                    · exact congrArg Value.string (ba_one _ out)
                    · simp [intOf]
                      omega
                  · have d1 : (s[k + 1]'hl2).toNat ≠ 34 := byte_ne (hk := hl2) d34
                    have d1' : (s[k + 1]'hl2).toNat ≠ 92 := byte_ne (hk := hl2) d92
                    have d2 : (((s[k + 1]'hl2).toNat : Int) != 34) = true := by simp; omega
                    have d3 : (((s[k + 1]'hl2).toNat : Int) != 92) = true := by simp; omega
                    have hfin : Hid (R = .bad 21 (k + 1)) := hid (by rw [← hR.out, hst, if_neg (fun e => e.elim d34 d92)])
                    clear hst d34 d92 d1 d1'
                    go_wp2_with fail
                    refine hpl.out.mono ?_
                    rintro e w2 ⟨rfl, hwq⟩
                    obtain rfl := hwq.symm
                    clear hpl
                    go_wp2_with fail
                    have hT := hz.out.set ⟨0, 0, ⟨#[]⟩⟩
                    dsimp only at hT
                    obtain ⟨-, -, z0, z1, z2⟩ := hT.facts
                    dsimp only at z0 z1 z2
                    refine bodyPost_ret (v := .tuple #[.agg #[.int .i64 (⟨0, 0, ⟨#[]⟩⟩ : Vl).k, .int .i64 (⟨0, 0, ⟨#[]⟩⟩ : Vl).n, .string (⟨0, 0, ⟨#[]⟩⟩ : Vl).s], .int .i64 21, .int .i64 ((k + 1 : Nat) : Int)]) (by simp [results, Tryz.results106, go_sem, z0, z1, z2]) rfl ⟨?_, hT.bel⟩
                    rw [hfin.out]; rfl
            · have b3 : (s[k]'hlt).toNat ≠ 92 := byte_ne (hk := hlt) h92
              have b4 : (((s[k]'hlt).toNat : Int) == 92) = false := by simp; omega
              have hR2 : Hid (scanL (s.data.toList.drop (k + 1)) (k + 1) (out ++ [s.data[k]'hlt]) = R) := hid (by rw [← hR.out, sc_one hlt h34 hok h64 h92])
              clear h34 hok b1 h64 h92
              go_wp2_with fail
              refine hpl.out.mono ?_
              rintro e w2 ⟨rfl, hwq⟩
              obtain rfl := hwq.symm
              clear hpl
              go_upto_region 17 with fail
              go_wp2_with fail
              refine ⟨⟨k + 1, out ++ [s.data[k]'hlt], ?_, by first | rfl | (simp; done) | (simp; omega), by omega, by omega, by have := hL2.out; simp; omega, hz.out, hR2.out⟩, ?_⟩
              · exact congrArg Value.string (ba_one _ out)
              · simp [intOf]
                omega
    · have i1 : (s.size : Int) ≤ (k : Int) := by omega
      have hfin : Hid (R = .bad 3 s.size) := hid (by rw [← hR.out, sc_end (by omega)]; congr 1; omega)
      clear hlt
      go_wp2_with fail
      have hT := hz.out.set ⟨0, 0, ⟨#[]⟩⟩
      dsimp only at hT
      obtain ⟨-, -, z0, z1, z2⟩ := hT.facts
      dsimp only at z0 z1 z2
      refine bodyPost_ret (v := .tuple #[.agg #[.int .i64 (⟨0, 0, ⟨#[]⟩⟩ : Vl).k, .int .i64 (⟨0, 0, ⟨#[]⟩⟩ : Vl).n, .string (⟨0, 0, ⟨#[]⟩⟩ : Vl).s], .int .i64 3, .int .i64 (s.size : Nat)]) (by simp [results, Tryz.results106, go_sem, z0, z1, z2]) rfl ⟨?_, hT.bel⟩
      rw [hfin.out]; rfl

end Go.Proofs.YtphglnenafdkaaaGreatDoor

namespace Go.Proofs.YtphglnenafdkaaaGreatDoor
open Go.RowKit
set_option linter.unusedVariables false
set_option linter.unusedSimpArgs false

theorem size0 {s : ByteArray} (h : s.size = 0) : s = ⟨#[]⟩ := by
  apply ByteArray.ext
  exact Array.eq_empty_of_size_eq_zero h
theorem parse_c {s : ByteArray} (h0 : 0 < s.size) : parseL s.data.toList = if s.data[0]'h0 = 34 then scanL (s.data.toList.drop 1) 1 [] else if s.data[0]'h0 = 45 ∨ isD (s.data[0]'h0) = true then numL s.data.toList else wantL s.data.toList noneT 0 := by
  have e := drop_some h0
  rw [List.drop_zero] at e
  rw [e]
  simp only [parseL, List.drop_succ_cons, List.drop_zero]
theorem want_c {s : ByteArray} (h0 : 0 < s.size) (h : s.data[0]'h0 ≠ 110) : wantL s.data.toList noneT 0 = .bad 21 0 := by
  have e := drop_some h0
  rw [List.drop_zero] at e
  rw [e]
  unfold noneT
  simp only [wantL]
  rw [if_neg h]

set_option maxRecDepth 100000 in
set_option maxHeartbeats 4000000 in
theorem parse_any (s : ByteArray) (w : World) (hs : s.size ≤ 140737488351232) (he : Env w) : Calls Tryz.prog 59 #[.string s] w (PzOut (parseL s.data.toList) w) := by
  have hz := hid (VZ.start w)
  have he := hid (he.below (hz.out.bel))
  by_cases h00 : s.size = 0
  · obtain rfl := size0 h00
    clear h00 hs
    go_enter Tryz.func59, Tryz.ntmps59
    go_upto_region 1 with fail
    generalize w.alloc (.cells #[.int .i64 0, .int .i64 0, .string ⟨#[]⟩] 38) = W at *
    obtain ⟨fz, hltz, z0, z1, z2⟩ := hz.out.facts
    go_wp2_with fail
    have hT := hz.out.set ⟨0, 0, ⟨#[]⟩⟩
    try dsimp only at hT
    obtain ⟨-, -, z0, z1, z2⟩ := hT.facts
    try dsimp only at z0 z1 z2
    refine bodyPost_ret (v := .tuple #[.agg #[.int .i64 (⟨0, 0, ⟨#[]⟩⟩ : Vl).k, .int .i64 (⟨0, 0, ⟨#[]⟩⟩ : Vl).n, .string (⟨0, 0, ⟨#[]⟩⟩ : Vl).s], .int .i64 3, .int .i64 0]) (by simp [results, Tryz.results59, go_sem, z0, z1, z2]) rfl ⟨?_, hT.bel⟩
    rfl
  have h0 : 0 < s.size := by omega
  have hne : s ≠ ⟨#[]⟩ := fun e => h00 (by rw [e]; rfl)
  have hnil := str_nil hne
  have i00 : (0 : Int) < (s.size : Int) := by omega
  have hpc := parse_c h0
  clear h00 hne
  generalize hpp : parseL s.data.toList = p at *
  clear hpp
  by_cases h34 : s.data[0]'h0 = 34
  · rw [if_pos h34] at hpc
    have b0 : (s[0]'h0).toNat = 34 := byte_eq (hk := h0) h34
    have b1 : (((s[0]'h0).toNat : Int) == 34) = true := by rw [b0]; rfl
    have b3 : (((s[0]'h0).toNat : Int) == 110) = false := by rw [b0]; rfl
    skip
    have hk := hid (parseText_any s (w.alloc (.cells #[.int .i64 0, .int .i64 0, .string ⟨#[]⟩] 38)) hs h0)
    rw [← hpc] at hk
    clear hpc h34
    go_enter Tryz.func59, Tryz.ntmps59
    go_upto_region 1 with fail
    generalize w.alloc (.cells #[.int .i64 0, .int .i64 0, .string ⟨#[]⟩] 38) = W at *
    obtain ⟨fz, hltz, z0, z1, z2⟩ := hz.out.facts
    go_wp2_with fail
    refine hk.out.mono ?_
    rintro e w2 ⟨rfl, hb20⟩
    have hz := hid (hz.out.below hb20)
    clear hb20 fz hltz z0 z1 z2
    obtain ⟨fz, hltz, z0, z1, z2⟩ := hz.out.facts
    go_wp2_with fail
    have hT := hz.out.set p.v
    try dsimp only at hT
    obtain ⟨-, -, z0, z1, z2⟩ := hT.facts
    try dsimp only at z0 z1 z2
    refine bodyPost_ret (v := .tuple #[.agg #[.int .i64 (p.v : Vl).k, .int .i64 (p.v : Vl).n, .string (p.v : Vl).s], .int .i64 p.e, .int .i64 (p.at_ : Nat)]) (by simp [results, Tryz.results59, go_sem, z0, z1, z2]) rfl ⟨?_, hT.bel⟩
    rfl

  rw [if_neg h34] at hpc
  have c0 : (s[0]'h0).toNat ≠ 34 := byte_ne (hk := h0) h34
  have b1 : (((s[0]'h0).toNat : Int) == 34) = false := by simp; omega
  by_cases h45 : s.data[0]'h0 = 45
  · rw [if_pos (.inl h45)] at hpc
    have b0 : (s[0]'h0).toNat = 45 := byte_eq (hk := h0) h45
    have b2 : (((s[0]'h0).toNat : Int) == 45) = true := by rw [b0]; rfl
    have b3 : (((s[0]'h0).toNat : Int) == 110) = false := by rw [b0]; rfl
    clear c0
    skip
    have hk := hid (parseNum1_any s (w.alloc (.cells #[.int .i64 0, .int .i64 0, .string ⟨#[]⟩] 38)) hs h0 h45 he.out)
    rw [← hpc] at hk
    clear hpc h34 h45
    go_enter Tryz.func59, Tryz.ntmps59
    go_upto_region 1 with fail
    generalize w.alloc (.cells #[.int .i64 0, .int .i64 0, .string ⟨#[]⟩] 38) = W at *
    obtain ⟨fz, hltz, z0, z1, z2⟩ := hz.out.facts
    go_wp2_with fail
    refine hk.out.mono ?_
    rintro e w2 ⟨rfl, hb20⟩
    have hz := hid (hz.out.below hb20)
    clear hb20 fz hltz z0 z1 z2
    obtain ⟨fz, hltz, z0, z1, z2⟩ := hz.out.facts
    go_wp2_with fail
    have hT := hz.out.set p.v
    try dsimp only at hT
    obtain ⟨-, -, z0, z1, z2⟩ := hT.facts
    try dsimp only at z0 z1 z2
    refine bodyPost_ret (v := .tuple #[.agg #[.int .i64 (p.v : Vl).k, .int .i64 (p.v : Vl).n, .string (p.v : Vl).s], .int .i64 p.e, .int .i64 (p.at_ : Nat)]) (by simp [results, Tryz.results59, go_sem, z0, z1, z2]) rfl ⟨?_, hT.bel⟩
    rfl

  have c1 : (s[0]'h0).toNat ≠ 45 := byte_ne (hk := h0) h45
  have b2 : (((s[0]'h0).toNat : Int) == 45) = false := by simp; omega
  cases hd : isD (s.data[0]'h0) with
  | true =>
    rw [if_pos (.inr hd)] at hpc
    have hd2 := isD_iff.1 hd
    have c2 : (48 : Int) ≤ ((s[0]'h0).toNat : Int) := by show (48 : Int) ≤ ((s.data[0]'h0).toNat : Int); omega
    have c3 : ((s[0]'h0).toNat : Int) ≤ 57 := by show ((s.data[0]'h0).toNat : Int) ≤ 57; omega
    have b3 : (((s[0]'h0).toNat : Int) == 110) = false := by simp; omega
    clear c0 c1 hd2
    skip
    have hk := hid (parseNum0_any s (w.alloc (.cells #[.int .i64 0, .int .i64 0, .string ⟨#[]⟩] 38)) hs h0 h45 he.out)
    rw [← hpc] at hk
    clear hpc h34 h45 hd
    go_enter Tryz.func59, Tryz.ntmps59
    go_upto_region 1 with fail
    generalize w.alloc (.cells #[.int .i64 0, .int .i64 0, .string ⟨#[]⟩] 38) = W at *
    obtain ⟨fz, hltz, z0, z1, z2⟩ := hz.out.facts
    go_wp2_with fail
    refine hk.out.mono ?_
    rintro e w2 ⟨rfl, hb20⟩
    have hz := hid (hz.out.below hb20)
    clear hb20 fz hltz z0 z1 z2
    obtain ⟨fz, hltz, z0, z1, z2⟩ := hz.out.facts
    go_wp2_with fail
    have hT := hz.out.set p.v
    try dsimp only at hT
    obtain ⟨-, -, z0, z1, z2⟩ := hT.facts
    try dsimp only at z0 z1 z2
    refine bodyPost_ret (v := .tuple #[.agg #[.int .i64 (p.v : Vl).k, .int .i64 (p.v : Vl).n, .string (p.v : Vl).s], .int .i64 p.e, .int .i64 (p.at_ : Nat)]) (by simp [results, Tryz.results59, go_sem, z0, z1, z2]) rfl ⟨?_, hT.bel⟩
    rfl

  | false =>
    rw [if_neg (by rintro (h | h); exact h45 h; rw [hd] at h; cases h)] at hpc
    have hd2 : ¬ (48 ≤ (s.data[0]'h0).toNat ∧ (s.data[0]'h0).toNat ≤ 57) := fun h => by rw [isD_iff.2 h] at hd; cases hd
    by_cases h48 : 48 ≤ (s[0]'h0).toNat
    · have c2 : (48 : Int) ≤ ((s[0]'h0).toNat : Int) := by omega
      have c3 : ¬ (((s[0]'h0).toNat : Int) ≤ 57) := by
        have h : ¬ ((s.data[0]'h0).toNat ≤ 57) := fun h => hd2 ⟨h48, h⟩
        show ¬ (((s.data[0]'h0).toNat : Int) ≤ 57); omega
      clear c0 c1 hd2
      skip
      have hk := hid (parseNone_any s (w.alloc (.cells #[.int .i64 0, .int .i64 0, .string ⟨#[]⟩] 38)) hs)
      rw [← hpc] at hk
      clear hpc h34 h45 hd h48
      go_enter Tryz.func59, Tryz.ntmps59
      go_upto_region 1 with fail
      generalize w.alloc (.cells #[.int .i64 0, .int .i64 0, .string ⟨#[]⟩] 38) = W at *
      obtain ⟨fz, hltz, z0, z1, z2⟩ := hz.out.facts
      go_wp2_with fail
      refine hk.out.mono ?_
      rintro e w2 ⟨rfl, hb20⟩
      have hz := hid (hz.out.below hb20)
      clear hb20 fz hltz z0 z1 z2
      obtain ⟨fz, hltz, z0, z1, z2⟩ := hz.out.facts
      go_wp2_with fail
      have hT := hz.out.set p.v
      try dsimp only at hT
      obtain ⟨-, -, z0, z1, z2⟩ := hT.facts
      try dsimp only at z0 z1 z2
      refine bodyPost_ret (v := .tuple #[.agg #[.int .i64 (p.v : Vl).k, .int .i64 (p.v : Vl).n, .string (p.v : Vl).s], .int .i64 p.e, .int .i64 (p.at_ : Nat)]) (by simp [results, Tryz.results59, go_sem, z0, z1, z2]) rfl ⟨?_, hT.bel⟩
      rfl

    · have c2 : ¬ ((48 : Int) ≤ ((s[0]'h0).toNat : Int)) := by omega
      clear c0 c1 hd2
      skip
      have hk := hid (parseNone_any s (w.alloc (.cells #[.int .i64 0, .int .i64 0, .string ⟨#[]⟩] 38)) hs)
      rw [← hpc] at hk
      clear hpc h34 h45 hd h48
      go_enter Tryz.func59, Tryz.ntmps59
      go_upto_region 1 with fail
      generalize w.alloc (.cells #[.int .i64 0, .int .i64 0, .string ⟨#[]⟩] 38) = W at *
      obtain ⟨fz, hltz, z0, z1, z2⟩ := hz.out.facts
      go_wp2_with fail
      refine hk.out.mono ?_
      rintro e w2 ⟨rfl, hb20⟩
      have hz := hid (hz.out.below hb20)
      clear hb20 fz hltz z0 z1 z2
      obtain ⟨fz, hltz, z0, z1, z2⟩ := hz.out.facts
      go_wp2_with fail
      have hT := hz.out.set p.v
      try dsimp only at hT
      obtain ⟨-, -, z0, z1, z2⟩ := hT.facts
      try dsimp only at z0 z1 z2
      refine bodyPost_ret (v := .tuple #[.agg #[.int .i64 (p.v : Vl).k, .int .i64 (p.v : Vl).n, .string (p.v : Vl).s], .int .i64 p.e, .int .i64 (p.at_ : Nat)]) (by simp [results, Tryz.results59, go_sem, z0, z1, z2]) rfl ⟨?_, hT.bel⟩
      rfl


end Go.Proofs.YtphglnenafdkaaaGreatDoor

namespace Go.Proofs.YtphglnenafdkaaaGreatDoor
open Go.RowKit
set_option linter.unusedVariables false
set_option linter.unusedSimpArgs false

theorem enc_dig (d : Nat) (h : d < 10) : Utf8.encode (48 + (d : Int)) = ⟨#[UInt8.ofNat (48 + d)]⟩ := by
  have hv : Utf8.valid (48 + (d : Int)) = true := by unfold Utf8.valid; simp; omega
  unfold Utf8.encode
  rw [if_pos hv, if_pos (by omega)]
  congr 2
theorem conv_dig (d : Nat) (h : d < 10) (w : World) : (convert 21 9 (.int .i32 (48 + (d : Int)))).run Tryz.prog w = .ok (.string ⟨#[UInt8.ofNat (48 + d)]⟩) w := by
  rw [run_convert_int_string w _ _ .i32 _ (by rw [Tryz.underlying21]; rfl) Tryz.underlying9, enc_dig d h]
def pre (n : Nat) : List UInt8 := if n < 10 then [] else Lib.decDigits (n / 10)
theorem dec_pre (n : Nat) : Lib.decDigits n = pre n ++ [UInt8.ofNat (48 + n % 10)] := by
  rw [Lib.decDigits]
  unfold pre
  by_cases h : n < 10
  · rw [dif_pos h, if_pos h, Nat.mod_eq_of_lt h]; rfl
  · rw [dif_neg h, if_neg h]
theorem pre_step {n : Nat} (h : ¬ n < 10) (out : List UInt8) : pre n ++ out = pre (n / 10) ++ (UInt8.ofNat (48 + n / 10 % 10) :: out) := by
  have e := dec_pre (n / 10)
  conv => lhs; unfold pre
  rw [if_neg h, e, List.append_assoc]
  rfl
theorem digits_any (n : Int) (h0 : -9223372036854775808 ≤ n) (h1 : n ≤ 9223372036854775807) (w : World) (he : Env w) :
    Calls Tryz.prog 41 #[.int .i64 n] w fun e w' => e = .returned (.string ⟨(Lib.itoa n).toArray⟩) ∧ Below w.heap.size w w' := by
  have hk := hid (fmt_any n h0 h1 w he)
  clear h0 h1 he
  go_enter Tryz.func41, Tryz.ntmps41
  go_wp2_with fail
  refine hk.out.mono ?_
  rintro e w2 ⟨rfl, hb⟩
  go_wp2_with fail
  go_ret
  exact ⟨rfl, hb⟩
set_option maxRecDepth 100000 in
set_option maxHeartbeats 4000000 in
theorem rdigits_any (N : Nat) (hN : N < 18446744073709551616) (w : World) :
    Calls Tryz.prog 93 #[.int .u64 (N : Nat)] w fun e w' => e = .returned (.string ⟨(Lib.decDigits N).toArray⟩) ∧ w' = w := by
  have hlen : Hid ((Lib.decDigits N).length ≤ 20) := hid (by rw [Lib.decDigits_length]; exact Lib.nDigits_le20 N hN)
  have hNN := hid hN
  obtain ⟨D, hD⟩ : ∃ D, D = N % 10 := ⟨_, rfl⟩
  have hst : Hid (pre N ++ [UInt8.ofNat (48 + D)] = Lib.decDigits N) := hid (by rw [hD]; exact (dec_pre N).symm)
  have hD9 : (D : Int) ≤ 9 := by omega
  have hD0 : (0 : Int) ≤ (D : Int) := by omega
  have g1 : Int.tmod (N : Int) 10 = (D : Int) := by rw [Int.tmod_eq_emod_of_nonneg (by omega)]; omega
  have g2 : (N : Int) % 10 = (D : Int) := by omega
  have hcv := conv_dig D (by omega)
  have hec := enc_dig D (by omega)
  obtain ⟨c, hc⟩ : ∃ c : UInt8, c = UInt8.ofNat (48 + D) := ⟨_, rfl⟩
  rw [← hc] at hst hec
  simp only [← hc] at hcv
  clear hN hD hc
  go_enter Tryz.func93, Tryz.ntmps93
  go_wp2_with fail
  go_loopw [0, 3] (fun v0 v3 wr => ∃ (n : Nat) (t : ByteArray), v0 = .int .u64 (n : Nat) ∧ v3 = .string t ∧ n < 18446744073709551616 ∧ wr = w ∧ pre n ++ t.data.toList = Lib.decDigits N) (fun v0 _ _ => (intOf v0).toNat)
  case atStart => exact ⟨N, ⟨#[c]⟩, rfl, rfl, hNN.out, rfl, hst.out⟩
  case round =>
    clear g1 g2 hcv hD9 hD0 hst hec
    obtain ⟨n, t, rfl, rfl, hn0, rfl, ho0⟩ := hrel
    have hn := hid hn0; have ho := hid ho0
    have hol : (t.size : Int) ≤ 20 := by
      have h1 := hlen.out
      have h3 : t.data.toList.length = t.size := by rw [Array.length_toList]; rfl
      rw [← ho0, List.length_append, h3] at h1
      omega
    by_cases hge : n < 10
    · have i1 : ¬ ((10 : Int) ≤ (n : Int)) := by omega
      have hfin : Hid (t.data.toList = Lib.decDigits N) := hid (by have := ho0; unfold pre at this; rw [if_pos hge] at this; exact this)
      clear hn0 ho0 hge
      go_wp2_with fail
      go_ret
      exact ⟨by rw [← hfin.out]; rfl, by first | rfl | trivial⟩
    · have i1 : (10 : Int) ≤ (n : Int) := by omega
      obtain ⟨q, hq⟩ : ∃ q, q = n / 10 := ⟨_, rfl⟩
      obtain ⟨D, hD⟩ : ∃ D, D = q % 10 := ⟨_, rfl⟩
      have hD9 : (D : Int) ≤ 9 := by omega
      have hD0 : (0 : Int) ≤ (D : Int) := by omega
      have g0 : (n : Int) / 10 = (q : Int) := by omega
      have g1 : Int.tmod (q : Int) 10 = (D : Int) := by rw [Int.tmod_eq_emod_of_nonneg (by omega)]; omega
      have g2 : (q : Int) % 10 = (D : Int) := by omega
      have hcv := conv_dig D (by omega)
      have hec := enc_dig D (by omega)
      have hq1 := hid (show q < n by omega)
      have hq9 : (q : Int) ≤ 18446744073709551615 := by omega
      have w1 : IntKind.u64.wrap (q : Int) = q := by simp [IntKind.wrap, IntKind.bits, IntKind.signed]; omega
      have ho2 : Hid (pre q ++ (UInt8.ofNat (48 + D) :: t.data.toList) = Lib.decDigits N) := hid (by rw [← ho0, pre_step hge, hD, hq])
      have hcs : ((Utf8.encode (48 + (D : Int))).size : Int) = 1 := by rw [hec]; rfl
      have ho3 : Hid (pre q ++ (Utf8.encode (48 + (D : Int)) ++ t).data.toList = Lib.decDigits N) := hid (by rw [ByteArray.data_append, Array.toList_append, hec]; exact ho2.out)
      clear hn0 ho0 hge hq hD ho2 hec hcv
      go_wp2_with fail
      refine ⟨⟨q, Utf8.encode (48 + (D : Int)) ++ t, by first | rfl | simp, by first | rfl | simp, by have := hn.out; have := hq1.out; omega, by first | rfl | trivial, ho3.out⟩, ?_⟩
      simp [intOf]
      exact hq1.out
set_option maxRecDepth 100000 in
set_option maxHeartbeats 1000000 in
theorem rDigits_any (n : Int) (h0 : -9223372036854775808 ≤ n) (h1 : n ≤ 9223372036854775807) (w : World) :
    Calls Tryz.prog 73 #[.int .i64 n] w fun e w' => e = .returned (.string ⟨(Lib.itoa n).toArray⟩) ∧ w' = w := by
  by_cases hn : 0 ≤ n
  · obtain ⟨m, rfl⟩ : ∃ m : Nat, n = (m : Int) := ⟨n.toNat, by omega⟩
    have hk := hid (rdigits_any m (by omega) w)
    have hfin : Hid ((⟨(Lib.itoa (m : Int)).toArray⟩ : ByteArray) = ⟨(Lib.decDigits m).toArray⟩) := hid (by unfold Lib.itoa; rw [if_neg (by omega)]; rfl)
    have w1 : IntKind.u64.wrap (m : Int) = m := by simp [IntKind.wrap, IntKind.bits, IntKind.signed]; omega
    have i0 : (0 : Int) ≤ (m : Int) := hn
    clear hn h0 h1
    go_enter Tryz.func73, Tryz.ntmps73
    go_wp2_with fail
    refine hk.out.mono ?_
    rintro e w2 ⟨rfl, hwq⟩
    obtain rfl := hwq.symm
    go_wp2_with fail
    go_ret
    exact ⟨by rw [hfin.out]; rfl, by first | rfl | trivial⟩
  · obtain ⟨P, rfl⟩ : ∃ P : Nat, n = -(P : Int) - 1 := ⟨(-n - 1).toNat, by omega⟩
    obtain ⟨m, hm⟩ : ∃ m : Nat, m = P + 1 := ⟨_, rfl⟩
    have hk := hid (rdigits_any m (by omega) w)
    obtain ⟨t, ht⟩ : ∃ t : ByteArray, t = ⟨(Lib.decDigits m).toArray⟩ := ⟨_, rfl⟩
    have hfin : Hid ((⟨(Lib.itoa (-(P : Int) - 1)).toArray⟩ : ByteArray) = (⟨#[45]⟩ : ByteArray) ++ t) := hid (by
      unfold Lib.itoa
      rw [if_pos (by omega), show (-(P : Int) - 1).natAbs = m by omega, ht]
      apply ByteArray.ext
      rw [ByteArray.data_append]
      simp)
    have hts : (t.size : Int) ≤ 20 := by
      have e1 : t.size = (Lib.decDigits m).length := by rw [ht]; simp [ByteArray.size]
      have e2 := Lib.nDigits_le20 m (by omega)
      rw [← Lib.decDigits_length] at e2
      omega
    rw [← ht] at hk
    have i0 : ¬ ((0 : Int) ≤ -(P : Int) - 1) := by omega
    have hP : (P : Int) ≤ 9223372036854775807 := by omega
    have w1 : wrap64 (-(P : Int) - 1 + 1) = -(P : Int) := by unfold wrap64; omega
    have w1' : wrap64 (-(P : Int)) = -(P : Int) := by unfold wrap64; omega
    have w2 : wrap64 (P : Int) = (P : Int) := by unfold wrap64; omega
    have w3 : IntKind.u64.wrap (P : Int) = (P : Int) := by simp [IntKind.wrap, IntKind.bits, IntKind.signed]; omega
    have w4 : IntKind.u64.wrap ((P : Int) + 1) = (m : Int) := by simp [IntKind.wrap, IntKind.bits, IntKind.signed]; omega
    clear hn h0 h1 ht hm
    go_enter Tryz.func73, Tryz.ntmps73
    go_wp2_with fail
    refine hk.out.mono ?_
    rintro e w2 ⟨rfl, hwq⟩
    obtain rfl := hwq.symm
    go_wp2_with fail
    go_ret
    exact ⟨by rw [hfin.out]; rfl, by first | rfl | trivial⟩
end Go.Proofs.YtphglnenafdkaaaGreatDoor

namespace Go.Proofs.YtphglnenafdkaaaGreatDoor
open Go.RowKit
set_option linter.unusedVariables false
set_option linter.unusedSimpArgs false

/-- what Print leaves -/
def PrOut (v : Vl) (w : World) (e : Ending) (w' : World) : Prop := e = .returned (.tuple #[.string ⟨(printL v).toArray⟩, .int .i64 (printE v)]) ∧ Below w.heap.size w w'
theorem esc_step {s : ByteArray} {k : Nat} (hk : k < s.size) : escL (s.data.toList.take (k + 1)) = escL (s.data.toList.take k) ++ (if s.data[k]'hk = 34 ∨ s.data[k]'hk = 92 then [92, s.data[k]'hk] else [s.data[k]'hk]) := by
  have hl : k < s.data.toList.length := by rw [Array.length_toList]; exact hk
  rw [List.take_succ_eq_append_getElem hl, Array.getElem_toList]
  unfold escL
  rw [List.flatMap_append]
  simp
theorem take_all {s : ByteArray} {k : Nat} (hk : s.size ≤ k) : s.data.toList.take k = s.data.toList := List.take_of_length_le (by rw [Array.length_toList]; exact hk)
theorem lit_text {v : Vl} (h : v.ok = true) (hk : v.k = 2) : printL v = 34 :: (escL v.s.data.toList ++ [34]) := by
  unfold printL litL
  rw [if_pos h, hk, if_neg (by decide), if_neg (by decide)]

set_option maxRecDepth 100000 in
set_option maxHeartbeats 4000000 in
theorem print_any (v : Vl) (w : World) (hs : v.s.size ≤ 140737488351232) (hr : v.rng) (he : Env w) : Calls Tryz.prog 44 #[.agg #[.int .i64 v.k, .int .i64 v.n, .string v.s]] w (PrOut v w) := by
  obtain ⟨ib, hb0, hb1, hb2, hb3⟩ := info_parts info_u8
  obtain ⟨W, hW⟩ : ∃ W, W = w.alloc (.cells #[.int .i64 v.k, .int .i64 v.n, .string v.s] 38) := ⟨_, rfl⟩
  have hB0 : Hid (Below w.heap.size w W) := hid (by subst hW; exact (Below.refl _ _).alloc (Nat.le_refl _) _)
  have kb0 : Hid (Blk W w.heap.size 38 #[.int .i64 v.k, .int .i64 v.n, .string v.s]) := hid (by subst hW; exact Blk.new w _ _)
  have hva := hid (valid_any v W (by omega))
  have hx0 : W.cell? ⟨w.heap.size, 0, none⟩ = some (.int .i64 v.k) := kb0.out.cell 0
  have hx1 : W.cell? ⟨w.heap.size, 1, none⟩ = some (.int .i64 v.n) := kb0.out.cell 1
  have hx2 : W.cell? ⟨w.heap.size, 2, none⟩ = some (.string v.s) := kb0.out.cell 2
  have hfz := fun q => kb0.out.frozen q
  have hlz := kb0.out.lt
  have he2 := hid (he.below hB0.out)
  clear he
  cases hok : v.ok with
  | false =>
    have hfin : Hid (printL v = [] ∧ printE v = 20) := hid (by unfold printL printE; rw [hok]; exact ⟨rfl, rfl⟩)
    rw [hok] at hva
    clear hok hs hr
    go_enter Tryz.func44, Tryz.ntmps44
    go_upto_region 1 with fail
    rw [← hW]
    clear hW
    go_wp2_with fail
    refine hva.out.mono ?_
    rintro e w2 ⟨rfl, hb20⟩
    have kb2 := hid (kb0.out.below_all hb20)
    have hB2 := hid (hB0.out.trans (hb20.mono hB0.out.size))
    have hbb2 := hid hb20
    clear hb20 hva hx0 hx1 hx2 hfz hlz kb0 hB0
    have x0 := kb2.out.cell 0
    have x1 := kb2.out.cell 1
    have x2 := kb2.out.cell 2
    simp only [List.getElem?_toArray, List.getElem?_cons_zero, List.getElem?_cons_succ] at x0 x1 x2
    have fz := fun q => kb2.out.frozen q
    have hlt := kb2.out.lt
    go_wp2_with fail
    refine bodyPost_ret (v := .tuple #[.string ⟨#[]⟩, .int .i64 20]) (by simp [results, Tryz.results44, go_sem]) rfl ⟨?_, hB2.out⟩
    rw [hfin.out.1, hfin.out.2]
  | true =>
    have hpe : Hid (printE v = 0) := hid (by unfold printE; rw [hok]; rfl)
    have hpl : printL v = litL v := by unfold printL; rw [hok]; rfl
    rw [hok] at hva
    rcases ok_forms hok with hv | ⟨h1, h2⟩ | ⟨h1, h2, h3, h4⟩
    · have e0 : v.k = 0 := by rw [hv]; rfl
      have hfin : Hid (printL v = noneT) := hid (by rw [hpl]; unfold litL; rw [e0]; rfl)
      have f0 : (v.k == 1) = false := by rw [e0]; rfl
      have f1 : (v.k == 0) = true := by rw [e0]; rfl
      clear hok hs hr hv hpl e0
      go_enter Tryz.func44, Tryz.ntmps44
      go_upto_region 1 with fail
      rw [← hW]
      clear hW
      go_wp2_with fail
      refine hva.out.mono ?_
      rintro e w2 ⟨rfl, hb20⟩
      have kb2 := hid (kb0.out.below_all hb20)
      have hB2 := hid (hB0.out.trans (hb20.mono hB0.out.size))
      have hbb2 := hid hb20
      clear hb20 hva hx0 hx1 hx2 hfz hlz kb0 hB0
      have x0 := kb2.out.cell 0
      have x1 := kb2.out.cell 1
      have x2 := kb2.out.cell 2
      simp only [List.getElem?_toArray, List.getElem?_cons_zero, List.getElem?_cons_succ] at x0 x1 x2
      have fz := fun q => kb2.out.frozen q
      have hlt := kb2.out.lt
      go_wp2_with fail
      refine bodyPost_ret (v := .tuple #[.string ⟨#[110, 111, 110, 101]⟩, .int .i64 0]) (by simp [results, Tryz.results44, go_sem]) rfl ⟨?_, hB2.out⟩
      rw [hfin.out, hpe.out]; rfl
    · have hfin : Hid (printL v = Lib.itoa v.n) := hid (by rw [hpl]; unfold litL; rw [h1]; rfl)
      have f0 : (v.k == 1) = true := by rw [h1]; rfl
      have hrr := hid hr
      clear hok hs hr hpl h1 h2
      go_enter Tryz.func44, Tryz.ntmps44
      go_upto_region 1 with fail
      rw [← hW]
      clear hW
      go_wp2_with fail
      refine hva.out.mono ?_
      rintro e w2 ⟨rfl, hb20⟩
      have kb2 := hid (kb0.out.below_all hb20)
      have hB2 := hid (hB0.out.trans (hb20.mono hB0.out.size))
      have hbb2 := hid hb20
      clear hb20 hva hx0 hx1 hx2 hfz hlz kb0 hB0
      have x0 := kb2.out.cell 0
      have x1 := kb2.out.cell 1
      have x2 := kb2.out.cell 2
      simp only [List.getElem?_toArray, List.getElem?_cons_zero, List.getElem?_cons_succ] at x0 x1 x2
      have fz := fun q => kb2.out.frozen q
      have hlt := kb2.out.lt
      have he3 := hid (he2.out.below (w := W) (w' := w2) (by first | exact hbb2.out))
      go_wp2_with fail
      refine (digits_any v.n hrr.out.1 hrr.out.2 w2 he3.out).mono ?_
      rintro e w3 ⟨rfl, hb30⟩
      have hB3 := hid (hB2.out.trans (hb30.mono hB2.out.size))
      clear hb30 x0 x1 x2 fz hlt
      go_wp2_with fail
      refine bodyPost_ret (v := .tuple #[.string ⟨(Lib.itoa v.n).toArray⟩, .int .i64 0]) (by simp [results, Tryz.results44, go_sem]) rfl ⟨?_, hB3.out⟩
      rw [hfin.out, hpe.out]
    · have hfin : Hid (printL v = 34 :: (escL v.s.data.toList ++ [34])) := hid (lit_text hok h1)
      have hs64 := hid h3
      have hs9 : (v.s.size : Int) ≤ 64 := by omega
      have f0 : (v.k == 1) = false := by rw [h1]; rfl
      have f1 : (v.k == 0) = false := by rw [h1]; rfl
      clear hok hs hr hpl h3 h4 h1 h2
      go_enter Tryz.func44, Tryz.ntmps44
      go_upto_region 1 with fail
      rw [← hW]
      clear hW
      go_wp2_with fail
      refine hva.out.mono ?_
      rintro e w2 ⟨rfl, hb20⟩
      have kb2 := hid (kb0.out.below_all hb20)
      have hB2 := hid (hB0.out.trans (hb20.mono hB0.out.size))
      have hbb2 := hid hb20
      clear hb20 hva hx0 hx1 hx2 hfz hlz kb0 hB0
      have x0 := kb2.out.cell 0
      have x1 := kb2.out.cell 1
      have x2 := kb2.out.cell 2
      simp only [List.getElem?_toArray, List.getElem?_cons_zero, List.getElem?_cons_succ] at x0 x1 x2
      have fz := fun q => kb2.out.frozen q
      have hlt := kb2.out.lt
      go_upto_region 8 with fail
      have ho0 := hid (World.ownsRow_lit (base := w2.heap.size) (e := 5) (size := 1) w2 #[.int .u8 34] 1 (Nat.le_refl _) (by decide) rfl)
      have hB3 : Hid (Below w2.heap.size w2 (w2.alloc (.cells #[.int .u8 34] 5))) := hid ((Below.refl _ _).alloc (Nat.le_refl _) _)
      generalize w2.alloc (.cells #[.int .u8 34] 5) = w3 at *
      have kb3 := hid (kb2.out.below_all hB3.out)
      clear x0 x1 x2 fz hlt
      have x2 : w3.cell? ⟨w.heap.size, 2, none⟩ = some (.string v.s) := kb3.out.cell 2
      have hlt := kb3.out.lt
      go_wp2_with fail
      go_loopw [4, 5, 25] (fun v4 _ v25 wr => ∃ (k : Nat) (A : Option Addr) (c : Nat) (L : List Nat), v4 = .slice A L.length c ∧ v25 = .int .i64 k ∧ k ≤ v.s.size ∧ L.length ≤ 1 + 2 * k ∧ wr.ownsRow w2.heap.size 5 1 (.slice A L.length c) L.length (bcells L) ∧ Below w2.heap.size w2 wr ∧ lb L = 34 :: escL (v.s.data.toList.take k)) (fun _ _ v25 _ => v.s.size - (intOf v25).toNat)
      case atStart => exact ⟨0, some ⟨w2.heap.size, 0, none⟩, 1, [34], rfl, rfl, Nat.zero_le _, by simp, ho0.out, hB3.out, rfl⟩
      case round =>
        clear x2 hlt ho0 hB3 kb3
        obtain ⟨k, A, c, L, rfl, rfl, hks, hL0, hown0, hB0, hR0⟩ := hrel
        have hL := hid hL0; have hown := hid hown0; have hB := hid hB0; have hR := hid hR0
        have hL9 : (L.length : Int) ≤ 200 := by have := hs64.out; omega
        have hL8 := hid (show L.length ≤ 200 by have := hs64.out; omega)
        clear hL0 hown0 hB0 hR0
        have kb4 := hid (kb2.out.below_all hB.out)
        have x2 : wr.cell? ⟨w.heap.size, 2, none⟩ = some (.string v.s) := kb4.out.cell 2
        have hltz := kb4.out.lt
        by_cases hlt : k < v.s.size
        · have i1 : (k : Int) < (v.s.size : Int) := by omega
          have hst := esc_step hlt
          by_cases hq : v.s.data[k]'hlt = 34 ∨ v.s.data[k]'hlt = 92
          · rw [if_pos hq] at hst
            have hR2 : Hid (lb ((L ++ [92]) ++ [(v.s[k]'hlt).toNat]) = 34 :: escL (v.s.data.toList.take (k + 1))) := hid (by
              rw [hst, show (v.s[k]'hlt).toNat = (v.s.data[k]'hlt).toNat from rfl, lb_snoc, show (92 : Nat) = (92 : UInt8).toNat from rfl, lb_snoc, hR.out]; simp)
            clear hst
            have hcase : Hid (((v.s[k]'hlt).toNat = 34) ∨ ((v.s[k]'hlt).toNat ≠ 34 ∧ (v.s[k]'hlt).toNat = 92)) := hid (by
              by_cases h34 : v.s.data[k]'hlt = 34
              · exact .inl (byte_eq (hk := hlt) h34)
              · exact .inr ⟨byte_ne (hk := hlt) h34, byte_eq (hk := hlt) (hq.resolve_left h34)⟩)
            clear hq
            rcases hcase.out with hc | ⟨hc0, hc⟩
            · have b1 : (((v.s[k]'hlt).toNat : Int) == 34) = true := by rw [hc]; rfl
              have b2 : (((v.s[k]'hlt).toNat : Int) == 92) = false := by rw [hc]; rfl
              rw [hc] at hR2
              skip
              go_upto_region 13 with (
                at_builtin
                refine wpList_append_rd _ rfl (.tmp 40) (.tmp 41) 41 rfl w2.heap.size 5 ib _ 1 1 Tryz.underlying41 hb0 hb1 hb2 hb3 rfl (by omega) (.slice A (L.length) c) (L.length) (bcells L) rfl (hown.out.alloc _) (fun b => b = wr.heap.size) (some ⟨wr.heap.size, 0, none⟩) 1 1 [.int .u8 (((92 : Nat) : Int))] rfl (Rd.new wr 5 1 1 #[.int .u8 (((92 : Nat) : Int))] _ rfl rfl) (by intro u hu; simp at hu; subst hu; rfl) (by simp only [maxLen]; have := hL8.out; omega) (by have := hL8.out; omega) (by have := hB.out.size; simp; omega) ?_
                intro v5 w5 hown5 hg5 hat5
                have hB5 := hid ((hB.out.alloc hB.out.size (.cells #[.int .u8 (((92 : Nat) : Int))] 5)).grown hg5 (by have := hB.out.size; simp; omega) fun k hk => (hown.out.lt k hk).1)
                obtain ⟨A5, c5, rfl, _⟩ := own_form hown5
                rw [← bcells_snoc] at hown5
                have hown5 := hid hown5
                skip
                clear hg5 hat5)
              have kb5 := hid (kb2.out.below_all hB5.out)
              clear x2 hltz
              have x2 : w5.cell? ⟨w.heap.size, 2, none⟩ = some (.string v.s) := kb5.out.cell 2
              have hltz := kb5.out.lt
              go_wp2_with (
                at_builtin
                refine wpList_append_rd _ rfl (.tmp 43) (.tmp 48) 41 rfl w2.heap.size 5 ib _ 1 1 Tryz.underlying41 hb0 hb1 hb2 hb3 rfl (by omega) (.slice A5 (L.length + 1) c5) (L.length + 1) (bcells (L ++ [92])) rfl (hown5.out.alloc _) (fun b => b = w5.heap.size) (some ⟨w5.heap.size, 0, none⟩) 1 1 [.int .u8 (((34 : Nat) : Int))] rfl (Rd.new w5 5 1 1 #[.int .u8 (((34 : Nat) : Int))] _ rfl rfl) (by intro u hu; simp at hu; subst hu; rfl) (by simp only [maxLen]; have := hL8.out; omega) (by have := hL8.out; omega) (by have := hB5.out.size; simp; omega) ?_
                intro v9 w9 hown9 hg9 hat9
                have hB9 := hid ((hB5.out.alloc hB5.out.size (.cells #[.int .u8 (((34 : Nat) : Int))] 5)).grown hg9 (by have := hB5.out.size; simp; omega) fun k hk => (hown5.out.lt k hk).1)
                obtain ⟨A9, c9, rfl, _⟩ := own_form hown9
                rw [← bcells_snoc] at hown9
                have hown9 := hid hown9
                skip
                clear hg9 hat9)
              refine ⟨⟨k + 1, A9, c9, (L ++ [92]) ++ [34], by simp, by first | rfl | simp, by omega, by have := hL.out; simp; omega, by simpa using hown9.out, hB9.out, hR2.out⟩, ?_⟩
              simp [intOf]
              omega
            · have b1 : (((v.s[k]'hlt).toNat : Int) == 34) = false := by rw [hc]; rfl
              have b2 : (((v.s[k]'hlt).toNat : Int) == 92) = true := by rw [hc]; rfl
              rw [hc] at hR2
              clear hc0
              go_upto_region 13 with (
                at_builtin
                refine wpList_append_rd _ rfl (.tmp 40) (.tmp 41) 41 rfl w2.heap.size 5 ib _ 1 1 Tryz.underlying41 hb0 hb1 hb2 hb3 rfl (by omega) (.slice A (L.length) c) (L.length) (bcells L) rfl (hown.out.alloc _) (fun b => b = wr.heap.size) (some ⟨wr.heap.size, 0, none⟩) 1 1 [.int .u8 (((92 : Nat) : Int))] rfl (Rd.new wr 5 1 1 #[.int .u8 (((92 : Nat) : Int))] _ rfl rfl) (by intro u hu; simp at hu; subst hu; rfl) (by simp only [maxLen]; have := hL8.out; omega) (by have := hL8.out; omega) (by have := hB.out.size; simp; omega) ?_
                intro v5 w5 hown5 hg5 hat5
                have hB5 := hid ((hB.out.alloc hB.out.size (.cells #[.int .u8 (((92 : Nat) : Int))] 5)).grown hg5 (by have := hB.out.size; simp; omega) fun k hk => (hown.out.lt k hk).1)
                obtain ⟨A5, c5, rfl, _⟩ := own_form hown5
                rw [← bcells_snoc] at hown5
                have hown5 := hid hown5
                skip
                clear hg5 hat5)
              have kb5 := hid (kb2.out.below_all hB5.out)
              clear x2 hltz
              have x2 : w5.cell? ⟨w.heap.size, 2, none⟩ = some (.string v.s) := kb5.out.cell 2
              have hltz := kb5.out.lt
              go_wp2_with (
                at_builtin
                refine wpList_append_rd _ rfl (.tmp 43) (.tmp 48) 41 rfl w2.heap.size 5 ib _ 1 1 Tryz.underlying41 hb0 hb1 hb2 hb3 rfl (by omega) (.slice A5 (L.length + 1) c5) (L.length + 1) (bcells (L ++ [92])) rfl (hown5.out.alloc _) (fun b => b = w5.heap.size) (some ⟨w5.heap.size, 0, none⟩) 1 1 [.int .u8 (((92 : Nat) : Int))] rfl (Rd.new w5 5 1 1 #[.int .u8 (((92 : Nat) : Int))] _ rfl rfl) (by intro u hu; simp at hu; subst hu; rfl) (by simp only [maxLen]; have := hL8.out; omega) (by have := hL8.out; omega) (by have := hB5.out.size; simp; omega) ?_
                intro v9 w9 hown9 hg9 hat9
                have hB9 := hid ((hB5.out.alloc hB5.out.size (.cells #[.int .u8 (((92 : Nat) : Int))] 5)).grown hg9 (by have := hB5.out.size; simp; omega) fun k hk => (hown5.out.lt k hk).1)
                obtain ⟨A9, c9, rfl, _⟩ := own_form hown9
                rw [← bcells_snoc] at hown9
                have hown9 := hid hown9
                skip
                clear hg9 hat9)
              refine ⟨⟨k + 1, A9, c9, (L ++ [92]) ++ [92], by simp, by first | rfl | simp, by omega, by have := hL.out; simp; omega, by simpa using hown9.out, hB9.out, hR2.out⟩, ?_⟩
              simp [intOf]
              omega
          · rw [if_neg hq] at hst
            have c34 : (v.s[k]'hlt).toNat ≠ 34 := byte_ne (hk := hlt) fun e => hq (.inl e)
            have c92 : (v.s[k]'hlt).toNat ≠ 92 := byte_ne (hk := hlt) fun e => hq (.inr e)
            have b1 : (((v.s[k]'hlt).toNat : Int) == 34) = false := by simp; omega
            have b2 : (((v.s[k]'hlt).toNat : Int) == 92) = false := by simp; omega
            have hR2 : Hid (lb (L ++ [(v.s[k]'hlt).toNat]) = 34 :: escL (v.s.data.toList.take (k + 1))) := hid (by
              rw [hst, show (v.s[k]'hlt).toNat = (v.s.data[k]'hlt).toNat from rfl, lb_snoc, hR.out]; simp)
            clear hst hq c34 c92
            go_wp2_with (
              at_builtin
              refine wpList_append_rd _ rfl (.tmp 43) (.tmp 48) 41 rfl w2.heap.size 5 ib _ 1 1 Tryz.underlying41 hb0 hb1 hb2 hb3 rfl (by omega) (.slice A (L.length) c) (L.length) (bcells L) rfl (hown.out.alloc _) (fun b => b = wr.heap.size) (some ⟨wr.heap.size, 0, none⟩) 1 1 [.int .u8 (((v.s[k]'hlt).toNat : Nat))] rfl (Rd.new wr 5 1 1 #[.int .u8 (((v.s[k]'hlt).toNat : Nat))] _ rfl rfl) (by intro u hu; simp at hu; subst hu; rfl) (by simp only [maxLen]; have := hL8.out; omega) (by have := hL8.out; omega) (by have := hB.out.size; simp; omega) ?_
              intro v9 w9 hown9 hg9 hat9
              have hB9 := hid ((hB.out.alloc hB.out.size (.cells #[.int .u8 (((v.s[k]'hlt).toNat : Nat))] 5)).grown hg9 (by have := hB.out.size; simp; omega) fun k hk => (hown.out.lt k hk).1)
              obtain ⟨A9, c9, rfl, _⟩ := own_form hown9
              rw [← bcells_snoc] at hown9
              have hown9 := hid hown9
              skip
              clear hg9 hat9)
            refine ⟨⟨k + 1, A9, c9, L ++ [(v.s[k]'hlt).toNat], by simp, by first | rfl | simp, by omega, by have := hL.out; simp; omega, by simpa using hown9.out, hB9.out, hR2.out⟩, ?_⟩
            simp [intOf]
            omega
        · have i1 : ¬ ((k : Int) < (v.s.size : Int)) := by omega
          have hR2 : Hid (lb (L ++ [34]) = printL v) := hid (by
            rw [hfin.out, show (34 : Nat) = (34 : UInt8).toNat from rfl, lb_snoc, hR.out, take_all (by omega)]; rfl)
          clear hlt
          go_wp2_with (
            at_builtin
            refine wpList_append_rd _ rfl (.tmp 51) (.tmp 52) 41 rfl w2.heap.size 5 ib _ 1 1 Tryz.underlying41 hb0 hb1 hb2 hb3 rfl (by omega) (.slice A (L.length) c) (L.length) (bcells L) rfl (hown.out.alloc _) (fun b => b = wr.heap.size) (some ⟨wr.heap.size, 0, none⟩) 1 1 [.int .u8 (((34 : Nat) : Int))] rfl (Rd.new wr 5 1 1 #[.int .u8 (((34 : Nat) : Int))] _ rfl rfl) (by intro u hu; simp at hu; subst hu; rfl) (by simp only [maxLen]; have := hL8.out; omega) (by have := hL8.out; omega) (by have := hB.out.size; simp; omega) ?_
            intro v9 w9 hown9 hg9 hat9
            have hB9 := hid ((hB.out.alloc hB.out.size (.cells #[.int .u8 (((34 : Nat) : Int))] 5)).grown hg9 (by have := hB.out.size; simp; omega) fun k hk => (hown.out.lt k hk).1)
            obtain ⟨A9, c9, rfl, _⟩ := own_form hown9
            rw [← bcells_snoc] at hown9
            have hown9 := hid hown9
            have hcv := convB (Rd.of_own hown9.out) (c := c9) (by simp)
            clear hg9 hat9)
          have hfb : Hid (Below w.heap.size w w9) := hid (hB2.out.trans (hB9.out.mono hB2.out.size))
          refine bodyPost_ret (v := .tuple #[.string (bt (L ++ [34])), .int .i64 0]) (by simp [results, Tryz.results44, go_sem]) rfl ⟨?_, hfb.out⟩
          rw [← hR2.out, hpe.out]; rfl

end Go.Proofs.YtphglnenafdkaaaGreatDoor


/- interp: the document's lists of keys: both, Has. -/
import Derived.Test.YtdmogoaaecdbaaaGreatDoorJ21
namespace Go.Proofs.YtdmogoaaecdbaaaGreatDoor
open Go.RowKit
set_option linter.unusedVariables false
set_option linter.unusedSimpArgs false

section
variable {w : World} {S1 S2 : Nat → Prop} {A B : Option Addr} {l m : List ByteArray} {c d : Nat}
theorem strsI_one (ks : List ByteArray) : ∀ v ∈ strs ks, v.oneCell' = true := by
  intro v hv
  obtain ⟨x, _, rfl⟩ := List.mem_map.1 hv
  rfl
theorem strsI_app (l m : List ByteArray) : strs (l ++ m) = strs l ++ strs m := by unfold strs; rw [List.map_append]
set_option maxRecDepth 100000 in
set_option maxHeartbeats 2000000 in
theorem bothI_any (ha0 : Rd S1 w 1 A l.length (strs l)) (hb0 : Rd S2 w 1 B m.length (strs m)) (hl0 : l.length ≤ 1000000) (hm0 : m.length ≤ 1000000) : Calls Tryz.prog 48 #[.slice A l.length c, .slice B m.length d] w fun e w' => ∃ A' c', e = .returned (.slice A' (l ++ m).length c') ∧ w'.ownsRow w.heap.size 9 1 (.slice A' (l ++ m).length c') (l ++ m).length (strs (l ++ m)) ∧ Below w.heap.size w w' := by
  have ha := hid ha0
  have hb := hid hb0
  have hl := hid hl0
  have hm := hid hm0
  obtain ⟨i0, hi0, hz0, hz1, hz2⟩ := info_parts info_strI
  clear ha0 hb0 hl0 hm0
  go_enter Tryz.func48, Tryz.ntmps48
  go_wp2_with (first
    | (at_builtin
       refine wpList_copy_rd w rfl (.tmp 5) (.tmp 6) 25 rfl 9 i0 _ 1 16 Tryz.underlying25 hi0 hz0 hz1 hz2 rfl (by omega) _ rfl rfl _ A l.length c (strs l) rfl ha.out (strsI_one l) (by have := hl.out; simp only [maxLen]; omega) (by have := hl.out; omega) ?_
       intro A5 c5 wa hown0 hba0
       have howa := hid hown0
       have hba := hid hba0
       clear hown0 hba0)
    | (at_builtin
       have hgate := howa
       clear hgate
       refine wpList_append_rd _ rfl (.tmp 7) (.tmp 8) 25 rfl w.heap.size 9 i0 _ 1 16 Tryz.underlying25 hi0 hz0 hz1 hz2 rfl (by omega) (.slice A5 l.length c5) l.length (strs l) rfl howa.out _ B m.length d (strs m) rfl (hb.out.below_all hba.out) (strsI_one m) (by have := hl.out; have := hm.out; simp only [maxLen]; omega) (by have := hl.out; have := hm.out; omega) hba.out.size ?_
       intro v9 w9 hown9 hg9 hat9
       obtain ⟨A9, c9, rfl, _, _⟩ := own_form hown9
       have how9 := hid hown9
       have hb9 := hid (hba.out.grown hg9 hba.out.size fun k hk => (howa.out.lt k hk).1)
       clear hown9 hg9 hat9 howa hba))
  go_ret
  have e1 : (l ++ m).length = l.length + m.length := by simp
  refine ⟨A9, c9, by rw [e1]; rfl, ?_, hb9.out⟩
  rw [e1, strsI_app]
  exact how9.out
set_option maxRecDepth 100000 in
set_option maxHeartbeats 2000000 in
theorem hasI_any (t : ByteArray) (ha0 : Rd S1 w 1 A l.length (strs l)) (hl0 : l.length ≤ 1000000) : Calls Tryz.prog 49 #[.slice A l.length c, .string t] w fun e w' => e = .returned (.bool (memB t l)) ∧ w' = w := by
  have ha := hid ha0
  have hl := hid hl0
  clear ha0 hl0
  go_enter Tryz.func49, Tryz.ntmps49
  go_wp2_with fail
  go_loopw [5] (fun v wr => ∃ k : Nat, v = .int .i64 k ∧ wr = w ∧ k ≤ l.length ∧ ∀ j x, j < k → l[j]? = some x → x ≠ t) (fun v _ => l.length - (intOf v).toNat)
  case atStart => exact ⟨0, rfl, rfl, Nat.zero_le _, fun j x h => absurd h (by omega)⟩
  case round =>
    obtain ⟨k, rfl, hwr, hk, hno0⟩ := hrel
    obtain rfl := hwr.symm
    have hno := hid hno0
    clear hno0
    by_cases hlt : k < l.length
    · have i1 : (k : Int) < (l.length : Int) := by omega
      have i2 : IntKind.i64.wrap ((k : Int) + 1) = (k : Int) + 1 := by rw [IntKind.wrap_i64]; have := hl.out; omega
      obtain ⟨x, hx0⟩ : ∃ x, l[k]? = some x := ⟨_, List.getElem?_eq_getElem hlt⟩
      obtain ⟨b, o, hA, _, _, hc⟩ := ha.out.at_ hlt
      have e1 := hc k (.string x) (by simp [strs, hx0])
      have hx := hid hx0
      have hlH := hid hlt
      subst hA
      clear hc hx0 hlt hk
      by_cases he : x = t
      · have t1 : (x.toList == t.toList) = true := by rw [bytes_dec]; exact decide_eq_true he
        have hres : Hid (memB t l = true) := hid (memB_iff.2 (by rw [← he]; exact List.mem_of_getElem? hx.out))
        clear he
        go_wp2_with fail
        go_ret
        exact ⟨by rw [hres.out]; rfl, by first | rfl | trivial⟩
      · have t1 : (x.toList == t.toList) = false := by rw [bytes_dec]; exact decide_eq_false he
        have hno2 : Hid (∀ j y, j < k + 1 → l[j]? = some y → y ≠ t) := hid fun j y hj hy => by
          rcases Nat.lt_or_eq_of_le (Nat.lt_succ_iff.1 hj) with h1 | h1
          · exact hno.out j y h1 hy
          · rw [h1, hx.out] at hy
            injection hy with hy
            rw [← hy]; exact he
        clear he
        go_wp2_with fail
        go_roundw
        case rel => exact ⟨k + 1, rfl, by first | rfl | trivial, by have := hlH.out; omega, hno2.out⟩
        case measure => simp [intOf]; have := hlH.out; omega
    · have i1 : ¬ ((k : Int) < (l.length : Int)) := by omega
      have hres : Hid (memB t l = false) := hid (Bool.eq_false_iff.2 fun h => by
        obtain ⟨j, hj⟩ := List.getElem?_of_mem (memB_iff.1 h)
        have hjl := (List.getElem?_eq_some_iff.1 hj).1
        exact hno.out j t (by omega) hj rfl)
      clear hlt hk
      go_wp2_with fail
      go_ret
      exact ⟨by rw [hres.out]; rfl, by first | rfl | trivial⟩
end
end Go.Proofs.YtdmogoaaecdbaaaGreatDoor

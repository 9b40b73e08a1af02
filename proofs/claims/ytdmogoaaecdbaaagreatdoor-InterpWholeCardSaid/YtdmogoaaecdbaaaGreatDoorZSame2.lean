/- interp: outcomes compared; is it too much. -/
import Derived.Test.YtdmogoaaecdbaaaGreatDoorJ21
namespace Go.Proofs.YtdmogoaaecdbaaaGreatDoor
open Go.RowKit
set_option linter.unusedVariables false
set_option linter.unusedSimpArgs false

set_option maxRecDepth 100000 in
set_option maxHeartbeats 2000000 in
theorem textsB_any {S S' : Nat → Prop} {A B : Option Addr} {l m : List ByteArray} {c d : Nat} {w : World} (ha : Rd S w 1 A l.length (strs l)) (hb : Rd S' w 1 B m.length (strs m)) (hl : l.length ≤ 9223372036854775807) : Calls Tryz.prog 22 #[.slice A l.length c, .slice B m.length d] w fun e w' => e = .returned (.bool (decide (l = m))) ∧ Below w.heap.size w w' := by
  have hA := hid ha
  have hBb := hid hb
  have hlh := hid hl
  clear ha hb hl
  by_cases hlen : l.length = m.length
  · have t1 : ((l.length : Int) != (m.length : Int)) = false := by simp; omega
    have hlenH := hid hlen
    clear hlen
    go_enter Tryz.func22, Tryz.ntmps22
    go_wp2_with fail
    go_loopw [5] (fun v wr => ∃ k : Nat, v = .int .i64 k ∧ k ≤ l.length ∧ (∀ j, j < k → l[j]? = m[j]?) ∧ Below w.heap.size w wr) (fun v _ => l.length - (intOf v).toNat)
    case atStart => exact ⟨0, rfl, Nat.zero_le _, fun j h => absurd h (by omega), Below.refl _ _⟩
    case round =>
      obtain ⟨k, rfl, hk, hj0, hB0⟩ := hrel
      have hj := hid hj0
      have hB := hid hB0
      clear hj0 hB0
      by_cases hlt : k < l.length
      · have i1 : (k : Int) < (l.length : Int) := by omega
        have hlt2 : k < m.length := by have := hlenH.out; omega
        have i2 : (k : Int) < (m.length : Int) := by omega
        have i3 : IntKind.i64.wrap ((k : Int) + 1) = (k : Int) + 1 := by rw [IntKind.wrap_i64]; have := hlh.out; omega
        have hg1 : l[k]? = some l[k] := List.getElem?_eq_getElem hlt
        have hg2 : m[k]? = some m[k] := List.getElem?_eq_getElem hlt2
        obtain ⟨b1, o1, rfl, _, al, ac⟩ := (hA.out.below_all hB.out).at_ hlt
        have a0 := ac k (.string l[k]) (by simp [strs, hlt])
        clear ac
        obtain ⟨b2, o2, rfl, _, el, ec⟩ := (hBb.out.below_all hB.out).at_ hlt2
        have e0 := ec k (.string m[k]) (by simp [strs, hlt2])
        clear ec
        have hkl := hid hlt
        generalize l[k] = u at *
        generalize m[k] = v at *
        clear hlt hlt2 hk
        by_cases hxy : u = v
        · have hj2 := hid (show ∀ j, j < k + 1 → l[j]? = m[j]? from fun j h => by
            rcases Nat.lt_or_eq_of_le (Nat.lt_succ_iff.1 h) with h1 | h1
            · exact hj.out j h1
            · rw [h1, hg1, hg2, hxy])
          subst hxy
          clear hg1 hg2 hj
          go_upto_region 6 with fail
          go_quiet (fail)
          go_wp2_with fail
          go_roundw
          case rel => exact ⟨k + 1, rfl, by have := hkl.out; omega, hj2.out, below_drewN hB.out _⟩
          case measure => simp [intOf]; have := hkl.out; omega
        · have hne : Hid (decide (l = m) = false) := hid (decide_eq_false fun e => by rw [e] at hg1; rw [hg1] at hg2; injection hg2 with hg2; exact hxy hg2)
          have hcs := txt_ne hxy
          clear hxy hg1 hg2 hj
          rcases hcs with h
          all_goals
            go_upto_region 6 with fail
            go_quiet (fail)
            go_wp2_with fail
            go_ret
            exact ⟨by rw [hne.out]; rfl, below_drewN hB.out _⟩
      · have i1 : ¬ ((k : Int) < (l.length : Int)) := by omega
        have heq : Hid (decide (l = m) = true) := hid (decide_eq_true (List.ext_getElem? fun j => by
          by_cases h : j < k
          · exact hj.out j h
          · rw [List.getElem?_eq_none (by omega), List.getElem?_eq_none (by have := hlenH.out; omega)]))
        clear hlt hk hj
        go_wp2_with fail
        go_ret
        exact ⟨by rw [heq.out]; rfl, hB.out⟩
  · have t1 : ((l.length : Int) != (m.length : Int)) = true := by simp; omega
    have hne : Hid (decide (l = m) = false) := hid (decide_eq_false fun e => hlen (by rw [e]))
    clear hlen
    go_enter Tryz.func22, Tryz.ntmps22
    go_wp2_with fail
    go_ret
    exact ⟨by rw [hne.out]; rfl, Below.refl _ _⟩
set_option maxRecDepth 100000 in
set_option maxHeartbeats 2000000 in
theorem valuesB_any {S S' : Nat → Prop} {A B : Option Addr} {l m : List Vl} {c d : Nat} {w : World} (ha : Rd S w 3 A l.length (vcells l)) (hb : Rd S' w 3 B m.length (vcells m)) (hl : l.length ≤ 9223372036854775807) : Calls Tryz.prog 30 #[.slice A l.length c, .slice B m.length d] w fun e w' => e = .returned (.bool (decide (l = m))) ∧ Below w.heap.size w w' := by
  have hA := hid ha
  have hBb := hid hb
  have hlh := hid hl
  clear ha hb hl
  by_cases hlen : l.length = m.length
  · have t1 : ((l.length : Int) != (m.length : Int)) = false := by simp; omega
    have hlenH := hid hlen
    clear hlen
    go_enter Tryz.func30, Tryz.ntmps30
    go_wp2_with fail
    go_loopw [5] (fun v wr => ∃ k : Nat, v = .int .i64 k ∧ k ≤ l.length ∧ (∀ j, j < k → l[j]? = m[j]?) ∧ Below w.heap.size w wr) (fun v _ => l.length - (intOf v).toNat)
    case atStart => exact ⟨0, rfl, Nat.zero_le _, fun j h => absurd h (by omega), Below.refl _ _⟩
    case round =>
      obtain ⟨k, rfl, hk, hj0, hB0⟩ := hrel
      have hj := hid hj0
      have hB := hid hB0
      clear hj0 hB0
      by_cases hlt : k < l.length
      · have i1 : (k : Int) < (l.length : Int) := by omega
        have hlt2 : k < m.length := by have := hlenH.out; omega
        have i2 : (k : Int) < (m.length : Int) := by omega
        have i3 : IntKind.i64.wrap ((k : Int) + 1) = (k : Int) + 1 := by rw [IntKind.wrap_i64]; have := hlh.out; omega
        have hg1 : l[k]? = some l[k] := List.getElem?_eq_getElem hlt
        have hg2 : m[k]? = some m[k] := List.getElem?_eq_getElem hlt2
        obtain ⟨b1, o1, rfl, _, a0, a1, a2⟩ := (hA.out.below_all hB.out).val_at hlt
        obtain ⟨b2, o2, rfl, _, e0, e1, e2⟩ := (hBb.out.below_all hB.out).val_at hlt2
        have hkl := hid hlt
        generalize l[k] = u at *
        generalize m[k] = v at *
        clear hlt hlt2 hk
        by_cases hxy : u = v
        · have hj2 := hid (show ∀ j, j < k + 1 → l[j]? = m[j]? from fun j h => by
            rcases Nat.lt_or_eq_of_le (Nat.lt_succ_iff.1 h) with h1 | h1
            · exact hj.out j h1
            · rw [h1, hg1, hg2, hxy])
          subst hxy
          clear hg1 hg2 hj
          go_upto_region 6 with fail
          go_quiet (fail)
          go_wp2_with fail
          go_roundw
          case rel => exact ⟨k + 1, rfl, by have := hkl.out; omega, hj2.out, below_drewN hB.out _⟩
          case measure => simp [intOf]; have := hkl.out; omega
        · have hne : Hid (decide (l = m) = false) := hid (decide_eq_false fun e => by rw [e] at hg1; rw [hg1] at hg2; injection hg2 with hg2; exact hxy hg2)
          have hcs := val_neI hxy
          clear hxy hg1 hg2 hj
          rcases hcs with h | ⟨p0, h⟩ | ⟨p0, p1, h⟩
          all_goals
            go_upto_region 6 with fail
            go_quiet (fail)
            go_wp2_with fail
            go_ret
            exact ⟨by rw [hne.out]; rfl, below_drewN hB.out _⟩
      · have i1 : ¬ ((k : Int) < (l.length : Int)) := by omega
        have heq : Hid (decide (l = m) = true) := hid (decide_eq_true (List.ext_getElem? fun j => by
          by_cases h : j < k
          · exact hj.out j h
          · rw [List.getElem?_eq_none (by omega), List.getElem?_eq_none (by have := hlenH.out; omega)]))
        clear hlt hk hj
        go_wp2_with fail
        go_ret
        exact ⟨by rw [heq.out]; rfl, hB.out⟩
  · have t1 : ((l.length : Int) != (m.length : Int)) = true := by simp; omega
    have hne : Hid (decide (l = m) = false) := hid (decide_eq_false fun e => hlen (by rw [e]))
    clear hlen
    go_enter Tryz.func30, Tryz.ntmps30
    go_wp2_with fail
    go_ret
    exact ⟨by rw [hne.out]; rfl, Below.refl _ _⟩
set_option maxRecDepth 100000 in
set_option maxHeartbeats 2000000 in
theorem writesB_any {S S' : Nat → Prop} {A B : Option Addr} {l m : List Wr} {c d : Nat} {w : World} (ha : Rd S w 5 A l.length (wcells l)) (hb : Rd S' w 5 B m.length (wcells m)) (hl : l.length ≤ 9223372036854775807) : Calls Tryz.prog 31 #[.slice A l.length c, .slice B m.length d] w fun e w' => e = .returned (.bool (decide (l = m))) ∧ Below w.heap.size w w' := by
  have hA := hid ha
  have hBb := hid hb
  have hlh := hid hl
  clear ha hb hl
  by_cases hlen : l.length = m.length
  · have t1 : ((l.length : Int) != (m.length : Int)) = false := by simp; omega
    have hlenH := hid hlen
    clear hlen
    go_enter Tryz.func31, Tryz.ntmps31
    go_wp2_with fail
    go_loopw [5] (fun v wr => ∃ k : Nat, v = .int .i64 k ∧ k ≤ l.length ∧ (∀ j, j < k → l[j]? = m[j]?) ∧ Below w.heap.size w wr) (fun v _ => l.length - (intOf v).toNat)
    case atStart => exact ⟨0, rfl, Nat.zero_le _, fun j h => absurd h (by omega), Below.refl _ _⟩
    case round =>
      obtain ⟨k, rfl, hk, hj0, hB0⟩ := hrel
      have hj := hid hj0
      have hB := hid hB0
      clear hj0 hB0
      by_cases hlt : k < l.length
      · have i1 : (k : Int) < (l.length : Int) := by omega
        have hlt2 : k < m.length := by have := hlenH.out; omega
        have i2 : (k : Int) < (m.length : Int) := by omega
        have i3 : IntKind.i64.wrap ((k : Int) + 1) = (k : Int) + 1 := by rw [IntKind.wrap_i64]; have := hlh.out; omega
        have hg1 : l[k]? = some l[k] := List.getElem?_eq_getElem hlt
        have hg2 : m[k]? = some m[k] := List.getElem?_eq_getElem hlt2
        obtain ⟨b1, o1, rfl, _, a0, a1, a2, a3, a4⟩ := (hA.out.below_all hB.out).wcells_at hlt
        obtain ⟨b2, o2, rfl, _, e0, e1, e2, e3, e4⟩ := (hBb.out.below_all hB.out).wcells_at hlt2
        have hkl := hid hlt
        generalize l[k] = u at *
        generalize m[k] = v at *
        clear hlt hlt2 hk
        by_cases hxy : u = v
        · have hj2 := hid (show ∀ j, j < k + 1 → l[j]? = m[j]? from fun j h => by
            rcases Nat.lt_or_eq_of_le (Nat.lt_succ_iff.1 h) with h1 | h1
            · exact hj.out j h1
            · rw [h1, hg1, hg2, hxy])
          subst hxy
          clear hg1 hg2 hj
          go_upto_region 6 with fail
          go_quiet (fail)
          go_wp2_with fail
          go_roundw
          case rel => exact ⟨k + 1, rfl, by have := hkl.out; omega, hj2.out, below_drewN hB.out _⟩
          case measure => simp [intOf]; have := hkl.out; omega
        · have hne : Hid (decide (l = m) = false) := hid (decide_eq_false fun e => by rw [e] at hg1; rw [hg1] at hg2; injection hg2 with hg2; exact hxy hg2)
          have hcs := wr_neI hxy
          clear hxy hg1 hg2 hj
          rcases hcs with h | ⟨p0, h⟩ | ⟨p0, p1, h⟩ | ⟨p0, p1, p2, h⟩ | ⟨p0, p1, p2, p3, h⟩
          all_goals
            go_upto_region 6 with fail
            go_quiet (fail)
            go_wp2_with fail
            go_ret
            exact ⟨by rw [hne.out]; rfl, below_drewN hB.out _⟩
      · have i1 : ¬ ((k : Int) < (l.length : Int)) := by omega
        have heq : Hid (decide (l = m) = true) := hid (decide_eq_true (List.ext_getElem? fun j => by
          by_cases h : j < k
          · exact hj.out j h
          · rw [List.getElem?_eq_none (by omega), List.getElem?_eq_none (by have := hlenH.out; omega)]))
        clear hlt hk hj
        go_wp2_with fail
        go_ret
        exact ⟨by rw [heq.out]; rfl, hB.out⟩
  · have t1 : ((l.length : Int) != (m.length : Int)) = true := by simp; omega
    have hne : Hid (decide (l = m) = false) := hid (decide_eq_false fun e => hlen (by rw [e]))
    clear hlen
    go_enter Tryz.func31, Tryz.ntmps31
    go_wp2_with fail
    go_ret
    exact ⟨by rw [hne.out]; rfl, Below.refl _ _⟩
section
variable {w : World} {A1 A2 B1 B2 : Option Addr} {c1 c2 d1 d2 : Nat} {l1 l2 m1 m2 : List ByteArray} {S1 S2 S3 S4 : Nat → Prop}
set_option maxRecDepth 100000 in
set_option maxHeartbeats 2000000 in
theorem fsameB_any (h1 : Rd S1 w 1 A1 l1.length (strs l1)) (h2 : Rd S2 w 1 A2 l2.length (strs l2)) (h3 : Rd S3 w 1 B1 m1.length (strs m1)) (h4 : Rd S4 w 1 B2 m2.length (strs m2)) (n1 : l1.length ≤ 9223372036854775807) (n2 : l2.length ≤ 9223372036854775807) :
    Calls Tryz.prog 42 #[.agg #[.slice A1 l1.length c1, .slice A2 l2.length c2], .agg #[.slice B1 m1.length d1, .slice B2 m2.length d2]] w fun e w' => e = .returned (.bool (decide (l1 = m1) && decide (l2 = m2))) ∧ Below w.heap.size w w' := by
  have hB0 : Below w.heap.size w ((w.alloc (.cells #[.slice A1 l1.length c1, .slice A2 l2.length c2] 27)).alloc (.cells #[.slice B1 m1.length d1, .slice B2 m2.length d2] 27)) := below_two _ _
  have ka := hid (show Blk ((w.alloc (.cells #[.slice A1 l1.length c1, .slice A2 l2.length c2] 27)).alloc (.cells #[.slice B1 m1.length d1, .slice B2 m2.length d2] 27)) w.heap.size 27 #[.slice A1 l1.length c1, .slice A2 l2.length c2] from (Blk.new w _ _).alloc _)
  have kb := hid (show Blk ((w.alloc (.cells #[.slice A1 l1.length c1, .slice A2 l2.length c2] 27)).alloc (.cells #[.slice B1 m1.length d1, .slice B2 m2.length d2] 27)) (w.heap.size + 1) 27 #[.slice B1 m1.length d1, .slice B2 m2.length d2] from Blk.new' _ _ _ (by simp))
  have hB := hid hB0
  have hT1 := hid (fun W (hW : Below w.heap.size w W) => textsB_any (c := c1) (d := d1) (h1.below_all hW) (h3.below_all hW) n1)
  have hT2 := hid (fun W (hW : Below w.heap.size w W) => textsB_any (c := c2) (d := d2) (h2.below_all hW) (h4.below_all hW) n2)
  clear hB0 h1 h2 h3 h4 n1 n2
  go_enter Tryz.func42, Tryz.ntmps42
  go_upto_region 1 with fail
  generalize (w.alloc (.cells #[.slice A1 l1.length c1, .slice A2 l2.length c2] 27)).alloc (.cells #[.slice B1 m1.length d1, .slice B2 m2.length d2] 27) = w1 at *
  have a0 : w1.cell? ⟨w.heap.size, 0, none⟩ = some (.slice A1 l1.length c1) := ka.out.cell 0
  have b0 : w1.cell? ⟨w.heap.size + 1, 0, none⟩ = some (.slice B1 m1.length d1) := kb.out.cell 0
  go_wp2_with fail
  refine (hT1.out _ hB.out).mono ?_
  rintro e w2 ⟨rfl, hb0⟩
  have hB2 := hid (hB.out.trans (hb0.mono hB.out.size))
  have a1 : w2.cell? ⟨w.heap.size, 1, none⟩ = some (.slice A2 l2.length c2) := (ka.out.below_all hb0).cell 1
  have b1 : w2.cell? ⟨w.heap.size + 1, 1, none⟩ = some (.slice B2 m2.length d2) := (kb.out.below_all hb0).cell 1
  clear hb0 a0 b0
  cases hd : decide (l1 = m1) with
  | false =>
    have e1 := hid hd
    clear hd
    go_wp2_with fail
    go_ret
    exact ⟨by rw [e1.out]; rfl, hB2.out⟩
  | true =>
    have e1 := hid hd
    clear hd
    go_wp2_with fail
    refine (hT2.out _ hB2.out).mono ?_
    rintro e w3 ⟨rfl, hb0⟩
    have hB3 := hid (hB2.out.trans (hb0.mono hB2.out.size))
    clear hb0 a1 b1
    cases hd : decide (l2 = m2) with
    | false =>
      have e2 := hid hd
      clear hd
      go_wp2_with fail
      go_ret
      exact ⟨by rw [e1.out, e2.out]; rfl, hB3.out⟩
    | true =>
      have e2 := hid hd
      clear hd
      go_wp2_with fail
      go_ret
      exact ⟨by rw [e1.out, e2.out]; rfl, hB3.out⟩
end
/-- an outcome that may be read -/
def OcR (w : World) (v : Value) (o : Oc) : Prop := (o.out.length ≤ 9223372036854775807 ∧ o.ws.length ≤ 9223372036854775807 ∧ o.rd.length ≤ 9223372036854775807 ∧ o.wr.length ≤ 9223372036854775807) ∧ ∃ A1 ac1 A2 ac2 A3 ac3 A4 ac4, v = .agg #[.int .i64 o.code, .int .i64 o.at_, .int .i64 o.ab, .slice A1 o.out.length ac1, .slice A2 o.ws.length ac2, .slice A3 o.rd.length ac3, .slice A4 o.wr.length ac4, .int .i64 o.left] ∧ Rd (fun _ => True) w 3 A1 o.out.length (vcells o.out) ∧ Rd (fun _ => True) w 5 A2 o.ws.length (wcells o.ws) ∧ Rd (fun _ => True) w 1 A3 o.rd.length (strs o.rd) ∧ Rd (fun _ => True) w 1 A4 o.wr.length (strs o.wr)
theorem own_lenB {w : World} {base n : Nat} {e : TypeId} {size : Nat} {v : Value} {xs : List Value} (h : w.ownsRow base e size v n xs) : n ≤ 9223372036854775807 := by
  obtain ⟨A, c, e, h1, h2⟩ := own_form h
  simp only [maxLen] at h2
  omega
theorem OcV.read {n0 : Nat} {w : World} {v : Value} {o : Oc} (h : OcV n0 w v o) : OcR w v o := by
  obtain ⟨A1, c1, A2, c2, A3, c3, A4, c4, e, h1, h2, h3, h4⟩ := h
  exact ⟨⟨own_lenB h1, own_lenB h2, own_lenB h3, own_lenB h4⟩, A1, c1, A2, c2, A3, c3, A4, c4, e, (Rd.of_own' h1).more fun _ _ _ => trivial, (Rd.of_own' h2).more fun _ _ _ => trivial, (Rd.of_own' h3).more fun _ _ _ => trivial, (Rd.of_own' h4).more fun _ _ _ => trivial⟩
theorem OcR.below {w w' : World} {v : Value} {o : Oc} (h : OcR w v o) (hb : Below w.heap.size w w') : OcR w' v o := by
  obtain ⟨hl, A1, c1, A2, c2, A3, c3, A4, c4, e, h1, h2, h3, h4⟩ := h
  exact ⟨hl, A1, c1, A2, c2, A3, c3, A4, c4, e, h1.below_all hb, h2.below_all hb, h3.below_all hb, h4.below_all hb⟩
set_option maxRecDepth 100000 in
set_option maxHeartbeats 4000000 in
/-- two outcomes that say the same -/
theorem rsameB_any {w : World} {v1 v2 : Value} {o : Oc} (h1 : OcR w v1 o) (h2 : OcR w v2 o) : Calls Tryz.prog 21 #[v1, v2] w fun e w' => e = .returned (.bool true) ∧ Below w.heap.size w w' := by
  obtain ⟨hl0, A1, ac1, A2, ac2, A3, ac3, A4, ac4, rfl, p1, p2, p3, p4⟩ := h1
  obtain ⟨_, B1, bc1, B2, bc2, B3, bc3, B4, bc4, rfl, q1, q2, q3, q4⟩ := h2
  have hB0 : Below w.heap.size w ((w.alloc (.cells #[.int .i64 o.code, .int .i64 o.at_, .int .i64 o.ab, .slice A1 o.out.length ac1, .slice A2 o.ws.length ac2, .slice A3 o.rd.length ac3, .slice A4 o.wr.length ac4, .int .i64 o.left] 29)).alloc (.cells #[.int .i64 o.code, .int .i64 o.at_, .int .i64 o.ab, .slice B1 o.out.length bc1, .slice B2 o.ws.length bc2, .slice B3 o.rd.length bc3, .slice B4 o.wr.length bc4, .int .i64 o.left] 29)) := below_two _ _
  have ka := hid (show Blk ((w.alloc (.cells #[.int .i64 o.code, .int .i64 o.at_, .int .i64 o.ab, .slice A1 o.out.length ac1, .slice A2 o.ws.length ac2, .slice A3 o.rd.length ac3, .slice A4 o.wr.length ac4, .int .i64 o.left] 29)).alloc (.cells #[.int .i64 o.code, .int .i64 o.at_, .int .i64 o.ab, .slice B1 o.out.length bc1, .slice B2 o.ws.length bc2, .slice B3 o.rd.length bc3, .slice B4 o.wr.length bc4, .int .i64 o.left] 29)) w.heap.size 29 #[.int .i64 o.code, .int .i64 o.at_, .int .i64 o.ab, .slice A1 o.out.length ac1, .slice A2 o.ws.length ac2, .slice A3 o.rd.length ac3, .slice A4 o.wr.length ac4, .int .i64 o.left] from (Blk.new w _ _).alloc _)
  have kb := hid (show Blk ((w.alloc (.cells #[.int .i64 o.code, .int .i64 o.at_, .int .i64 o.ab, .slice A1 o.out.length ac1, .slice A2 o.ws.length ac2, .slice A3 o.rd.length ac3, .slice A4 o.wr.length ac4, .int .i64 o.left] 29)).alloc (.cells #[.int .i64 o.code, .int .i64 o.at_, .int .i64 o.ab, .slice B1 o.out.length bc1, .slice B2 o.ws.length bc2, .slice B3 o.rd.length bc3, .slice B4 o.wr.length bc4, .int .i64 o.left] 29)) (w.heap.size + 1) 29 #[.int .i64 o.code, .int .i64 o.at_, .int .i64 o.ab, .slice B1 o.out.length bc1, .slice B2 o.ws.length bc2, .slice B3 o.rd.length bc3, .slice B4 o.wr.length bc4, .int .i64 o.left] from Blk.new' _ _ _ (by simp))
  have hB := hid hB0
  have hl := hid hl0
  have hF := hid (fun W (hW : Below w.heap.size w W) => fsameB_any (c1 := ac3) (c2 := ac4) (d1 := bc3) (d2 := bc4) (p3.below_all hW) (p4.below_all hW) (q3.below_all hW) (q4.below_all hW) hl0.2.2.1 hl0.2.2.2)
  have hV := hid (fun W (hW : Below w.heap.size w W) => valuesB_any (c := ac1) (d := bc1) (p1.below_all hW) (q1.below_all hW) hl0.1)
  have hW := hid (fun W (hW : Below w.heap.size w W) => writesB_any (c := ac2) (d := bc2) (p2.below_all hW) (q2.below_all hW) hl0.2.1)
  clear hB0 p1 p2 p3 p4 q1 q2 q3 q4 hl0
  go_enter Tryz.func21, Tryz.ntmps21
  go_upto_region 1 with fail
  generalize ((w.alloc (.cells #[.int .i64 o.code, .int .i64 o.at_, .int .i64 o.ab, .slice A1 o.out.length ac1, .slice A2 o.ws.length ac2, .slice A3 o.rd.length ac3, .slice A4 o.wr.length ac4, .int .i64 o.left] 29)).alloc (.cells #[.int .i64 o.code, .int .i64 o.at_, .int .i64 o.ab, .slice B1 o.out.length bc1, .slice B2 o.ws.length bc2, .slice B3 o.rd.length bc3, .slice B4 o.wr.length bc4, .int .i64 o.left] 29)) = w1 at *
  have a0 : w1.cell? ⟨w.heap.size, 0, none⟩ = some (.int .i64 o.code) := ka.out.cell 0
  have b0 : w1.cell? ⟨w.heap.size + 1, 0, none⟩ = some (.int .i64 o.code) := kb.out.cell 0
  have a1 : w1.cell? ⟨w.heap.size, 1, none⟩ = some (.int .i64 o.at_) := ka.out.cell 1
  have b1 : w1.cell? ⟨w.heap.size + 1, 1, none⟩ = some (.int .i64 o.at_) := kb.out.cell 1
  have a2 : w1.cell? ⟨w.heap.size, 2, none⟩ = some (.int .i64 o.ab) := ka.out.cell 2
  have b2 : w1.cell? ⟨w.heap.size + 1, 2, none⟩ = some (.int .i64 o.ab) := kb.out.cell 2
  have a3 : w1.cell? ⟨w.heap.size, 3, none⟩ = some (.slice A1 o.out.length ac1) := ka.out.cell 3
  have b3 : w1.cell? ⟨w.heap.size + 1, 3, none⟩ = some (.slice B1 o.out.length bc1) := kb.out.cell 3
  have a4 : w1.cell? ⟨w.heap.size, 4, none⟩ = some (.slice A2 o.ws.length ac2) := ka.out.cell 4
  have b4 : w1.cell? ⟨w.heap.size + 1, 4, none⟩ = some (.slice B2 o.ws.length bc2) := kb.out.cell 4
  have a5 : w1.cell? ⟨w.heap.size, 5, none⟩ = some (.slice A3 o.rd.length ac3) := ka.out.cell 5
  have b5 : w1.cell? ⟨w.heap.size + 1, 5, none⟩ = some (.slice B3 o.rd.length bc3) := kb.out.cell 5
  have a6 : w1.cell? ⟨w.heap.size, 6, none⟩ = some (.slice A4 o.wr.length ac4) := ka.out.cell 6
  have b6 : w1.cell? ⟨w.heap.size + 1, 6, none⟩ = some (.slice B4 o.wr.length bc4) := kb.out.cell 6
  have a7 : w1.cell? ⟨w.heap.size, 7, none⟩ = some (.int .i64 o.left) := ka.out.cell 7
  have b7 : w1.cell? ⟨w.heap.size + 1, 7, none⟩ = some (.int .i64 o.left) := kb.out.cell 7
  go_wp2_with fail
  refine (hF.out _ hB.out).mono ?_
  rintro e w2 ⟨rfl, hb0⟩
  have hB := hid (hB.out.trans (hb0.mono hB.out.size))
  have hB9 := hid hb0
  clear hb0 a0 b0 a1 b1 a2 b2 a3 b3 a4 b4 a5 b5 a6 b6 a7 b7
  have ka := hid (ka.out.below_all hB9.out)
  have kb := hid (kb.out.below_all hB9.out)
  have a3 : w2.cell? ⟨w.heap.size, 3, none⟩ = some (.slice A1 o.out.length ac1) := ka.out.cell 3
  have b3 : w2.cell? ⟨w.heap.size + 1, 3, none⟩ = some (.slice B1 o.out.length bc1) := kb.out.cell 3
  clear hB9
  go_wp2_with fail
  refine (hV.out _ hB.out).mono ?_
  rintro e w3 ⟨rfl, hb0⟩
  have hB := hid (hB.out.trans (hb0.mono hB.out.size))
  have ka := hid (ka.out.below_all hb0)
  have kb := hid (kb.out.below_all hb0)
  clear hb0 a3 b3
  have a4 : w3.cell? ⟨w.heap.size, 4, none⟩ = some (.slice A2 o.ws.length ac2) := ka.out.cell 4
  have b4 : w3.cell? ⟨w.heap.size + 1, 4, none⟩ = some (.slice B2 o.ws.length bc2) := kb.out.cell 4
  go_wp2_with fail
  refine (hW.out _ hB.out).mono ?_
  rintro e w4 ⟨rfl, hb0⟩
  have hB := hid (hB.out.trans (hb0.mono hB.out.size))
  clear hb0 a4 b4
  go_wp2_with fail
  go_ret
  exact ⟨rfl, hB.out⟩
def longJ (p : Pr) (args : List Vl) (src : List Kv) (f : Int) : Bool := decide (2000 < p.code.length + p.cs.length + args.length + src.length) || (decide (300 < src.length) || (decide (5000 < f) && decide (f ≤ 100000)))
set_option maxRecDepth 100000 in
set_option maxHeartbeats 4000000 in
theorem longI_any {w : World} {p : Pr} {args : List Vl} {src : List Kv} {f : Int} {Ac Ai Aa Al : Option Addr} {cc ci ca cl : Nat} (hn : p.code.length ≤ 1000000000000000 ∧ p.cs.length ≤ 1000000000000000 ∧ args.length ≤ 1000000000000000 ∧ src.length ≤ 1000000000000000) : Calls Tryz.prog 18 #[.agg #[.int .i64 p.args, .slice Ac p.cs.length cc, .slice Ai p.code.length ci, .slice Aa args.length ca, .slice Al src.length cl, .int .i64 f]] w fun e w' => e = .returned (.bool (longJ p args src f)) ∧ Below w.heap.size w w' := by
  have kj := hid (Blk.new w 36 #[.int .i64 p.args, .slice Ac p.cs.length cc, .slice Ai p.code.length ci, .slice Aa args.length ca, .slice Al src.length cl, .int .i64 f])
  have hB := hid ((Below.refl w.heap.size w).alloc (Nat.le_refl _) (.cells #[.int .i64 p.args, .slice Ac p.cs.length cc, .slice Ai p.code.length ci, .slice Aa args.length ca, .slice Al src.length cl, .int .i64 f] 36))
  obtain ⟨n1, hn1⟩ : ∃ n1 : Nat, Hid (n1 = p.code.length + p.cs.length) := ⟨_, hid rfl⟩
  obtain ⟨n2, hn2⟩ : ∃ n2 : Nat, Hid (n2 = n1 + args.length) := ⟨_, hid rfl⟩
  obtain ⟨n3, hn3⟩ : ∃ n3 : Nat, Hid (n3 = n2 + src.length) := ⟨_, hid rfl⟩
  have s1 : IntKind.i64.wrap ((p.code.length : Int) + (p.cs.length : Int)) = (n1 : Int) := by rw [IntKind.wrap_i64]; have := hn1.out; omega
  have s2 : IntKind.i64.wrap ((n1 : Int) + (args.length : Int)) = (n2 : Int) := by rw [IntKind.wrap_i64]; have := hn1.out; have := hn2.out; omega
  have s3 : IntKind.i64.wrap ((n2 : Int) + (src.length : Int)) = (n3 : Int) := by rw [IntKind.wrap_i64]; have := hn1.out; have := hn2.out; have := hn3.out; omega
  have hres : Hid (longJ p args src f = (decide (2000 < n3) || (decide (300 < src.length) || (decide (5000 < f) && decide (f ≤ 100000))))) := hid (by unfold longJ; rw [hn3.out, hn2.out, hn1.out])
  clear hn
  go_enter Tryz.func18, Tryz.ntmps18
  go_upto_region 1 with fail
  generalize w.alloc (.cells #[.int .i64 p.args, .slice Ac p.cs.length cc, .slice Ai p.code.length ci, .slice Aa args.length ca, .slice Al src.length cl, .int .i64 f] 36) = w1 at *
  have x1 : w1.cell? ⟨w.heap.size, 1, none⟩ = some (.slice Ac p.cs.length cc) := kj.out.cell 1
  have x2 : w1.cell? ⟨w.heap.size, 2, none⟩ = some (.slice Ai p.code.length ci) := kj.out.cell 2
  have x3 : w1.cell? ⟨w.heap.size, 3, none⟩ = some (.slice Aa args.length ca) := kj.out.cell 3
  have x4 : w1.cell? ⟨w.heap.size, 4, none⟩ = some (.slice Al src.length cl) := kj.out.cell 4
  have x5 : w1.cell? ⟨w.heap.size, 5, none⟩ = some (.int .i64 f) := kj.out.cell 5
  by_cases c1 : 2000 < n3
  · have d1 : decide ((2000 : Int) < (n3 : Int)) = true := decide_eq_true (by omega)
    have d2 : decide (2000 < n3) = true := decide_eq_true c1
    have hf : Hid (longJ p args src f = true) := hid (by rw [hres.out, d2]; rfl)
    clear c1
    go_wp2_with fail
    go_ret
    exact ⟨by rw [hf.out]; rfl, hB.out⟩
  have d1 : decide ((2000 : Int) < (n3 : Int)) = false := decide_eq_false (by omega)
  have d2 : decide (2000 < n3) = false := decide_eq_false c1
  have hf1 : Hid (longJ p args src f = (decide (300 < src.length) || (decide (5000 < f) && decide (f ≤ 100000)))) := hid (by rw [hres.out, d2]; rfl)
  clear c1
  by_cases c2 : 300 < src.length
  · have d3 : decide ((300 : Int) < (src.length : Int)) = true := decide_eq_true (by omega)
    have d4 : decide (300 < src.length) = true := decide_eq_true c2
    have hf : Hid (longJ p args src f = true) := hid (by rw [hf1.out, d4]; rfl)
    clear c2
    go_wp2_with fail
    go_ret
    exact ⟨by rw [hf.out]; rfl, hB.out⟩
  have d3 : decide ((300 : Int) < (src.length : Int)) = false := decide_eq_false (by omega)
  have d4 : decide (300 < src.length) = false := decide_eq_false c2
  have hf2 : Hid (longJ p args src f = (decide (5000 < f) && decide (f ≤ 100000))) := hid (by rw [hf1.out, d4]; rfl)
  clear c2
  by_cases c3 : 5000 < f
  · have d5 : decide (5000 < f) = true := decide_eq_true c3
    have hf3 : Hid (longJ p args src f = decide (f ≤ 100000)) := hid (by rw [hf2.out, d5]; rfl)
    clear c3
    cases d6 : decide (f ≤ 100000) with
    | true =>
      have hf : Hid (longJ p args src f = true) := hid (by rw [hf3.out, d6])
      go_wp2_with fail
      go_ret
      exact ⟨by rw [hf.out]; rfl, hB.out⟩
    | false =>
      have hf : Hid (longJ p args src f = false) := hid (by rw [hf3.out, d6])
      go_wp2_with fail
      go_ret
      exact ⟨by rw [hf.out]; rfl, hB.out⟩
  · have d5 : decide (5000 < f) = false := decide_eq_false c3
    have hf : Hid (longJ p args src f = false) := hid (by rw [hf2.out, d5]; rfl)
    clear c3
    go_wp2_with fail
    go_ret
    exact ⟨by rw [hf.out]; rfl, hB.out⟩
end Go.Proofs.YtdmogoaaecdbaaaGreatDoor

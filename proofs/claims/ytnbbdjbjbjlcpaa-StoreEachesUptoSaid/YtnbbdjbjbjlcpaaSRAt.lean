/- The document's store: New, at, Claimed, Dump. -/
import Derived.Test.YtnbbdjbjbjlcpaaSNew
import Derived.Test.YtnbbdjbjbjlcpaaSSort
namespace Go.Proofs.Ytnbbdjbjbjlcpaa
open Go.RowKit
set_option linter.unusedVariables false
set_option linter.unusedSimpArgs false

theorem has_pos {L : List Kv} {k : ByteArray} (ha : Asc L) (h : posK k L < L.length) : hasK k L = decide ((L[posK k L]).1 = k) := by
  cases hh : hasK k L with
  | true =>
    obtain ⟨x, h1, h2, _⟩ := pos_get ha hh
    rw [List.getElem?_eq_getElem h] at h1
    injection h1 with h1
    rw [h1, h2]; simp
  | false =>
    symm
    apply decide_eq_false
    intro e
    have : hasK k L = true := hasK_mem.2 ⟨_, List.getElem_mem h, e⟩
    rw [hh] at this; cases this
theorem has_end {L : List Kv} {k : ByteArray} (ha : Asc L) (h : ¬ posK k L < L.length) : hasK k L = false := by
  cases hh : hasK k L with
  | false => rfl
  | true =>
    obtain ⟨x, h1, _⟩ := pos_get ha hh
    exact absurd (List.getElem?_eq_some_iff.1 h1).1 h
theorem rnew_bad (p r : Int) (w : World) (h : goodPR p r = false) : Calls Try.prog 11 #[.int .i64 p, .int .i64 r] w fun e w' => e = .returned (.tuple #[.pointer none, .int .i64 2]) ∧ w' = w := by
  have hc : p < 1 ∨ (1 ≤ p ∧ 64 < p) ∨ (1 ≤ p ∧ p ≤ 64 ∧ r < 1) ∨ (1 ≤ p ∧ p ≤ 64 ∧ 1 ≤ r ∧ 4096 < r) := by
    unfold goodPR at h
    simp at h
    omega
  clear h
  rcases hc with h | ⟨h1, h⟩ | ⟨h1, h2, h⟩ | ⟨h1, h2, h3, h⟩
  · have t1 : decide (p < 1) = true := decide_eq_true h
    clear h
    go_enter Try.func11, Try.ntmps11
    go_wp2_with fail
    go_ret2
    exact ⟨rfl, rfl⟩
  · have t1 : decide (p < 1) = false := decide_eq_false (by omega)
    have t2 : decide (64 < p) = true := decide_eq_true h
    clear h h1
    go_enter Try.func11, Try.ntmps11
    go_wp2_with fail
    go_ret2
    exact ⟨rfl, rfl⟩
  · have t1 : decide (p < 1) = false := decide_eq_false (by omega)
    have t2 : decide (64 < p) = false := decide_eq_false (by omega)
    have t3 : decide (r < 1) = true := decide_eq_true h
    clear h h1 h2
    go_enter Try.func11, Try.ntmps11
    go_wp2_with fail
    go_ret2
    exact ⟨rfl, rfl⟩
  · have t1 : decide (p < 1) = false := decide_eq_false (by omega)
    have t2 : decide (64 < p) = false := decide_eq_false (by omega)
    have t3 : decide (r < 1) = false := decide_eq_false (by omega)
    have t4 : decide (4096 < r) = true := decide_eq_true h
    clear h h1 h2 h3
    go_enter Try.func11, Try.ntmps11
    go_wp2_with fail
    go_ret2
    exact ⟨rfl, rfl⟩
theorem rnew_ok (p r : Nat) (w : World) (hp : 1 ≤ p ∧ p ≤ 64) (hr : 1 ≤ r ∧ r ≤ 4096) : Calls Try.prog 11 #[.int .i64 p, .int .i64 r] w fun e w' => ∃ S g, e = .returned (.tuple #[.pointer (some ⟨g, 0, none⟩), .int .i64 0]) ∧ RAt S w' g ⟨p, r, []⟩ ∧ (∀ j, S j → w.heap.size ≤ j) ∧ Below w.heap.size w w' := by
  have t1 : decide ((p : Int) < 1) = false := decide_eq_false (by omega)
  have t2 : decide (64 < (p : Int)) = false := decide_eq_false (by omega)
  have t3 : decide ((r : Int) < 1) = false := decide_eq_false (by omega)
  have t4 : decide (4096 < (r : Int)) = false := decide_eq_false (by omega)
  have t2n : decide (64 < p) = false := decide_eq_false (by omega)
  have t4n : decide (4096 < r) = false := decide_eq_false (by omega)
  have hfin : Hid (RAt (fun j => j = w.heap.size) (w.alloc (.cells #[.int .i64 p, .int .i64 r, .slice none 0 0] 63)) w.heap.size ⟨p, r, []⟩) := hid ⟨none, 0, Blk.new w _ _, Rd.nil_, .inl ⟨rfl, rfl, rfl⟩, rfl, fun j hj => by subst hj; simp, st_ok hp hr⟩
  clear hp hr
  go_enter Try.func11, Try.ntmps11
  go_wp2_with fail
  go_ret2
  exact ⟨_, _, rfl, hfin.out, fun j hj => by omega, (Below.refl _ _).alloc (Nat.le_refl _) _⟩
section
variable {S : Nat → Prop} {w w' : World} {r : Nat} {s : St}
set_option maxRecDepth 100000 in
set_option maxHeartbeats 4000000 in
theorem at_any (k : ByteArray) (h : RAt S w r s) : Calls Try.prog 32 #[.pointer (some ⟨r, 0, none⟩), .string k] w fun e w' => e = .returned (.tuple #[.int .i64 (posK k s.L : Nat), .bool (hasK k s.L)]) ∧ Below w.heap.size w w' := by
  obtain ⟨A, c, h⟩ := h
  have HH := hid h
  have hlen := h.ok.len
  have hN : (s.L.length : Int) ≤ 262144 := by omega
  have c2 := h.cells.2.2
  clear h hlen
  go_enter Try.func32, Try.ntmps32
  go_wp2_with fail
  go_quiet (fail)
  go_wp2_with fail
  go_loopw [6, 7] (fun u v wr => ∃ lo hi : Nat, u = .int .i64 lo ∧ v = .int .i64 hi ∧ lo ≤ posK k s.L ∧ posK k s.L ≤ hi ∧ hi ≤ s.L.length ∧ Below w.heap.size w wr) (fun u v _ => (intOf v).toNat - (intOf u).toNat)
  case atStart => exact ⟨0, _, rfl, rfl, Nat.zero_le _, posK_le, Nat.le_refl _, below_drewN (Below.refl _ _) _⟩
  case round =>
    clear c2
    obtain ⟨lo, hi, rfl, rfl, h1, h2, h3, hB0⟩ := hrel
    have hB := hid hB0
    clear hB0
    have hP := HH.out.below hB.out
    have c2 : wr.cell? ⟨r, 2, none⟩ = some (.slice A s.L.length c) := hP.cells.2.2
    by_cases hlt : lo < hi
    · have i1 : (lo : Int) < (hi : Int) := by omega
      obtain ⟨m, hm⟩ : ∃ m, m = (lo + hi) / 2 := ⟨_, rfl⟩
      have x1 : IntKind.i64.wrap ((lo : Int) + (hi : Int)) = (lo : Int) + (hi : Int) := by rw [IntKind.wrap_i64]; omega
      have x2 : ((lo : Int) + (hi : Int)) / 2 = (m : Int) := by omega
      have x3 : ((lo : Int) + (hi : Int)).tdiv 2 = (m : Int) := by rw [Int.tdiv_eq_ediv_of_nonneg (by omega)]; omega
      have x4 : IntKind.i64.wrap (m : Int) = (m : Int) := by rw [IntKind.wrap_i64]; omega
      have hml : m < s.L.length := by omega
      have i2 : (m : Int) < (s.L.length : Int) := by omega
      obtain ⟨b, o, rfl, _, _, d0, -⟩ := rd_kv hP.rd hml
      have hpl := pos_lt (k := k) HH.out.ok.asc m _ (List.getElem?_eq_getElem hml)
      have hb := hid (show lo ≤ m ∧ m < hi by omega)
      have hh := hid (show lo ≤ posK k s.L ∧ posK k s.L ≤ hi ∧ hi ≤ s.L.length from ⟨h1, h2, h3⟩)
      have x5 : IntKind.i64.wrap ((m : Int) + 1) = (m : Int) + 1 := by rw [IntKind.wrap_i64]; omega
      obtain ⟨x, hx⟩ : ∃ x, x = (s.L[m]).1 := ⟨_, rfl⟩
      rw [← hx] at d0 hpl
      clear hx
      cases hl0 : ltB x k with
      | true =>
        have hl : Op.bytesLess x.toList k.toList = true := hl0
        have hp2 := hid (hpl.1 hl0)
        clear hP hm hml hpl hl0 h1 h2 h3 hlt
        go_wp2_with fail
        go_roundw
        case rel => exact ⟨m + 1, hi, by go_num, rfl, hp2.out, hh.out.2.1, hh.out.2.2, hB.out⟩
        case measure => have := hb.out; simp [intOf]; omega
      | false =>
        have hl : Op.bytesLess x.toList k.toList = false := hl0
        have hp2 : Hid (posK k s.L ≤ m) := hid (by
          have : ¬ m < posK k s.L := fun e => by rw [hpl.2 e] at hl0; cases hl0
          omega)
        clear hP hm hml hpl hl0 h1 h2 h3 hlt
        go_wp2_with fail
        go_roundw
        case rel => exact ⟨lo, m, rfl, rfl, hh.out.1, hp2.out, by have := hb.out; have := hh.out; omega, hB.out⟩
        case measure => have := hb.out; simp [intOf]; omega
    · obtain rfl : hi = lo := by omega
      have hpe0 : posK k s.L = hi := by omega
      have hpe := hid hpe0
      by_cases hpl : hi < s.L.length
      · obtain ⟨b, o, rfl, _, _, d0, -⟩ := rd_kv hP.rd hpl
        have hh0 := has_pos (k := k) HH.out.ok.asc (by rw [hpe0]; exact hpl)
        simp only [hpe0] at hh0
        have i2 : (hi : Int) < (s.L.length : Int) := by omega
        have hbd : ((s.L[hi]).1.toList == k.toList) = decide ((s.L[hi]).1 = k) := bytes_dec _ _
        rw [← hh0] at hbd
        obtain ⟨x, hx⟩ : ∃ x, x = (s.L[hi]).1 := ⟨_, rfl⟩
        rw [← hx] at d0 hbd
        obtain ⟨v, hv⟩ : ∃ v, v = hasK k s.L := ⟨_, rfl⟩
        rw [← hv] at hbd
        have hvv := hid hv
        clear hP h1 h2 h3 hlt hpl hh0 hx hpe0 hv
        go_wp2_with fail
        go_quiet (fail)
        go_wp2_with fail
        go_ret2
        exact ⟨by rw [hpe.out, ← hvv.out]; rfl, below_drewN hB.out _⟩
      · have hh := hid (has_end (k := k) HH.out.ok.asc (by rw [hpe0]; exact hpl))
        obtain rfl : hi = s.L.length := by omega
        clear hP h1 h2 h3 hlt hpl hpe0
        go_wp2_with fail
        go_quiet (fail)
        go_wp2_with fail
        go_ret2
        exact ⟨by rw [hpe.out, hh.out]; rfl, below_drewN hB.out _⟩
theorem rclaimed_any (k : ByteArray) (h : RAt S w r s) : Calls Try.prog 31 #[.pointer (some ⟨r, 0, none⟩), .string k] w fun e w' => e = .returned (.bool (hasK k s.L)) ∧ Below w.heap.size w w' := by
  have ha := hid (at_any k h)
  clear h
  go_enter Try.func31, Try.ntmps31
  go_wp2_with fail
  refine ha.out.mono ?_
  rintro e w2 ⟨rfl, hb0⟩
  have hb := hid hb0
  clear hb0
  go_wp2_with fail
  go_ret
  exact ⟨rfl, hb.out⟩
end
end Go.Proofs.Ytnbbdjbjbjlcpaa

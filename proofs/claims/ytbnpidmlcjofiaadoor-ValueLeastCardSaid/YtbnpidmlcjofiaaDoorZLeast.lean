/- value: Least, in the program and in the document. -/
import Derived.Test.YtbnpidmlcjofiaaDoorJ12
import Derived.Test.YtbnpidmlcjofiaaDoorZNilTake
import Derived.Deep.RegionHeld3
namespace Go.Proofs.YtbnpidmlcjofiaaDoor
open Go.RowKit
set_option linter.unusedVariables false
set_option linter.unusedSimpArgs false

theorem cellB {B : Nat} {w X : World} (h : Below B w X) {k q : Nat} (hk : k < B) : X.cell? ⟨k, q, none⟩ = w.cell? ⟨k, q, none⟩ := by
  simp only [World.cell?, h.block k hk]
def leastL : Vl → List Vl → Vl
  | x, [] => x
  | x, v :: r => leastL (if Vl.cmp v x < 0 then v else x) r
def leastR : List Vl → Vl × Bool
  | [] => (vl0, false)
  | x :: r => (leastL x r, true)
theorem least_step {u : Vl} {r : List Vl} {k : Nat} (h : k < r.length) : leastL u (r.drop k) = leastL (if Vl.cmp r[k] u < 0 then r[k] else u) (r.drop (k + 1)) := by
  rw [List.drop_eq_getElem_cons h]; rfl
/-- the result's cell, the least one's cell -/
structure LS (w W : World) (g : Nat) (u : Vl) : Prop where
  z : VZ w W vl0
  uv : Blk W g 24 #[.int .i64 u.k, .int .i64 u.n, .string u.s]
  gb : w.heap.size < g
section
variable {w W W' : World} {g : Nat} {u : Vl}
theorem LS.below (h : LS w W g u) (hb : Below W.heap.size W W') : LS w W' g u := ⟨h.z.below hb, h.uv.below_all hb, h.gb⟩
theorem LS.set (h : LS w W g u) (u' : Vl) : LS w (((W.setCell ⟨g, 0, none⟩ (.int .i64 u'.k)).setCell ⟨g, 1, none⟩ (.int .i64 u'.n)).setCell ⟨g, 2, none⟩ (.string u'.s)) g u' := by
  have hg := h.gb
  have U : Upd (fun k => k = g) W (((W.setCell ⟨g, 0, none⟩ (.int .i64 u'.k)).setCell ⟨g, 1, none⟩ (.int .i64 u'.n)).setCell ⟨g, 2, none⟩ (.string u'.s)) :=
    (((Upd.refl (fun k => k = g) W).setCell (p := ⟨g, 0, none⟩) (fun _ => rfl) _).setCell (p := ⟨g, 1, none⟩) (fun _ => rfl) _).setCell (p := ⟨g, 2, none⟩) (fun _ => rfl) _
  refine ⟨⟨h.z.zv.upd U (by omega), h.z.bel.trans (U.below (B := w.heap.size) h.z.bel.size fun k hk e => by omega)⟩, ?_, hg⟩
  simpa using ((h.uv.set_ 0 (.int .i64 u'.k)).set_ 1 (.int .i64 u'.n)).set_ 2 (.string u'.s)
theorem LS.facts (h : LS w W g u) : W.cell? ⟨g, 0, none⟩ = some (.int .i64 u.k) ∧ W.cell? ⟨g, 1, none⟩ = some (.int .i64 u.n) ∧ W.cell? ⟨g, 2, none⟩ = some (.string u.s) ∧ (∀ q, W.frozen? ⟨g, q, none⟩ = false) ∧ g < W.heap.size :=
  ⟨h.uv.cell 0, h.uv.cell 1, h.uv.cell 2, fun q => h.uv.frozen q, h.uv.lt⟩
end

set_option maxRecDepth 100000 in
set_option maxHeartbeats 4000000 in
theorem least_any (A : Option Addr) (c : Nat) (l : List Vl) (w : World) (ha : Rd (fun b => b < w.heap.size) w 3 A l.length (vcells l)) (hc : l.length ≤ c) (hl : l.length ≤ 140737488351232) (hcm : c ≤ 9223372036854775807) : Calls Tryd.prog 40 #[.slice A l.length c] w fun e w' => e = .returned (.tuple #[.agg #[.int .i64 (leastR l).1.k, .int .i64 (leastR l).1.n, .string (leastR l).1.s], .bool (leastR l).2]) ∧ Below w.heap.size w w' := by
  have hz := hid (VZ.start w)
  have hAw := hid ha
  have hA := hid (ha.below_all hz.out.bel)
  clear ha
  cases l with
  | nil =>
    clear hc hl
    go_enter Tryd.func40, Tryd.ntmps40
    go_upto_region 1 with fail
    generalize w.alloc (.cells #[.int .i64 0, .int .i64 0, .string ⟨#[]⟩] 24) = W at *
    obtain ⟨fz, hltz, z0, z1, z2⟩ := hz.out.facts
    go_wp2_with fail
    have hT := hz.out.set ⟨0, 0, ⟨#[]⟩⟩
    try dsimp only at hT
    obtain ⟨-, -, z0, z1, z2⟩ := hT.facts
    try dsimp only at z0 z1 z2
    refine bodyPost_ret (v := .tuple #[.agg #[.int .i64 (⟨0, 0, ⟨#[]⟩⟩ : Vl).k, .int .i64 (⟨0, 0, ⟨#[]⟩⟩ : Vl).n, .string (⟨0, 0, ⟨#[]⟩⟩ : Vl).s], .bool false]) (by simp [results, Tryd.results40, go_sem, z0, z1, z2]) rfl ⟨?_, hT.bel⟩
    rfl
  | cons x r =>
    obtain ⟨b, o, rfl, hb, x0, x1, x2⟩ := Rd.val_at hA.out (k := 0) (by simp)
    simp only [Nat.zero_mul, Nat.add_zero, List.getElem_cons_zero] at x0 x1 x2
    have hcm9 : (c : Int) ≤ 9223372036854775807 := by omega
    have hfin0 : leastR (x :: r) = (leastL x r, true) := rfl
    generalize leastR (x :: r) = RR at *
    generalize hRl0 : leastL x r = RL at *
    have hfin := hid hfin0
    have hRl := hid hRl0
    clear hRl0
    obtain ⟨n, hn⟩ : ∃ n, n = (x :: r).length := ⟨_, rfl⟩
    rw [← hn] at hl hc hA ⊢
    have hN : Hid (n = r.length + 1) := hid hn
    have hbb : Hid (b < w.heap.size) := hid (by
      obtain ⟨b', o', e, hb', -⟩ := Rd.val_at hAw.out (k := 0) (by simp)
      injection e with e
      injection e with e1 e2
      rw [e1]; exact hb')
    have hn1 : (1 : Int) ≤ (n : Int) := by simp at hn; omega
    have hn2 : ((n : Int) == 0) = false := by simp; omega
    have hnc : (n : Int) ≤ (c : Int) := by omega
    have hnl : (n : Int) ≤ 140737488351232 := by omega
    have hch := hid hc; have hlh := hid hl
    clear hc hl hn hfin0
    go_enter Tryd.func40, Tryd.ntmps40
    go_upto_region 1 with fail
    generalize w.alloc (.cells #[.int .i64 0, .int .i64 0, .string ⟨#[]⟩] 24) = W at *
    go_upto_region 4 with fail
    have hW4 : Below W.heap.size W (W.alloc (.cells #[.int .i64 x.k, .int .i64 x.n, .string x.s] 24)) := (Below.refl _ _).alloc (Nat.le_refl _) _
    have hLS : Hid (LS w (W.alloc (.cells #[.int .i64 x.k, .int .i64 x.n, .string x.s] 24)) W.heap.size x) := hid ⟨hz.out.below hW4, Blk.new W _ _, by have := hz.out.zv.lt; exact this⟩
    have hA := hid (hA.out.below_all hW4)
    obtain ⟨g, hg⟩ : ∃ g, g = W.heap.size := ⟨_, rfl⟩
    rw [← hg] at hLS
    generalize W.alloc (.cells #[.int .i64 x.k, .int .i64 x.n, .string x.s] 24) = W4 at *
    simp only [← hg]
    clear hW4 hg hz x0 x1 x2 hb
    have hA1 := hid hA.out
    by_cases hc9 : c = 1
    · have hr0 : r = [] := List.eq_nil_of_length_eq_zero (by have := hch.out; have := hN.out; omega)
      subst hr0 hc9
      have hfin2 : Hid (x = RL) := hid (by rw [← hRl.out]; rfl)
      have hz := hid hLS.out.z
      obtain ⟨x0, x1, x2, fz, hltg⟩ := hLS.out.facts
      obtain ⟨fzz, hltz, z0, z1, z2⟩ := hz.out.facts
      go_wp2_with fail
      go_loopw [6, 17] (fun _ v wr => v = .int .i64 0 ∧ wr = W4) (fun _ _ _ => 0)
      case atStart => exact ⟨rfl, rfl⟩
      case round =>
        obtain ⟨rfl, hwr⟩ := hrel
        obtain rfl := hwr.symm
        go_wp2_with fail
        have hT := hz.out.set x
        try dsimp only at hT
        obtain ⟨-, -, z0, z1, z2⟩ := hT.facts
        try dsimp only at z0 z1 z2
        refine bodyPost_ret (v := .tuple #[.agg #[.int .i64 (x : Vl).k, .int .i64 (x : Vl).n, .string (x : Vl).s], .bool true]) (by simp [results, Tryd.results40, go_sem, z0, z1, z2]) rfl ⟨?_, hT.bel⟩
        rw [hfin.out, ← hfin2.out]
    · have i0 : ¬ ((c : Int) = 1) := by omega
      have i1 : (1 : Int) < (c : Int) := by omega
      go_wp2_with fail
      go_loopw [6, 17] (fun _ v wr => ∃ (k : Nat) (u : Vl), v = .int .i64 k ∧ k ≤ r.length ∧ LS w wr g u ∧ leastL u (r.drop k) = RL) (fun _ v _ => r.length - (intOf v).toNat)
      case atStart => exact ⟨0, x, rfl, Nat.zero_le _, hLS.out, by rw [List.drop_zero]; exact hRl.out⟩
      case round =>
        clear hLS
        obtain ⟨k, u, rfl, hk, hLS, hJ⟩ := hrel
        have hLS := hid hLS; have hJ := hid hJ
        by_cases hlt : k < r.length
        · have i2 : k < n - 1 := by have := hN.out; omega
          obtain ⟨b', o', e', hb', v0, v1, v2⟩ := Rd.val_at (Rd.below hAw.out hLS.out.z.bel fun b h => h) (k := k + 1) (by simp; exact hlt)
          injection e' with e'
          injection e' with e1 e2
          subst e1 e2
          simp only [List.getElem_cons_succ] at v0 v1 v2
          rw [show o + (k + 1) * 3 = o + 3 + k * 3 by omega] at v0 v1 v2

          have hst := least_step (u := u) hlt
          obtain ⟨y, hy⟩ : ∃ y, y = r[k] := ⟨_, rfl⟩
          rw [← hy] at hst
          simp only [← hy] at v0 v1 v2
          have hkn := hid hlt
          clear hy hb' hlt hk
          have hgl := hid hLS.out.uv.lt
          go_upto_region 7 with fail
          have hB5 : Below wr.heap.size wr (wr.alloc (.cells #[.int .i64 y.k, .int .i64 y.n, .string y.s] 24)) := (Below.refl _ _).alloc (Nat.le_refl _) _
          have kY := hid (Blk.new wr 24 #[.int .i64 y.k, .int .i64 y.n, .string y.s])
          have hLS := hid (hLS.out.below hB5)
          obtain ⟨p, hp⟩ : ∃ p, p = wr.heap.size := ⟨_, rfl⟩
          rw [← hp] at kY
          generalize wr.alloc (.cells #[.int .i64 y.k, .int .i64 y.n, .string y.s] 24) = w5 at *
          simp only [← hp]
          clear hB5 hp v0 v1 v2
          obtain ⟨x0, x1, x2, fz, hltg⟩ := hLS.out.facts
          have y0 : w5.cell? ⟨p, 0, none⟩ = some (.int .i64 y.k) := kY.out.cell 0
          have y1 : w5.cell? ⟨p, 1, none⟩ = some (.int .i64 y.n) := kY.out.cell 1
          have y2 : w5.cell? ⟨p, 2, none⟩ = some (.string y.s) := kY.out.cell 2
          go_wp2_with fail
          refine (compare_any y u w5).mono ?_
          rintro e w6 ⟨rfl, hb6⟩
          have hLS := hid (hLS.out.below hb6)
          have kY := hid (kY.out.below_all hb6)
          clear hb6 x0 x1 x2 fz hltg y0 y1 y2
          obtain ⟨x0, x1, x2, fz, hltg⟩ := hLS.out.facts
          have y0 : w6.cell? ⟨p, 0, none⟩ = some (.int .i64 y.k) := kY.out.cell 0
          have y1 : w6.cell? ⟨p, 1, none⟩ = some (.int .i64 y.n) := kY.out.cell 1
          have y2 : w6.cell? ⟨p, 2, none⟩ = some (.string y.s) := kY.out.cell 2
          by_cases hcm : Vl.cmp y u < 0
          · rw [if_pos hcm] at hst
            have hJ2 : Hid (leastL y (r.drop (k + 1)) = RL) := hid (by rw [← hst]; exact hJ.out)
            clear hst
            go_wp2_with fail
            refine ⟨⟨k + 1, y, by first | rfl | simp, hkn.out, hLS.out.set y, hJ2.out⟩, ?_⟩
            simp [intOf]
            have := hkn.out; omega
          · rw [if_neg hcm] at hst
            have hJ2 : Hid (leastL u (r.drop (k + 1)) = RL) := hid (by rw [← hst]; exact hJ.out)
            clear hst
            go_wp2_with fail
            refine ⟨⟨k + 1, u, by first | rfl | simp, hkn.out, hLS.out, hJ2.out⟩, ?_⟩
            simp [intOf]
            have := hkn.out; omega
        · have i2 : ¬ (k < n - 1) := by have := hN.out; omega
          have hfin2 : Hid (u = RL) := hid (by rw [← hJ.out, List.drop_eq_nil_of_le (by omega)]; rfl)
          have hz := hid hLS.out.z
          obtain ⟨x0, x1, x2, fz, hltg⟩ := hLS.out.facts
          obtain ⟨fzz, hltz, z0, z1, z2⟩ := hz.out.facts
          clear hlt
          go_wp2_with fail

          have hT := hz.out.set u
          try dsimp only at hT
          obtain ⟨-, -, z0, z1, z2⟩ := hT.facts
          try dsimp only at z0 z1 z2
          refine bodyPost_ret (v := .tuple #[.agg #[.int .i64 (u : Vl).k, .int .i64 (u : Vl).n, .string (u : Vl).s], .bool true]) (by simp [results, Tryd.results40, go_sem, z0, z1, z2]) rfl ⟨?_, hT.bel⟩
          rw [hfin.out, ← hfin2.out]


set_option maxRecDepth 100000 in
set_option maxHeartbeats 4000000 in
theorem rleast_any (A : Option Addr) (c : Nat) (l : List Vl) (w : World) (ha : Rd (fun b => b < w.heap.size) w 3 A l.length (vcells l)) (hl : l.length ≤ 140737488351232) : Calls Tryd.prog 41 #[.slice A l.length c] w fun e w' => e = .returned (.tuple #[.agg #[.int .i64 (leastR l).1.k, .int .i64 (leastR l).1.n, .string (leastR l).1.s], .bool (leastR l).2]) ∧ Below w.heap.size w w' := by
  have hz := hid (VZ.start w)
  have hAw := hid ha
  have hA := hid (ha.below_all hz.out.bel)
  clear ha
  cases l with
  | nil =>
    clear hl
    go_enter Tryd.func41, Tryd.ntmps41
    go_upto_region 1 with fail
    generalize w.alloc (.cells #[.int .i64 0, .int .i64 0, .string ⟨#[]⟩] 24) = W at *
    obtain ⟨fz, hltz, z0, z1, z2⟩ := hz.out.facts
    go_wp2_with fail
    have hT := hz.out.set ⟨0, 0, ⟨#[]⟩⟩
    try dsimp only at hT
    obtain ⟨-, -, z0, z1, z2⟩ := hT.facts
    try dsimp only at z0 z1 z2
    refine bodyPost_ret (v := .tuple #[.agg #[.int .i64 (⟨0, 0, ⟨#[]⟩⟩ : Vl).k, .int .i64 (⟨0, 0, ⟨#[]⟩⟩ : Vl).n, .string (⟨0, 0, ⟨#[]⟩⟩ : Vl).s], .bool false]) (by simp [results, Tryd.results41, go_sem, z0, z1, z2]) rfl ⟨?_, hT.bel⟩
    rfl
  | cons x r =>
    obtain ⟨b, o, rfl, hb, x0, x1, x2⟩ := Rd.val_at hA.out (k := 0) (by simp)
    simp only [Nat.zero_mul, Nat.add_zero, List.getElem_cons_zero] at x0 x1 x2
    have hfin0 : leastR (x :: r) = (leastL x r, true) := rfl
    generalize leastR (x :: r) = RR at *
    generalize hRl0 : leastL x r = RL at *
    have hfin := hid hfin0
    have hRl := hid hRl0
    clear hRl0
    obtain ⟨n, hn⟩ : ∃ n, n = (x :: r).length := ⟨_, rfl⟩
    rw [← hn] at hl hA ⊢
    have hN : Hid (n = r.length + 1) := hid hn
    have hbb : Hid (b < w.heap.size) := hid (by
      obtain ⟨b', o', e, hb', -⟩ := Rd.val_at hAw.out (k := 0) (by simp)
      injection e with e
      injection e with e1 e2
      rw [e1]; exact hb')
    have hn1 : (1 : Int) ≤ (n : Int) := by simp at hn; omega
    have hn2 : ((n : Int) == 0) = false := by simp; omega
    have hnl : (n : Int) ≤ 140737488351232 := by omega
    have hlh := hid hl
    clear hl hn hfin0
    go_enter Tryd.func41, Tryd.ntmps41
    go_upto_region 1 with fail
    generalize w.alloc (.cells #[.int .i64 0, .int .i64 0, .string ⟨#[]⟩] 24) = W at *
    go_upto_region 4 with fail
    have hW4 : Below W.heap.size W (W.alloc (.cells #[.int .i64 x.k, .int .i64 x.n, .string x.s] 24)) := (Below.refl _ _).alloc (Nat.le_refl _) _
    have hLS : Hid (LS w (W.alloc (.cells #[.int .i64 x.k, .int .i64 x.n, .string x.s] 24)) W.heap.size x) := hid ⟨hz.out.below hW4, Blk.new W _ _, by have := hz.out.zv.lt; exact this⟩
    have hA := hid (hA.out.below_all hW4)
    obtain ⟨g, hg⟩ : ∃ g, g = W.heap.size := ⟨_, rfl⟩
    rw [← hg] at hLS
    generalize W.alloc (.cells #[.int .i64 x.k, .int .i64 x.n, .string x.s] 24) = W4 at *
    simp only [← hg]
    clear hW4 hg hz x0 x1 x2 hb
    go_wp2_with fail
    go_loopw [5] (fun v wr => ∃ (k : Nat) (u : Vl), v = .int .i64 ((k : Int) + 1) ∧ k ≤ r.length ∧ LS w wr g u ∧ leastL u (r.drop k) = RL) (fun v _ => r.length + 1 - (intOf v).toNat)
    case atStart => exact ⟨0, x, rfl, Nat.zero_le _, hLS.out, by rw [List.drop_zero]; exact hRl.out⟩
    case round =>
      clear hLS
      obtain ⟨k, u, rfl, hk, hLS, hJ⟩ := hrel
      have hLS := hid hLS; have hJ := hid hJ
      by_cases hlt : k < r.length
      · have i2 : (k : Int) + 1 < (n : Int) := by have := hN.out; omega
        obtain ⟨b', o', e', hb', v0, v1, v2⟩ := Rd.val_at (Rd.below hAw.out hLS.out.z.bel fun b h => h) (k := k + 1) (by simp; exact hlt)
        injection e' with e'
        injection e' with e1 e2
        subst e1 e2
        simp only [List.getElem_cons_succ] at v0 v1 v2
        rw [show o + (k + 1) * 3 = o + (k + 1) * 3 by omega] at v0 v1 v2

        have hst := least_step (u := u) hlt
        obtain ⟨y, hy⟩ : ∃ y, y = r[k] := ⟨_, rfl⟩
        rw [← hy] at hst
        simp only [← hy] at v0 v1 v2
        have hkn := hid hlt
        clear hy hb' hlt hk
        obtain ⟨x0, x1, x2, fz, hltg⟩ := hLS.out.facts
        have i3 : (0 : Int) ≤ (k : Int) + 1 := by omega
        have i4 : ((k : Int) + 1).toNat = k + 1 := by omega
        have i5 : (k : Int) + 1 ≤ 140737488351232 := by omega
        have hbw : b < wr.heap.size := by have := hLS.out.z.bel.size; have := hbb.out; omega
        have hkeep : Hid (∀ X, Below wr.heap.size wr X → X.cell? ⟨b, o + (k + 1) * 3, none⟩ = some (.int .i64 y.k) ∧ X.cell? ⟨b, o + (k + 1) * 3 + 1, none⟩ = some (.int .i64 y.n) ∧ X.cell? ⟨b, o + (k + 1) * 3 + 2, none⟩ = some (.string y.s) ∧ X.cell? ⟨g, 0, none⟩ = some (.int .i64 u.k) ∧ X.cell? ⟨g, 1, none⟩ = some (.int .i64 u.n) ∧ X.cell? ⟨g, 2, none⟩ = some (.string u.s)) := hid fun X hX => ⟨(cellB hX hbw).trans v0, (cellB hX hbw).trans v1, (cellB hX hbw).trans v2, (cellB hX hltg).trans x0, (cellB hX hltg).trans x1, (cellB hX hltg).trans x2⟩
        have hbX : Hid (Below wr.heap.size wr wr) := hid (Below.refl _ _)
        go_upto_region 7 with fail
        go_region_held3 (fun W' => W'.cell? ⟨b, o + (k + 1) * 3, none⟩ = some (.int .i64 y.k) ∧ W'.cell? ⟨b, o + (k + 1) * 3 + 1, none⟩ = some (.int .i64 y.n) ∧ W'.cell? ⟨b, o + (k + 1) * 3 + 2, none⟩ = some (.string y.s) ∧ W'.cell? ⟨g, 0, none⟩ = some (.int .i64 u.k) ∧ W'.cell? ⟨g, 1, none⟩ = some (.int .i64 u.n) ∧ W'.cell? ⟨g, 2, none⟩ = some (.string u.s)) (first | exact hkeep.out _ hbX.out | exact hkeep.out _ hbX.out.drew)
          ((go_at_call 37; refine (rcompare_any y u _).mono ?_; rintro e w6 ⟨rfl, hb6⟩; have hbX : Hid (Below wr.heap.size wr w6) := hid (by first | exact hbX.out.trans (hb6.mono hbX.out.size) | exact hbX.out.drew.trans (hb6.mono hbX.out.size)); clear hb6))
        all_goals
          have hLS := hid (hLS.out.below hbX.out)
          obtain ⟨v0, v1, v2, -⟩ := hkeep.out _ hbX.out
          clear x0 x1 x2 fz hltg i4
          have i6 : IntKind.i64.wrap ((k : Int) + 1 + 1) = (k : Int) + 1 + 1 := by rw [IntKind.wrap_i64]; omega
          have i7 : (k : Int) + 1 ≤ (n : Int) := by omega
          clear i5
          obtain ⟨x0, x1, x2, fz, hltg⟩ := hLS.out.facts
          by_cases hcm : Vl.cmp y u < 0
          · rw [if_pos hcm] at hst
            have hJ2 : Hid (leastL y (r.drop (k + 1)) = RL) := hid (by rw [← hst]; exact hJ.out)
            clear hst
            go_wp2_with fail
            refine ⟨⟨k + 1, y, by first | rfl | simp, hkn.out, hLS.out.set y, hJ2.out⟩, ?_⟩
            simp [intOf]
            have := hkn.out; omega
          · rw [if_neg hcm] at hst
            have hJ2 : Hid (leastL u (r.drop (k + 1)) = RL) := hid (by rw [← hst]; exact hJ.out)
            clear hst
            go_wp2_with fail
            refine ⟨⟨k + 1, u, by first | rfl | simp, hkn.out, hLS.out, hJ2.out⟩, ?_⟩
            simp [intOf]
            have := hkn.out; omega
      · have i2 : ¬ ((k : Int) + 1 < (n : Int)) := by have := hN.out; omega
        have hfin2 : Hid (u = RL) := hid (by rw [← hJ.out, List.drop_eq_nil_of_le (by omega)]; rfl)
        have hz := hid hLS.out.z
        obtain ⟨x0, x1, x2, fz, hltg⟩ := hLS.out.facts
        obtain ⟨fzz, hltz, z0, z1, z2⟩ := hz.out.facts
        clear hlt
        go_wp2_with fail

        have hT := hz.out.set u
        try dsimp only at hT
        obtain ⟨-, -, z0, z1, z2⟩ := hT.facts
        try dsimp only at z0 z1 z2
        refine bodyPost_ret (v := .tuple #[.agg #[.int .i64 (u : Vl).k, .int .i64 (u : Vl).n, .string (u : Vl).s], .bool true]) (by simp [results, Tryd.results41, go_sem, z0, z1, z2]) rfl ⟨?_, hT.bel⟩
        rw [hfin.out, ← hfin2.out]


end Go.Proofs.YtbnpidmlcjofiaaDoor

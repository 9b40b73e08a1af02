/- Texts of the proof, joined: GROf. -/
import Derived.Test.YtbgopicpdpkccaaJ10
namespace Go.Proofs.Ytbgopicpdpkccaa
open Go.RowKit
set_option linter.unusedVariables false
set_option linter.unusedSimpArgs false

/-- a slot's value -/
def rval (k : Int) (x : Sl) (z : Rj) : Value := .agg #[.int .i64 k, .int .i64 x.rd, .int .i64 x.prom.rd, .int .i64 x.prom.nd, .int .i64 x.accd.bal.rd, .int .i64 x.accd.bal.nd, .string x.accd.text, .bool x.is, .string x.text, .bool x.bid.isSome, .bool z.asks, .int .i64 z.bal.rd, .int .i64 z.bal.nd, .string z.own, .slice z.A z.n z.c]
def IsR (x : Sl) (e : Ending) : Prop := ∃ k z, e = .returned (rval k x z)
section
variable {S : Nat → Prop} {w w' : World} {r : Nat} {An Am : Option Addr} {cn cm : Nat} {G : Gr} {a : Ra}
set_option maxRecDepth 100000 in
set_option maxHeartbeats 4000000 in
theorem rof_any (n s : Int) (h : RAt S w r G) (hs : ¬ (0 ≤ s ∧ s < 256) → G.st n s = sl0) (hl : ∀ i, (G.nd i).sl.length ≤ 1000) : Calls Try.prog 53 #[.pointer (some ⟨r, 0, none⟩), .int .i64 n, .int .i64 s] w fun e w' => IsR (G.st n s) e ∧ Below w.heap.size w w' := by
  have hB0 : Below w.heap.size w (w.alloc (.cells #[.int .i64 0, .int .i64 0, .int .i64 0, .int .i64 0, .int .i64 0, .int .i64 0, .string ⟨#[]⟩, .bool false, .string ⟨#[]⟩, .bool false, .bool false, .int .i64 0, .int .i64 0, .string ⟨#[]⟩, .slice none 0 0] 103)) := (Below.refl _ _).alloc (Nat.le_refl _) _
  have hB := hid hB0
  have kr := Blk.new w 103 #[.int .i64 0, .int .i64 0, .int .i64 0, .int .i64 0, .int .i64 0, .int .i64 0, .string ⟨#[]⟩, .bool false, .string ⟨#[]⟩, .bool false, .bool false, .int .i64 0, .int .i64 0, .string ⟨#[]⟩, .slice none 0 0]
  obtain ⟨An, cn, Am, cm, a, q0⟩ := h
  have hSlt := q0.lt
  have q := q0.below hB0
  have qz := fun j => kr.frozen j
  have z0 := kr.cell 0
  have z1 := kr.cell 1
  have z2 := kr.cell 2
  have z3 := kr.cell 3
  have z4 := kr.cell 4
  have z5 := kr.cell 5
  have z6 := kr.cell 6
  have z7 := kr.cell 7
  have z8 := kr.cell 8
  have z9 := kr.cell 9
  have z10 := kr.cell 10
  have z11 := kr.cell 11
  have z12 := kr.cell 12
  have z13 := kr.cell 13
  have z14 := kr.cell 14
  clear q0 hB0
  simp only [List.getElem?_toArray, List.getElem?_cons_zero, List.getElem?_cons_succ] at z0 z1 z2 z3 z4 z5 z6 z7 z8 z9 z10 z11 z12 z13 z14
  have hrl := kr.lt
  have hth := hid (there_any n q)
  have HLL := hid hl
  by_cases hn : 0 ≤ n ∧ n < (G.nds.length : Int)
  case neg =>
    have hst : Hid (G.st n s = sl0) := hid (by unfold Gr.st; rw [if_neg hn])
    have hd := hid (decide_eq_false hn)
    clear q kr hs
    go_enter Try.func53, Try.ntmps53
    go_wp2_with fail
    refine hth.out.mono ?_
    rintro e w' ⟨rfl, rfl⟩
    rw [hd.out]
    go_wp2_with fail
    refine bodyPost_ret (v := .agg #[.int .i64 0, .int .i64 0, .int .i64 0, .int .i64 0, .int .i64 0, .int .i64 0, .string ⟨#[]⟩, .bool false, .string ⟨#[]⟩, .bool false, .bool false, .int .i64 0, .int .i64 0, .string ⟨#[]⟩, .slice none 0 0]) (by simp [results, Try.results53, go_sem, z0, z1, z2, z3, z4, z5, z6, z7, z8, z9, z10, z11, z12, z13, z14]) rfl ?_
    refine ⟨⟨0, rj0, by rw [hst.out]; rfl⟩, ?_⟩
    first | exact hB.out | (exact Below.refl _ _ |>.alloc (Nat.le_refl _) _)
  case pos =>
  obtain ⟨i, rfl⟩ : ∃ i : Nat, n = (i : Int) := ⟨n.toNat, by omega⟩
  have hi : i < G.nds.length := by omega
  have hd := hid (decide_eq_true hn)
  by_cases hsr : 0 ≤ s ∧ s < 256
  case neg =>
    have hst := hid (hs hsr)
    have hsn : s < 0 ∨ 256 ≤ s := by omega
    clear q kr hs hsr
    rcases hsn with h1 | h1
    · have t1 : decide (s < 0) = true := decide_eq_true h1
      go_enter Try.func53, Try.ntmps53
      go_wp2_with fail
      refine hth.out.mono ?_
      rintro e w' ⟨rfl, rfl⟩
      rw [hd.out]
      go_wp2_with fail
      refine bodyPost_ret (v := .agg #[.int .i64 0, .int .i64 0, .int .i64 0, .int .i64 0, .int .i64 0, .int .i64 0, .string ⟨#[]⟩, .bool false, .string ⟨#[]⟩, .bool false, .bool false, .int .i64 0, .int .i64 0, .string ⟨#[]⟩, .slice none 0 0]) (by simp [results, Try.results53, go_sem, z0, z1, z2, z3, z4, z5, z6, z7, z8, z9, z10, z11, z12, z13, z14]) rfl ?_
      refine ⟨⟨0, rj0, by rw [hst.out]; rfl⟩, ?_⟩
      first | exact hB.out | (exact Below.refl _ _ |>.alloc (Nat.le_refl _) _)
    · have t1 : decide (s < 0) = false := decide_eq_false (by omega)
      have t2 : decide (256 ≤ s) = true := decide_eq_true h1
      go_enter Try.func53, Try.ntmps53
      go_wp2_with fail
      refine hth.out.mono ?_
      rintro e w' ⟨rfl, rfl⟩
      rw [hd.out]
      go_wp2_with fail
      refine bodyPost_ret (v := .agg #[.int .i64 0, .int .i64 0, .int .i64 0, .int .i64 0, .int .i64 0, .int .i64 0, .string ⟨#[]⟩, .bool false, .string ⟨#[]⟩, .bool false, .bool false, .int .i64 0, .int .i64 0, .string ⟨#[]⟩, .slice none 0 0]) (by simp [results, Try.results53, go_sem, z0, z1, z2, z3, z4, z5, z6, z7, z8, z9, z10, z11, z12, z13, z14]) rfl ?_
      refine ⟨⟨0, rj0, by rw [hst.out]; rfl⟩, ?_⟩
      first | exact hB.out | (exact Below.refl _ _ |>.alloc (Nat.le_refl _) _)
  case pos =>
  have t1 : decide (s < 0) = false := decide_eq_false (by omega)
  have t2 : decide (256 ≤ s) = false := decide_eq_false (by omega)
  have hst0 : G.st i s = G.at_ i s := by unfold Gr.st; rw [if_pos hn, Int.toNat_natCast]
  obtain ⟨n1, n2, n3, ho⟩ := q.nd i hi
  obtain ⟨pb, po, rfl, hpl, p0⟩ := q.ptr hi
  obtain ⟨c0, c1⟩ := q.cells
  have i1 : (i : Int) < (G.nds.length : Int) := by omega
  have hli : (((G.nd i).sl.length : Nat) : Int) ≤ 1000 := by have := hl i; omega
  have hql := q.lt
  have hgl : r < w.heap.size := hSlt _ q.inS
  have hpbl : pb < w.heap.size := hSlt _ (q.nrow.2 pb rfl)
  have hnbl : a.nb i < w.heap.size := hSlt _ n2
  clear hl
  have HH := hid q
  have HS := hid hSlt
  have ne1 : r ≠ w.heap.size := Nat.ne_of_lt hgl
  have ne2 : pb ≠ w.heap.size := Nat.ne_of_lt hpbl
  have ne3 : a.nb i ≠ w.heap.size := Nat.ne_of_lt hnbl
  cases hg : getA s (G.nd i).sl with
  | some x =>
    have hst : Hid (G.st i s = x) := hid (by rw [hst0]; unfold Gr.at_; rw [hg]; rfl)
    obtain ⟨p, hp, hlt⟩ := slot_pos hg
    obtain ⟨b, hA, hbl, hSb, hbk, hc⟩ := q.seg hi hp
    have HC := hid hc
    have LT := hid hlt
    have HP := hid hp
    have hbl2 : b < w.heap.size := hSlt _ hSb
    have ne4 : b ≠ w.heap.size := Nat.ne_of_lt hbl2
    have x1 := n1.cell 1
    simp only [List.getElem?_toArray, List.getElem?_cons_zero, List.getElem?_cons_succ, Ra.row, hA] at x1
    have hpl2 := (List.getElem?_eq_some_iff.1 hp).1
    clear hs hst0 q kr n1 n3 ho hg hp hlt hc hbk hn hsr hql hSlt
    go_enter Try.func53, Try.ntmps53
    go_wp2_with fail
    refine hth.out.mono ?_
    rintro e w' ⟨rfl, rfl⟩
    rw [hd.out]
    go_wp2_with fail
    go_loopw [7] (fun v wr => ∃ k : Nat, k ≤ p ∧ v = .int .i64 k ∧ wr = (w.alloc (.cells #[.int .i64 0, .int .i64 0, .int .i64 0, .int .i64 0, .int .i64 0, .int .i64 0, .string ⟨#[]⟩, .bool false, .string ⟨#[]⟩, .bool false, .bool false, .int .i64 0, .int .i64 0, .string ⟨#[]⟩, .slice none 0 0] 103))) (fun v _ => (G.nd i).sl.length - (intOf v).toNat)
    case atStart => exact ⟨0, Nat.zero_le _, rfl, rfl⟩
    case round =>
      obtain ⟨k, hk, rfl, hwr⟩ := hrel
      subst hwr
      have hkl2 : k < (G.nd i).sl.length := by omega
      have hkl : (k : Int) < (((G.nd i).sl.length : Nat) : Int) := by omega
      have hke : (G.nd i).sl[k]? = some (((G.nd i).sl[k]).1, ((G.nd i).sl[k]).2) := List.getElem?_eq_getElem hkl2
      obtain ⟨b2, hA2, _, _, _, hc2⟩ := HH.out.seg hi hke
      rw [hA] at hA2
      injection hA2 with hA2
      injection hA2 with hA2
      subst hA2
      by_cases hkq : k = p
      · subst hkq
        have y0 : (w.alloc (.cells #[.int .i64 0, .int .i64 0, .int .i64 0, .int .i64 0, .int .i64 0, .int .i64 0, .string ⟨#[]⟩, .bool false, .string ⟨#[]⟩, .bool false, .bool false, .int .i64 0, .int .i64 0, .string ⟨#[]⟩, .slice none 0 0] 103)).cell? ⟨b, k * 15, none⟩ = some ((rcells s x (a.z i s))[0]'(by simp [rcells])) := HC.out 0 (by omega)
        have y1 : (w.alloc (.cells #[.int .i64 0, .int .i64 0, .int .i64 0, .int .i64 0, .int .i64 0, .int .i64 0, .string ⟨#[]⟩, .bool false, .string ⟨#[]⟩, .bool false, .bool false, .int .i64 0, .int .i64 0, .string ⟨#[]⟩, .slice none 0 0] 103)).cell? ⟨b, k * 15 + 1, none⟩ = some ((rcells s x (a.z i s))[1]'(by simp [rcells])) := HC.out 1 (by omega)
        have y2 : (w.alloc (.cells #[.int .i64 0, .int .i64 0, .int .i64 0, .int .i64 0, .int .i64 0, .int .i64 0, .string ⟨#[]⟩, .bool false, .string ⟨#[]⟩, .bool false, .bool false, .int .i64 0, .int .i64 0, .string ⟨#[]⟩, .slice none 0 0] 103)).cell? ⟨b, k * 15 + 2, none⟩ = some ((rcells s x (a.z i s))[2]'(by simp [rcells])) := HC.out 2 (by omega)
        have y3 : (w.alloc (.cells #[.int .i64 0, .int .i64 0, .int .i64 0, .int .i64 0, .int .i64 0, .int .i64 0, .string ⟨#[]⟩, .bool false, .string ⟨#[]⟩, .bool false, .bool false, .int .i64 0, .int .i64 0, .string ⟨#[]⟩, .slice none 0 0] 103)).cell? ⟨b, k * 15 + 3, none⟩ = some ((rcells s x (a.z i s))[3]'(by simp [rcells])) := HC.out 3 (by omega)
        have y4 : (w.alloc (.cells #[.int .i64 0, .int .i64 0, .int .i64 0, .int .i64 0, .int .i64 0, .int .i64 0, .string ⟨#[]⟩, .bool false, .string ⟨#[]⟩, .bool false, .bool false, .int .i64 0, .int .i64 0, .string ⟨#[]⟩, .slice none 0 0] 103)).cell? ⟨b, k * 15 + 4, none⟩ = some ((rcells s x (a.z i s))[4]'(by simp [rcells])) := HC.out 4 (by omega)
        have y5 : (w.alloc (.cells #[.int .i64 0, .int .i64 0, .int .i64 0, .int .i64 0, .int .i64 0, .int .i64 0, .string ⟨#[]⟩, .bool false, .string ⟨#[]⟩, .bool false, .bool false, .int .i64 0, .int .i64 0, .string ⟨#[]⟩, .slice none 0 0] 103)).cell? ⟨b, k * 15 + 5, none⟩ = some ((rcells s x (a.z i s))[5]'(by simp [rcells])) := HC.out 5 (by omega)
        have y6 : (w.alloc (.cells #[.int .i64 0, .int .i64 0, .int .i64 0, .int .i64 0, .int .i64 0, .int .i64 0, .string ⟨#[]⟩, .bool false, .string ⟨#[]⟩, .bool false, .bool false, .int .i64 0, .int .i64 0, .string ⟨#[]⟩, .slice none 0 0] 103)).cell? ⟨b, k * 15 + 6, none⟩ = some ((rcells s x (a.z i s))[6]'(by simp [rcells])) := HC.out 6 (by omega)
        have y7 : (w.alloc (.cells #[.int .i64 0, .int .i64 0, .int .i64 0, .int .i64 0, .int .i64 0, .int .i64 0, .string ⟨#[]⟩, .bool false, .string ⟨#[]⟩, .bool false, .bool false, .int .i64 0, .int .i64 0, .string ⟨#[]⟩, .slice none 0 0] 103)).cell? ⟨b, k * 15 + 7, none⟩ = some ((rcells s x (a.z i s))[7]'(by simp [rcells])) := HC.out 7 (by omega)
        have y8 : (w.alloc (.cells #[.int .i64 0, .int .i64 0, .int .i64 0, .int .i64 0, .int .i64 0, .int .i64 0, .string ⟨#[]⟩, .bool false, .string ⟨#[]⟩, .bool false, .bool false, .int .i64 0, .int .i64 0, .string ⟨#[]⟩, .slice none 0 0] 103)).cell? ⟨b, k * 15 + 8, none⟩ = some ((rcells s x (a.z i s))[8]'(by simp [rcells])) := HC.out 8 (by omega)
        have y9 : (w.alloc (.cells #[.int .i64 0, .int .i64 0, .int .i64 0, .int .i64 0, .int .i64 0, .int .i64 0, .string ⟨#[]⟩, .bool false, .string ⟨#[]⟩, .bool false, .bool false, .int .i64 0, .int .i64 0, .string ⟨#[]⟩, .slice none 0 0] 103)).cell? ⟨b, k * 15 + 9, none⟩ = some ((rcells s x (a.z i s))[9]'(by simp [rcells])) := HC.out 9 (by omega)
        have y10 : (w.alloc (.cells #[.int .i64 0, .int .i64 0, .int .i64 0, .int .i64 0, .int .i64 0, .int .i64 0, .string ⟨#[]⟩, .bool false, .string ⟨#[]⟩, .bool false, .bool false, .int .i64 0, .int .i64 0, .string ⟨#[]⟩, .slice none 0 0] 103)).cell? ⟨b, k * 15 + 10, none⟩ = some ((rcells s x (a.z i s))[10]'(by simp [rcells])) := HC.out 10 (by omega)
        have y11 : (w.alloc (.cells #[.int .i64 0, .int .i64 0, .int .i64 0, .int .i64 0, .int .i64 0, .int .i64 0, .string ⟨#[]⟩, .bool false, .string ⟨#[]⟩, .bool false, .bool false, .int .i64 0, .int .i64 0, .string ⟨#[]⟩, .slice none 0 0] 103)).cell? ⟨b, k * 15 + 11, none⟩ = some ((rcells s x (a.z i s))[11]'(by simp [rcells])) := HC.out 11 (by omega)
        have y12 : (w.alloc (.cells #[.int .i64 0, .int .i64 0, .int .i64 0, .int .i64 0, .int .i64 0, .int .i64 0, .string ⟨#[]⟩, .bool false, .string ⟨#[]⟩, .bool false, .bool false, .int .i64 0, .int .i64 0, .string ⟨#[]⟩, .slice none 0 0] 103)).cell? ⟨b, k * 15 + 12, none⟩ = some ((rcells s x (a.z i s))[12]'(by simp [rcells])) := HC.out 12 (by omega)
        have y13 : (w.alloc (.cells #[.int .i64 0, .int .i64 0, .int .i64 0, .int .i64 0, .int .i64 0, .int .i64 0, .string ⟨#[]⟩, .bool false, .string ⟨#[]⟩, .bool false, .bool false, .int .i64 0, .int .i64 0, .string ⟨#[]⟩, .slice none 0 0] 103)).cell? ⟨b, k * 15 + 13, none⟩ = some ((rcells s x (a.z i s))[13]'(by simp [rcells])) := HC.out 13 (by omega)
        have y14 : (w.alloc (.cells #[.int .i64 0, .int .i64 0, .int .i64 0, .int .i64 0, .int .i64 0, .int .i64 0, .string ⟨#[]⟩, .bool false, .string ⟨#[]⟩, .bool false, .bool false, .int .i64 0, .int .i64 0, .string ⟨#[]⟩, .slice none 0 0] 103)).cell? ⟨b, k * 15 + 14, none⟩ = some ((rcells s x (a.z i s))[14]'(by simp [rcells])) := HC.out 14 (by omega)
        simp only [rcells, List.getElem_cons_zero, List.getElem_cons_succ] at y0 y1 y2 y3 y4 y5 y6 y7 y8 y9 y10 y11 y12 y13 y14
        clear hc2 hke
        go_wp2_with fail
        refine bodyPost_ret (v := .agg #[.int .i64 s, .int .i64 x.rd, .int .i64 x.prom.rd, .int .i64 x.prom.nd, .int .i64 x.accd.bal.rd, .int .i64 x.accd.bal.nd, .string x.accd.text, .bool x.is, .string x.text, .bool x.bid.isSome, .bool (a.z i s).asks, .int .i64 (a.z i s).bal.rd, .int .i64 (a.z i s).bal.nd, .string (a.z i s).own, .slice (a.z i s).A (a.z i s).n (a.z i s).c]) (by simp [results, Try.results53, go_sem]) rfl ?_
        refine ⟨⟨s, a.z i s, by rw [hst.out]; rfl⟩, ?_⟩
        first | exact hB.out | (exact Below.refl _ _ |>.alloc (Nat.le_refl _) _)
      · have hne : ((G.nd i).sl[k]).1 ≠ s := LT.out k _ (by omega) hke
        have y0 : (w.alloc (.cells #[.int .i64 0, .int .i64 0, .int .i64 0, .int .i64 0, .int .i64 0, .int .i64 0, .string ⟨#[]⟩, .bool false, .string ⟨#[]⟩, .bool false, .bool false, .int .i64 0, .int .i64 0, .string ⟨#[]⟩, .slice none 0 0] 103)).cell? ⟨b, k * 15, none⟩ = some (.int .i64 ((G.nd i).sl[k]).1) := hc2 0 (by omega)
        generalize ((G.nd i).sl[k]).1 = ky at *
        have t3 : decide (ky = s) = false := decide_eq_false hne
        have t4 : (ky == s) = false := by simpa using hne
        clear hc2 hke
        go_wp2_with fail
        go_roundw
        case rel => exact ⟨k + 1, by omega, by go_num, by first | rfl | trivial⟩
        case measure => simp [intOf]; omega
  | none =>
    have hst : Hid (G.st i s = sl0) := hid (by rw [hst0]; unfold Gr.at_; rw [hg]; rfl)
    have hno := hid (slot_none hg)
    have x1 := n1.cell 1
    simp only [List.getElem?_toArray, List.getElem?_cons_zero, List.getElem?_cons_succ, Ra.row] at x1
    clear hs hst0 q kr n1 n3 ho hg hn hsr hql hSlt
    go_enter Try.func53, Try.ntmps53
    go_wp2_with fail
    refine hth.out.mono ?_
    rintro e w' ⟨rfl, rfl⟩
    rw [hd.out]
    go_wp2_with fail
    go_loopw [7] (fun v wr => ∃ k : Nat, k ≤ (G.nd i).sl.length ∧ v = .int .i64 k ∧ wr = (w.alloc (.cells #[.int .i64 0, .int .i64 0, .int .i64 0, .int .i64 0, .int .i64 0, .int .i64 0, .string ⟨#[]⟩, .bool false, .string ⟨#[]⟩, .bool false, .bool false, .int .i64 0, .int .i64 0, .string ⟨#[]⟩, .slice none 0 0] 103))) (fun v _ => (G.nd i).sl.length - (intOf v).toNat)
    case atStart => exact ⟨0, Nat.zero_le _, rfl, rfl⟩
    case round =>
      obtain ⟨k, hk, rfl, hwr⟩ := hrel
      subst hwr
      by_cases hkl2 : k < (G.nd i).sl.length
      · have hkl : (k : Int) < (((G.nd i).sl.length : Nat) : Int) := by omega
        have hke : (G.nd i).sl[k]? = some (((G.nd i).sl[k]).1, ((G.nd i).sl[k]).2) := List.getElem?_eq_getElem hkl2
        obtain ⟨b, hA, _, hSb, _, hc2⟩ := HH.out.seg hi hke
        have ne4 : b ≠ w.heap.size := Nat.ne_of_lt (HS.out _ hSb)
        rw [hA] at x1
        have hne : ((G.nd i).sl[k]).1 ≠ s := hno.out _ (List.getElem_mem hkl2)
        have y0 : (w.alloc (.cells #[.int .i64 0, .int .i64 0, .int .i64 0, .int .i64 0, .int .i64 0, .int .i64 0, .string ⟨#[]⟩, .bool false, .string ⟨#[]⟩, .bool false, .bool false, .int .i64 0, .int .i64 0, .string ⟨#[]⟩, .slice none 0 0] 103)).cell? ⟨b, k * 15, none⟩ = some (.int .i64 ((G.nd i).sl[k]).1) := hc2 0 (by omega)
        generalize ((G.nd i).sl[k]).1 = ky at *
        have t3 : decide (ky = s) = false := decide_eq_false hne
        have t4 : (ky == s) = false := by simpa using hne
        clear hc2 hke
        go_wp2_with fail
        go_roundw
        case rel => exact ⟨k + 1, by omega, by go_num, by first | rfl | trivial⟩
        case measure => simp [intOf]; omega
      · obtain rfl : k = (G.nd i).sl.length := by omega
        go_wp2_with fail
        refine bodyPost_ret (v := .agg #[.int .i64 0, .int .i64 0, .int .i64 0, .int .i64 0, .int .i64 0, .int .i64 0, .string ⟨#[]⟩, .bool false, .string ⟨#[]⟩, .bool false, .bool false, .int .i64 0, .int .i64 0, .string ⟨#[]⟩, .slice none 0 0]) (by simp [results, Try.results53, go_sem, z0, z1, z2, z3, z4, z5, z6, z7, z8, z9, z10, z11, z12, z13, z14]) rfl ?_
        refine ⟨⟨0, rj0, by rw [hst.out]; rfl⟩, ?_⟩
        first | exact hB.out | (exact Below.refl _ _ |>.alloc (Nat.le_refl _) _)
end

end Go.Proofs.Ytbgopicpdpkccaa


/- QuorumBallots: the walk of the law. -/
import Derived.Test.YtbgopicpdpkccaaGActW
import Derived.Test.YtbgopicpdpkccaaGList
import Derived.Laws.MakeOwn
namespace Go.Proofs.Ytbgopicpdpkccaa
open Go.RowKit
set_option linter.unusedVariables false
set_option linter.unusedSimpArgs false

/-- a row of ballots -/
def BArr (w : World) (b n : Nat) (f : Nat → Bal) : Prop := ∃ cs, Blk w b 35 cs ∧ cs.size = n * 2 ∧ ∀ j, j < n → cs[j * 2]? = some (.int .i64 (f j).rd) ∧ cs[j * 2 + 1]? = some (.int .i64 (f j).nd)
section
variable {w w' : World} {b n : Nat} {f : Nat → Bal}
theorem BArr.cells (h : BArr w b n f) {j : Nat} (hj : j < n) : w.cell? ⟨b, j * 2, none⟩ = some (.int .i64 (f j).rd) ∧ w.cell? ⟨b, j * 2 + 1, none⟩ = some (.int .i64 (f j).nd) := by
  obtain ⟨cs, h1, h2, h3⟩ := h
  obtain ⟨h4, h5⟩ := h3 j hj
  exact ⟨(h1.cell _).trans h4, (h1.cell _).trans h5⟩
theorem BArr.lt (h : BArr w b n f) : b < w.heap.size := by obtain ⟨cs, h1, _⟩ := h; exact h1.lt
theorem BArr.upd {N : Nat → Prop} (h : BArr w b n f) (hu : Upd N w w') (hN : ¬ N b) : BArr w' b n f := by
  obtain ⟨cs, h1, h2⟩ := h
  exact ⟨cs, h1.upd hu hN, h2⟩
theorem BArr.below (h : BArr w b n f) (hb : Below w.heap.size w w') : BArr w' b n f := by
  obtain ⟨cs, h1, h2⟩ := h
  exact ⟨cs, h1.below_all hb, h2⟩
theorem BArr.frozen (h : BArr w b n f) (j : Nat) : w.frozen? ⟨b, j, none⟩ = false := h.elim fun cs h => h.1.frozen j
theorem BArr.set (h : BArr w b n f) {k : Nat} (hk : k < n) (v : Bal) : BArr ((w.setCell ⟨b, k * 2, none⟩ (.int .i64 v.rd)).setCell ⟨b, k * 2 + 1, none⟩ (.int .i64 v.nd)) b n (fun j => if j = k then v else f j) := by
  obtain ⟨cs, h1, h2, h3⟩ := h
  refine ⟨_, (h1.set_ (k * 2) _).set_ (k * 2 + 1) _, by simp [h2], fun j hj => ?_⟩
  obtain ⟨h4, h5⟩ := h3 j hj
  by_cases e : j = k
  · subst e
    simp only [if_pos, Array.getElem?_setIfInBounds]
    refine ⟨?_, ?_⟩
    · rw [if_neg (by omega), if_pos (by omega)]
    · rw [if_pos (by simp; omega)]
  · simp only [e, if_false, Array.getElem?_setIfInBounds]
    refine ⟨?_, ?_⟩
    · rw [if_neg (by omega), if_neg (by omega)]; exact h4
    · rw [if_neg (by omega), if_neg (by omega)]; exact h5
theorem BArr.congr (h : BArr w b n f) {f' : Nat → Bal} (hf : ∀ j, j < n → f' j = f j) : BArr w b n f' := by
  obtain ⟨cs, h1, h2, h3⟩ := h
  exact ⟨cs, h1, h2, fun j hj => by rw [hf j hj]; exact h3 j hj⟩
theorem BArr.made (w : World) (n : Nat) : BArr (w.alloc (.cells (madeCells #[.int .i64 0, .int .i64 0] (n * 2)) 35)) w.heap.size n fun _ => bal0 := by
  refine ⟨_, Blk.new _ _ _, size_madeCells _ _, fun j hj => ?_⟩
  have hz : ∀ i : Nat, (#[Value.int .i64 0, Value.int .i64 0] : Array Value)[i % 2]! = .int .i64 0 := fun i => by
    rcases Nat.mod_two_eq_zero_or_one i with e | e <;> rw [e] <;> rfl
  have hg : ∀ i : Nat, i < n * 2 → (madeCells #[Value.int .i64 0, Value.int .i64 0] (n * 2))[i]? = some (.int .i64 0) := fun i hi => by
    unfold madeCells
    rw [Array.getElem?_map, Array.getElem?_range, if_pos hi]
    exact congrArg some (hz i)
  exact ⟨hg _ (by omega), hg _ (by omega)⟩
end
theorem info_bal : (Try.prog.info? 35).map (fun i => (i.zero, i.size, i.bytes)) = some (some (.agg #[.int .i64 0, .int .i64 0]), 2, 16) := by kernel_rfl
theorem make_bal (N : Nat) (hN : N ≤ 9) (w : World) : (Instr.makeSlice 41 (.int .i64 (N : Int)) (.int .i64 (N : Int))).run Try.prog w = .ok (.slice (some ⟨w.heap.size, 0, none⟩) N N) (w.alloc (.cells (madeCells #[.int .i64 0, .int .i64 0] (N * 2)) 35)) := by
  obtain ⟨i0, hi0, hz0, hz1, hz2⟩ := info_parts info_bal
  have h := run_makeSlice (P := Try.prog) w 41 35 i0 _ Try.underlying41 hi0 hz0 .i64 .i64 (N : Int) (N : Int) (by omega) (Int.le_refl _) (by simp only [Int.toNat_natCast]; rw [hz1]; omega) (by rw [hz2]; omega) (by omega)
  simp only [Int.toNat_natCast, hz1] at h
  exact h
set_option maxRecDepth 100000 in
set_option maxHeartbeats 4000000 in
theorem ballots_walk (n : Int) (A : Option Addr) (c : Nat) (us : List GA) (s : Int) (W : World) (ho : GActs W A us) (hl : us.length ≤ 1048576) (ht : txts us ≤ 1048576) : Calls Try.prog 5 #[.int .i64 n, .slice A us.length c, .int .i64 s] W fun e w' => e = .returned (.bool true) ∧ Below W.heap.size W w' := by
  have hlg := hid (long_any A c us W ho hl ht)
  have hll : Hid (us.length ≤ 1048576) := hid hl
  clear hl ht
  have hst : ∀ b : Bool, b = true ∨ ¬ (0 ≤ s ∧ s < 256) ∨ (b = false ∧ 0 ≤ s ∧ s < 256) := fun b => by cases b <;> by_cases h : 0 ≤ s ∧ s < 256 <;> simp [h]
  go_enter Try.func5, Try.ntmps5
  go_wp2_with fail
  refine hlg.out.mono ?_
  rintro e w1 ⟨⟨b, rfl, hb0⟩, rfl⟩
  have hb := hid hb0
  clear hb0
  rcases hst b with rfl | hs | ⟨rfl, hs1, hs2⟩
  · clear hst
    go_wp2_with fail
    go_ret
    exact ⟨rfl, Below.refl _ _⟩
  · clear hst
    cases b with
    | true =>
      go_wp2_with fail
      go_ret
      exact ⟨rfl, Below.refl _ _⟩
    | false =>
      by_cases h1 : s < 0
      · go_wp2_with fail
        go_ret
        exact ⟨rfl, Below.refl _ _⟩
      · have h2 : 256 ≤ s := by omega
        go_wp2_with fail
        go_ret
        exact ⟨rfl, Below.refl _ _⟩
  · clear hst
    have t1 : decide (s < 0) = false := decide_eq_false (by omega)
    have t2 : decide (256 ≤ s) = false := decide_eq_false (by omega)
    by_cases hn : n < 1 ∨ 9 < n
    · have hnew := hid (new_bad n w1 hn)
      go_wp2_with fail
      refine hnew.out.mono ?_
      rintro e w2 ⟨rfl, rfl⟩
      go_wp2_with (first
        | (go_at_call 10; refine (num_any _ _).mono ?_; rintro e w' ⟨rfl, rfl⟩)
        | (go_at_call 11; refine (live_any _).mono ?_; rintro e w3 ⟨rfl, hb3⟩))
      go_ret
      exact ⟨rfl, hb3⟩
    · obtain ⟨N, rfl⟩ : ∃ N : Nat, n = (N : Int) := ⟨n.toNat, by omega⟩
      have hN : 1 ≤ N ∧ N ≤ 9 := by omega
      have hN9 : Hid (N ≤ 9) := hid hN.2
      have hnew := hid (new_ok N w1 hN)
      go_wp2_with fail
      refine hnew.out.mono ?_
      rintro e w2 ⟨S, rfl, hG0, hS0, hB20⟩
      have hG := hid hG0
      have hS := hid hS0
      have hB2 := hid hB20
      clear hG0 hS0 hB20 hN
      have hmk := make_bal N hN9.out
      go_wp2_with (go_at_call 10; refine (num_any _ _).mono ?_; rintro e w' ⟨rfl, rfl⟩)
      have hgN : Hid (Fit N 0 (grN N)) := hid (Fit.new N (Int.le_refl _))
      have hz2 : w1.heap.size < w'.heap.size := by have := (hG.out.lt).1 _ (hG.out.lt).2; exact this
      have hA1 := BArr.made w' N
      have hb3 : Below w'.heap.size w' (w'.alloc (.cells (madeCells #[.int .i64 0, .int .i64 0] (N * 2)) 35)) := (Below.refl _ _).alloc (Nat.le_refl _) _
      have hA2 := BArr.made (w'.alloc (.cells (madeCells #[.int .i64 0, .int .i64 0] (N * 2)) 35)) N
      have hb4 : Below w'.heap.size w' ((w'.alloc (.cells (madeCells #[.int .i64 0, .int .i64 0] (N * 2)) 35)).alloc (.cells (madeCells #[.int .i64 0, .int .i64 0] (N * 2)) 35)) := hb3.alloc (by simp) _
      have hz3 : (w'.alloc (.cells (madeCells #[.int .i64 0, .int .i64 0] (N * 2)) 35)).heap.size = w'.heap.size + 1 := by simp
      rw [hz3] at hA2
      have hA1 := hA1.below ((Below.refl _ _).alloc (Nat.le_refl _) (.cells (madeCells #[.int .i64 0, .int .i64 0] (N * 2)) 35))
      clear hb3 hz3
      generalize (w'.alloc (.cells (madeCells #[.int .i64 0, .int .i64 0] (N * 2)) 35)).alloc (.cells (madeCells #[.int .i64 0, .int .i64 0] (N * 2)) 35) = w4 at *
      have G4 := hid (hG.out.below hb4)
      have B4 : Hid (Below w1.heap.size w1 w4) := hid (hB2.out.trans (hb4.mono hB2.out.size))
      have hSb : Hid (∀ j, S j → w1.heap.size ≤ j ∧ j < w'.heap.size) := hid fun j hj => ⟨hS.out j hj, hG.out.lt.1 j hj⟩
      have hb4z := hb4.size
      clear hG hS hB2 hb4 hmk
      generalize w'.heap.size = bp at *
      have hbp : Hid (w1.heap.size ≤ bp) := hid (Nat.le_of_lt hz2)
      have HO := hid ho
      have A1 := hid hA1
      have A2 := hid hA2
      clear ho hA1 hA2
      go_loopw [11] (fun v wr => ∃ (k : Nat) (S' : Nat → Prop) (G : Gr), v = .int .i64 k ∧ k ≤ us.length ∧ GAt S' wr w1.heap.size G ∧ (∀ j, S' j → w1.heap.size ≤ j ∧ j ≠ bp ∧ j ≠ bp + 1) ∧ Fit N k G ∧ (∀ j t, Bal.le (G.at_ j t).accd.bal (G.at_ j t).prom) ∧ BArr wr bp N (fun j => (G.at_ j s).prom) ∧ BArr wr (bp + 1) N (fun j => (G.at_ j s).accd.bal) ∧ Below w1.heap.size w1 wr) (fun v _ => us.length - (intOf v).toNat)
      case atStart =>
        refine ⟨0, S, grN N, rfl, Nat.zero_le _, G4.out, fun j hj => ?_, hgN.out, fun j t => by rw [grN_at]; exact Bal.refl _, A1.out.congr fun j _ => by rw [grN_at]; rfl, A2.out.congr fun j _ => by rw [grN_at]; rfl, B4.out⟩
        have := hSb.out j hj
        omega
      case round =>
        clear A1 A2 B4 hgN G4 hb4z
        obtain ⟨k, S1, G, rfl, hk, q, hS0, hf, hle0, p10, p20, hB0⟩ := hrel
        have hS1 := hid hS0
        have hle := hid hle0
        have P1 := hid p10
        have P2 := hid p20
        have hB := hid hB0
        clear hS0 hle0 p10 p20 hB0
        by_cases hlt : k < us.length
        · have i1 : (k : Int) < (us.length : Int) := by omega
          have hoa := HO.out.below (w' := wr) hB.out
          obtain ⟨b, o, rfl, hbl, a0, a1, a2, a3⟩ := hoa.at_ hlt
          have hact := hid (act_any us[k] q hf hN9.out (by have := hb.out (by first | rfl | trivial); omega))
          have hF := hid hf
          clear hoa q hf
          go_wp2_with fail
          refine hact.out.mono ?_
          rintro e w5 ⟨rfl, G2, hA20, S2, q20, hS20, hu20⟩
          have hA2 := hid hA20
          have q2 := hid q20
          have hF2 : Hid (Fit N (k + 1 : Nat) G2) := hid (by have := hF.out.act (by omega) hA20; exact_mod_cast this)
          have hr2 : Hid (∀ j t, Rise (G.at_ j t) (G2.at_ j t)) := hid fun j t => act_rise hF.out hle.out hA20 j t
          have hS2 : Hid (∀ j, S2 j → w1.heap.size ≤ j ∧ j ≠ bp ∧ j ≠ bp + 1) := hid fun j hj => by
            rcases hS20 j hj with h | h
            · exact hS1.out j h
            · have h1 := P2.out.lt
              have h2 := hB.out.size
              omega
          have hB5 : Hid (Below w1.heap.size w1 w5) := hid (hB.out.trans (hu20.below (by have := hB.out.size; omega) fun j hj h => by have := (hS1.out j h).1; omega))
          have Q1 : Hid (BArr w5 bp N fun j => (G.at_ j s).prom) := hid (P1.out.upd hu20 fun h => (hS1.out _ h).2.1 rfl)
          have Q2 : Hid (BArr w5 (bp + 1) N fun j => (G.at_ j s).accd.bal) := hid (P2.out.upd hu20 fun h => (hS1.out _ h).2.2 rfl)
          clear hA20 q20 hS20 hu20 hact P1 P2 hB a0 a1 a2 a3
          go_wp2_with fail
          go_loopw [12] (fun v wx => ∃ (m : Nat), v = .int .i64 m ∧ m ≤ N ∧ GAt S2 wx w1.heap.size G2 ∧ BArr wx bp N (fun j => if j < m then (G2.at_ j s).prom else (G.at_ j s).prom) ∧ BArr wx (bp + 1) N (fun j => if j < m then (G2.at_ j s).accd.bal else (G.at_ j s).accd.bal) ∧ Below w1.heap.size w1 wx) (fun v _ => N - (intOf v).toNat)
          case atStart => exact ⟨0, rfl, Nat.zero_le _, q2.out, Q1.out.congr fun j _ => by simp, Q2.out.congr fun j _ => by simp, hB5.out⟩
          case round =>
            clear q2 Q1 Q2 hB5
            obtain ⟨m, rfl, hm, qx, p10, p20, hB0⟩ := hrel
            have P1 := hid p10
            have P2 := hid p20
            have hB := hid hB0
            clear p10 p20 hB0
            by_cases hlt2 : m < N
            · have i2 : (m : Int) < (N : Int) := by omega
              have hst2 : G2.st m s = G2.at_ m s := by unfold Gr.st; rw [if_pos (by have := hF2.out.len; omega), Int.toNat_natCast]
              have hpr0 := promised_any (m : Int) s qx
              have hac0 := fun w' (h : Below wr.heap.size wr w') => accepted_any (m : Int) s (qx.below h)
              rw [hst2] at hpr0 hac0
              have hpr := hid hpr0
              have hac := hid hac0
              have qX := hid qx
              clear hst2 hpr0 hac0 qx
              go_wp2_with fail
              refine hpr.out.mono ?_
              rintro e w6 ⟨rfl, hb6⟩
              go_upto_region 16 with fail
              have hr := hr2.out m s
              have P1m := P1.out
              have P2m := P2.out
              generalize hx0 : G2.at_ m s = x at *
              generalize hy0 : G.at_ m s = y at *
              have d1 : decide (Bal.lt ⟨x.prom.rd, x.prom.nd⟩ ⟨y.prom.rd, y.prom.nd⟩) = false := decide_eq_false fun h => Bal.not_lt hr.1 h
              have d2 : decide (Bal.lt ⟨x.accd.bal.rd, x.accd.bal.nd⟩ ⟨y.accd.bal.rd, y.accd.bal.nd⟩) = false := decide_eq_false fun h => Bal.not_lt hr.2.1 h
              have d3 : decide (Bal.lt ⟨x.prom.rd, x.prom.nd⟩ ⟨x.accd.bal.rd, x.accd.bal.nd⟩) = false := decide_eq_false fun h => Bal.not_lt hr.2.2 h
              have kp := Blk.new w6 35 #[.int .i64 x.prom.rd, .int .i64 x.prom.nd]
              have hb7 : Below wr.heap.size wr (w6.alloc (.cells #[.int .i64 x.prom.rd, .int .i64 x.prom.nd] 35)) := hb6.alloc hb6.size _
              have hp6 := hb6.size
              generalize w6.alloc (.cells #[.int .i64 x.prom.rd, .int .i64 x.prom.nd] 35) = w7 at *
              clear hr
              go_wp2_with fail
              refine (hac.out w7 hb7).mono ?_
              rintro e w8 ⟨rfl, hb8⟩
              go_upto_region 17 with fail
              have ka := Blk.new w8 35 #[.int .i64 x.accd.bal.rd, .int .i64 x.accd.bal.nd]
              have hb9 : Below w7.heap.size w7 (w8.alloc (.cells #[.int .i64 x.accd.bal.rd, .int .i64 x.accd.bal.nd] 35)) := hb8.alloc hb8.size _
              have hp8 := hb8.size
              generalize w8.alloc (.cells #[.int .i64 x.accd.bal.rd, .int .i64 x.accd.bal.nd] 35) = w9 at *
              have kp9 := kp.below_all hb9
              have hb10 : Below wr.heap.size wr w9 := hb7.trans (hb9.mono hb7.size)
              have P19 := P1m.below hb10
              have P29 := P2m.below hb10
              have keepS : Hid (∀ w' : World, Below w9.heap.size w9 w' → w'.cell? ⟨w6.heap.size, 0, none⟩ = some (.int .i64 x.prom.rd) ∧ w'.cell? ⟨w6.heap.size, 1, none⟩ = some (.int .i64 x.prom.nd) ∧ w'.cell? ⟨w8.heap.size, 0, none⟩ = some (.int .i64 x.accd.bal.rd) ∧ w'.cell? ⟨w8.heap.size, 1, none⟩ = some (.int .i64 x.accd.bal.nd) ∧ w'.cell? ⟨bp, m * 2, none⟩ = some (.int .i64 y.prom.rd) ∧ w'.cell? ⟨bp, m * 2 + 1, none⟩ = some (.int .i64 y.prom.nd) ∧ w'.cell? ⟨bp + 1, m * 2, none⟩ = some (.int .i64 y.accd.bal.rd) ∧ w'.cell? ⟨bp + 1, m * 2 + 1, none⟩ = some (.int .i64 y.accd.bal.nd)) := hid fun w' h => by
                have c1 := (P19.below h).cells hlt2
                have c2 := (P29.below h).cells hlt2
                simp only [Nat.lt_irrefl, if_false, hy0] at c1 c2
                exact ⟨(kp9.below_all h).cell 0, (kp9.below_all h).cell 1, (ka.below_all h).cell 0, (ka.below_all h).cell 1, c1.1, c1.2, c2.1, c2.2⟩
              have hbX : Hid (Below w9.heap.size w9 w9.drew) := hid (Below.refl _ _).drew
              have fin := hid (And.intro kp9 (And.intro ka (And.intro P19 (And.intro P29 hb10))))
              have hx := hid hx0
              have hp := hid (And.intro hp6 (And.intro hp8 hb7.size))
              clear kp kp9 ka P19 P29 hb10 hb9 hb8 hb7 hb6 P1m P2m hx0 hy0 hp6 hp8
              go_region_held3 (fun w' => w'.cell? ⟨w6.heap.size, 0, none⟩ = some (.int .i64 x.prom.rd) ∧ w'.cell? ⟨w6.heap.size, 1, none⟩ = some (.int .i64 x.prom.nd) ∧ w'.cell? ⟨w8.heap.size, 0, none⟩ = some (.int .i64 x.accd.bal.rd) ∧ w'.cell? ⟨w8.heap.size, 1, none⟩ = some (.int .i64 x.accd.bal.nd) ∧ w'.cell? ⟨bp, m * 2, none⟩ = some (.int .i64 y.prom.rd) ∧ w'.cell? ⟨bp, m * 2 + 1, none⟩ = some (.int .i64 y.prom.nd) ∧ w'.cell? ⟨bp + 1, m * 2, none⟩ = some (.int .i64 y.accd.bal.rd) ∧ w'.cell? ⟨bp + 1, m * 2 + 1, none⟩ = some (.int .i64 y.accd.bal.nd))
                (first | exact keepS.out _ hbX.out | exact keepS.out _ (Below.refl _ _) | exact keepS.out _ (Below.refl _ _).drew)
                ((go_at_call 22; refine (below_any ⟨_, _⟩ ⟨_, _⟩ _).mono ?_; rintro e wb ⟨rfl, hbb⟩
                  have hbX := hid (hbX.out.trans (hbb.mono hbX.out.size))
                  clear hbb))
              obtain ⟨z0, z1, z2, z3, _⟩ := keepS.out wb hbX.out
              have P1z := hid (fin.out.2.2.1.below hbX.out)
              have P2z := hid (fin.out.2.2.2.1.below hbX.out)
              have hBz := hid (fin.out.2.2.2.2.trans (hbX.out.mono fin.out.2.2.2.2.size))
              have qz1 := fun j => P1z.out.frozen j
              have qz2 := fun j => P2z.out.frozen j
              have hn1 : bp < w6.heap.size := Nat.lt_of_lt_of_le P1.out.lt hp.out.1
              have hn2 : bp + 1 < w6.heap.size := Nat.lt_of_lt_of_le P2.out.lt hp.out.1
              have hn3 : bp < w8.heap.size := by have h1 := hp.out.2.2; have h2 := hp.out.2.1; have h3 := P1.out.lt; omega
              have hn4 : bp + 1 < w8.heap.size := by have h1 := hp.out.2.2; have h2 := hp.out.2.1; have h3 := P2.out.lt; omega
              have ha1 : bp < wb.heap.size := P1z.out.lt
              have ha2 : bp + 1 < wb.heap.size := P2z.out.lt
              have hm9 : (m : Int) < 9 := by have := hN9.out; omega
              have hfin : Hid (GAt S2 ((((wb.setCell ⟨bp, m * 2, none⟩ (.int .i64 x.prom.rd)).setCell ⟨bp, m * 2 + 1, none⟩ (.int .i64 x.prom.nd)).setCell ⟨bp + 1, m * 2, none⟩ (.int .i64 x.accd.bal.rd)).setCell ⟨bp + 1, m * 2 + 1, none⟩ (.int .i64 x.accd.bal.nd)) w1.heap.size G2 ∧ BArr ((((wb.setCell ⟨bp, m * 2, none⟩ (.int .i64 x.prom.rd)).setCell ⟨bp, m * 2 + 1, none⟩ (.int .i64 x.prom.nd)).setCell ⟨bp + 1, m * 2, none⟩ (.int .i64 x.accd.bal.rd)).setCell ⟨bp + 1, m * 2 + 1, none⟩ (.int .i64 x.accd.bal.nd)) bp N (fun j => if j < m + 1 then (G2.at_ j s).prom else (G.at_ j s).prom) ∧ BArr ((((wb.setCell ⟨bp, m * 2, none⟩ (.int .i64 x.prom.rd)).setCell ⟨bp, m * 2 + 1, none⟩ (.int .i64 x.prom.nd)).setCell ⟨bp + 1, m * 2, none⟩ (.int .i64 x.accd.bal.rd)).setCell ⟨bp + 1, m * 2 + 1, none⟩ (.int .i64 x.accd.bal.nd)) (bp + 1) N (fun j => if j < m + 1 then (G2.at_ j s).accd.bal else (G.at_ j s).accd.bal) ∧ Below w1.heap.size w1 ((((wb.setCell ⟨bp, m * 2, none⟩ (.int .i64 x.prom.rd)).setCell ⟨bp, m * 2 + 1, none⟩ (.int .i64 x.prom.nd)).setCell ⟨bp + 1, m * 2, none⟩ (.int .i64 x.accd.bal.rd)).setCell ⟨bp + 1, m * 2 + 1, none⟩ (.int .i64 x.accd.bal.nd))) := hid (by
                have hu1 : Upd (fun k => k = bp) wb ((wb.setCell ⟨bp, m * 2, none⟩ (.int .i64 x.prom.rd)).setCell ⟨bp, m * 2 + 1, none⟩ (.int .i64 x.prom.nd)) := ((Upd.refl (fun k => k = bp) wb).setCell (p := ⟨bp, m * 2, none⟩) (fun _ => rfl) _).setCell (p := ⟨bp, m * 2 + 1, none⟩) (fun _ => rfl) _
                have hu2 : Upd (fun k => k = bp + 1) ((wb.setCell ⟨bp, m * 2, none⟩ (.int .i64 x.prom.rd)).setCell ⟨bp, m * 2 + 1, none⟩ (.int .i64 x.prom.nd)) ((((wb.setCell ⟨bp, m * 2, none⟩ (.int .i64 x.prom.rd)).setCell ⟨bp, m * 2 + 1, none⟩ (.int .i64 x.prom.nd)).setCell ⟨bp + 1, m * 2, none⟩ (.int .i64 x.accd.bal.rd)).setCell ⟨bp + 1, m * 2 + 1, none⟩ (.int .i64 x.accd.bal.nd)) := ((Upd.refl (fun k => k = bp + 1) _).setCell (p := ⟨bp + 1, m * 2, none⟩) (fun _ => rfl) _).setCell (p := ⟨bp + 1, m * 2 + 1, none⟩) (fun _ => rfl) _
                have hq := qX.out.below hBz.out
                refine ⟨?_, ?_, ?_, ?_⟩
                · obtain ⟨An, cn, Am, cm, a, q⟩ := hq
                  exact ⟨An, cn, Am, cm, a, (q.far hu1 fun j hj e => (hS2.out j hj).2.1 e).far hu2 fun j hj e => (hS2.out j hj).2.2 e⟩
                · refine ((P1z.out.set hlt2 x.prom).upd hu2 (by omega)).congr fun j hj => ?_
                  by_cases e : j = m
                  · subst e; simp [hx.out]
                  · have e2 : (j < m + 1) = (j < m) := by apply propext; omega
                    simp only [e2, e, if_false]
                · refine ((P2z.out.upd hu1 (by omega)).set hlt2 x.accd.bal).congr fun j hj => ?_
                  by_cases e : j = m
                  · subst e; simp [hx.out]
                  · have e2 : (j < m + 1) = (j < m) := by apply propext; omega
                    simp only [e2, e, if_false]
                · have hb := hB.out.trans (hBz.out.mono hB.out.size)
                  have hg1 : w1.heap.size ≤ bp := hbp.out
                  exact (((hb.setCell (p := ⟨bp, m * 2, none⟩) hg1 _).setCell (p := ⟨bp, m * 2 + 1, none⟩) hg1 _).setCell (p := ⟨bp + 1, m * 2, none⟩) (Nat.le_succ_of_le hg1) _).setCell (p := ⟨bp + 1, m * 2 + 1, none⟩) (Nat.le_succ_of_le hg1) _)
              clear d1 d2 d3
              go_wp2_with fail
              go_roundw
              case rel => exact ⟨m + 1, by go_num, by omega, hfin.out.1, hfin.out.2.1, hfin.out.2.2.1, hfin.out.2.2.2⟩
              case measure => simp [intOf]; omega
            · obtain rfl : m = N := by omega
              have hkk : (k : Int) < 1048577 := by have := hll.out; omega
              go_wp2_with fail
              go_roundw
              case rel => exact ⟨k + 1, S2, G2, by go_num, by omega, qx, hS2.out, hF2.out, fun j t => (hr2.out j t).2.2, P1.out.congr fun j hj => by simp [hj], P2.out.congr fun j hj => by simp [hj], hB.out⟩
              case measure => simp [intOf]; omega
        · obtain rfl : k = us.length := by omega
          go_wp2_with (go_at_call 11; refine (live_any _).mono ?_; rintro e w3 ⟨rfl, hb3⟩)
          go_ret
          exact ⟨rfl, hB.out.trans (hb3.mono (by have := hB.out.size; omega))⟩

end Go.Proofs.Ytbgopicpdpkccaa

/- InterpSums: the walk. -/
import Derived.Test.YtdmogoaaecdbaaaGreatDoorZRight
import Derived.Deep.CutBlock
import Derived.Deep.DeepCutAuto
namespace Go.Proofs.YtdmogoaaecdbaaaGreatDoor
open Go.RowKit
set_option linter.unusedVariables false
set_option linter.unusedSimpArgs false

theorem arith_inR {op a b n : Int} (ha : inR a = true) (hb : inR b = true) (h : arithP op a b = .ok n) : inR n = true := arith_rng ha hb h
/-- right says yes of what came of two numbers -/
theorem right_sum {w : World} {op a b : Int} {A1 A2 A3 A4 : Option Addr} {c1 c2 c3 c4 : Nat} (hop : sumOp op) (ha : inR a = true) (hb : inR b = true) (h : OcR w (.agg #[.int .i64 (sumO op a b).code, .int .i64 (sumO op a b).at_, .int .i64 (sumO op a b).ab, .slice A1 (sumO op a b).out.length c1, .slice A2 (sumO op a b).ws.length c2, .slice A3 (sumO op a b).rd.length c3, .slice A4 (sumO op a b).wr.length c4, .int .i64 (sumO op a b).left]) (sumO op a b)) :
    Calls Tryz.prog 28 #[.int .i64 op, .int .i64 a, .int .i64 b, .agg #[.int .i64 (sumO op a b).code, .int .i64 (sumO op a b).at_, .int .i64 (sumO op a b).ab, .slice A1 (sumO op a b).out.length c1, .slice A2 (sumO op a b).ws.length c2, .slice A3 (sumO op a b).rd.length c3, .slice A4 (sumO op a b).wr.length c4, .int .i64 (sumO op a b).left]] w fun e w' => e = .returned (.bool true) ∧ Below w.heap.size w w' := by
  cases hx : arithP op a b with
  | ok n =>
    have ho : sumO op a b = ⟨0, 4, 0, [numVl n], [], [], [], 95⟩ := by unfold sumO; rw [hx]
    rw [ho] at h ⊢
    obtain ⟨_, B1, d1, B2, d2, B3, d3, B4, d4, e, r1, _⟩ := h
    have r1 : Rd (fun _ => True) w 3 A1 1 (vcells [numVl n]) := by
      injection e with e
      injection e with e
      simp only [List.cons.injEq, Value.slice.injEq] at e
      rw [e.2.2.2.1.1]
      exact r1
    have hn := inR_iff.1 (arith_rng ha hb hx)
    unfold arithP at hx
    rcases hop with rfl | rfl | rfl | rfl | rfl
    · rw [if_pos rfl] at hx
      split at hx
      · injection hx with hx
        exact right_addO ha hb r1 ⟨hx.symm, hn⟩
      · cases hx
    · rw [if_neg (by decide), if_pos rfl] at hx
      split at hx
      · injection hx with hx
        exact right_subO ha hb r1 ⟨hx.symm, hn⟩
      · cases hx
    · rw [if_neg (by decide), if_neg (by decide), if_pos rfl] at hx
      split at hx
      · injection hx with hx
        exact right_mulO ha hb r1 ⟨hx.symm, hn⟩
      · cases hx
    · rw [if_neg (by decide), if_neg (by decide), if_neg (by decide)] at hx
      split at hx
      · cases hx
      rename_i h0
      rw [if_neg (by decide)] at hx
      split at hx
      · cases hx
      rename_i h1
      injection hx with hx
      exact right_divO ha hb r1 ⟨h0, h1, hx.symm⟩
    · rw [if_neg (by decide), if_neg (by decide), if_neg (by decide)] at hx
      split at hx
      · cases hx
      rename_i h0
      rw [if_pos rfl] at hx
      injection hx with hx
      exact right_modO ha hb r1 ⟨h0, hx.symm⟩
  | error er =>
    have ho : sumO op a b = ⟨er, 2, 0, [], [], [], [], 97⟩ := by unfold sumO; rw [hx]
    rw [ho]
    clear h ho
    unfold arithP at hx
    rcases hop with rfl | rfl | rfl | rfl | rfl
    · rw [if_pos rfl] at hx
      split at hx
      · cases hx
      · rename_i h0
        injection hx with hx
        subst hx
        exact right_addE ha hb (fun h => h0 (inR_iff.2 h))
    · rw [if_neg (by decide), if_pos rfl] at hx
      split at hx
      · cases hx
      · rename_i h0
        injection hx with hx
        subst hx
        exact right_subE ha hb (fun h => h0 (inR_iff.2 h))
    · rw [if_neg (by decide), if_neg (by decide), if_pos rfl] at hx
      split at hx
      · cases hx
      · rename_i h0
        injection hx with hx
        subst hx
        exact right_mulE ha hb (fun h => h0 (inR_iff.2 h))
    · rw [if_neg (by decide), if_neg (by decide), if_neg (by decide)] at hx
      split at hx
      · rename_i h0
        injection hx with hx
        subst hx
        exact right_div0 ha hb h0
      rw [if_neg (by decide)] at hx
      split at hx
      · rename_i h0
        injection hx with hx
        subst hx
        exact right_divE ha hb h0
      · cases hx
    · rw [if_neg (by decide), if_neg (by decide), if_neg (by decide)] at hx
      split at hx
      · rename_i h0
        injection hx with hx
        subst hx
        exact right_mod0 ha hb h0
      rw [if_pos rfl] at hx
      cases hx
section
variable {w : World} {a b : Int}
set_option maxRecDepth 100000 in
set_option maxHeartbeats 400000000 in
theorem sumsI_any (ha0 : inR a = true) (hb00 : inR b = true) (he0 : Env w) : Calls Tryz.prog 8 #[.int .i64 a, .int .i64 b] w fun e w' => e = .returned (.bool true) ∧ Below w.heap.size w w' := by
  have he := hid he0
  have haR := hid ha0
  have hbR := hid hb00
  clear he0 ha0 hb00
  have kb := hid (Blk.new w 3 #[.int .i64 7, .int .i64 8, .int .i64 9, .int .i64 10, .int .i64 11])
  have hB := hid ((Below.refl w.heap.size w).alloc (Nat.le_refl _) (.cells #[.int .i64 7, .int .i64 8, .int .i64 9, .int .i64 10, .int .i64 11] 3))
  go_enter Tryz.func8, Tryz.ntmps8
  go_upto_region 2 with fail
  generalize w.alloc (.cells #[.int .i64 7, .int .i64 8, .int .i64 9, .int .i64 10, .int .i64 11] 3) = w1 at *
  go_wp2_with fail
  go_loopw [6] (fun v wr => ∃ i : Nat, v = .int .i64 i ∧ i ≤ 5 ∧ Below w1.heap.size w1 wr) (fun v _ => 5 - (intOf v).toNat)
  case atStart => exact ⟨0, rfl, Nat.zero_le _, Below.refl _ _⟩
  case round =>
    obtain ⟨i, rfl, hi, hBr0⟩ := hrel
    have hBr := hid hBr0
    have hBw := hid (hB.out.trans (hBr0.mono hB.out.size))
    clear hBr0
    by_cases hlt : i < 5
    · have i1 : (i : Int) < 5 := by omega
      have i2 : IntKind.i64.wrap ((i : Int) + 1) = (i : Int) + 1 := by rw [IntKind.wrap_i64]; omega
      obtain ⟨op, hop0, hcell⟩ : ∃ op : Int, sumOp op ∧ Hid (∀ W, Below w1.heap.size w1 W → W.cell? ⟨w.heap.size, i, none⟩ = some (.int .i64 op)) := by
        have h5 : i = 0 ∨ i = 1 ∨ i = 2 ∨ i = 3 ∨ i = 4 := by omega
        rcases h5 with rfl | rfl | rfl | rfl | rfl
        · exact ⟨7, .inl rfl, hid fun W hW => (kb.out.below_all hW).cell 0⟩
        · exact ⟨8, .inr (.inl rfl), hid fun W hW => (kb.out.below_all hW).cell 1⟩
        · exact ⟨9, .inr (.inr (.inl rfl)), hid fun W hW => (kb.out.below_all hW).cell 2⟩
        · exact ⟨10, .inr (.inr (.inr (.inl rfl))), hid fun W hW => (kb.out.below_all hW).cell 3⟩
        · exact ⟨11, .inr (.inr (.inr (.inr rfl))), hid fun W hW => (kb.out.below_all hW).cell 4⟩
      have hop := hid hop0
      clear hop0
      have e0 := hcell.out _ hBr.out
      have hltH := hid hlt
      clear hi
      go_upto_region 6 with fail
      have hb9 : Below wr.heap.size wr ((wr.alloc (.cells #[.int .i64 2, .int .i64 0, .int .i64 2, .int .i64 1, .int .i64 op, .int .i64 0, .int .i64 29, .int .i64 0, .int .i64 31, .int .i64 0] 69)).alloc (.cells #[.int .i64 2, .slice none 0 0, .slice (some ⟨wr.heap.size, 0, none⟩) 5 5] 33)) := below_two _ _
      have h25 := hid (show Blk ((wr.alloc (.cells #[.int .i64 2, .int .i64 0, .int .i64 2, .int .i64 1, .int .i64 op, .int .i64 0, .int .i64 29, .int .i64 0, .int .i64 31, .int .i64 0] 69)).alloc (.cells #[.int .i64 2, .slice none 0 0, .slice (some ⟨wr.heap.size, 0, none⟩) 5 5] 33)) wr.heap.size 69 #[.int .i64 2, .int .i64 0, .int .i64 2, .int .i64 1, .int .i64 op, .int .i64 0, .int .i64 29, .int .i64 0, .int .i64 31, .int .i64 0] from (Blk.new wr _ _).alloc _)
      have kp := hid (show Blk ((wr.alloc (.cells #[.int .i64 2, .int .i64 0, .int .i64 2, .int .i64 1, .int .i64 op, .int .i64 0, .int .i64 29, .int .i64 0, .int .i64 31, .int .i64 0] 69)).alloc (.cells #[.int .i64 2, .slice none 0 0, .slice (some ⟨wr.heap.size, 0, none⟩) 5 5] 33)) (wr.heap.size + 1) 33 #[.int .i64 2, .slice none 0 0, .slice (some ⟨wr.heap.size, 0, none⟩) 5 5] from Blk.new' _ _ _ (by simp))
      have hB5 := hid (hBr.out.trans (hb9.mono hBr.out.size))
      have hBw5 := hid (hBw.out.trans (hb9.mono hBw.out.size))
      clear hb9 e0 hBr hBw
      generalize (wr.alloc (.cells #[.int .i64 2, .int .i64 0, .int .i64 2, .int .i64 1, .int .i64 op, .int .i64 0, .int .i64 29, .int .i64 0, .int .i64 31, .int .i64 0] 69)).alloc (.cells #[.int .i64 2, .slice none 0 0, .slice (some ⟨wr.heap.size, 0, none⟩) 5 5] 33) = w5 at *
      generalize wr.heap.size = m at *
      have hml := hid (show m < w5.heap.size from h25.out.lt)
      have hrun : Hid (∀ (W : World) (ge sb : Nat), Below w5.heap.size w5 W → Blk W ge 55 #[.int .i64 1, .int .i64 a, .string ⟨#[]⟩, .int .i64 1, .int .i64 b, .string ⟨#[]⟩] → w5.heap.size ≤ ge → Blk W sb 50 #[.slice none 0 0, .slice none 0 0] → w5.heap.size ≤ sb → Calls Tryz.prog 14 #[.agg #[.int .i64 2, .slice none 0 0, .slice (some ⟨m, 0, none⟩) 5 5], .slice (some ⟨ge, 0, none⟩) 2 2, .iface 41 (.pointer (some ⟨sb, 0, none⟩)), .int .i64 100] W fun e w' => ∃ v, e = .returned v ∧ OcV W.heap.size w' v (sumO op a b) ∧ Upd (fun q => q = sb) W w') := hid fun W ge sb hb hE gE hS gS => by
        have h := run_all (w := W) (F := ⟨sumPr op, [numVl a, numVl b], [], none, 0, some ⟨m, 0, none⟩, 5, some ⟨ge, 0, none⟩, 2, none, 0, sb⟩) 100 ⟨⟨Rd.nil_, (Rd.blk (h25.out.below_all hb) (size := 2) (n := 5) rfl).more fun q hq hl => ⟨hl, by have := hml.out; show q ≠ sb; omega⟩, fun x hx => (by cases hx), by show (0 : Nat) ≤ _ ∧ (5 : Nat) ≤ _; omega⟩, (Rd.blk hE (size := 3) (n := 2) rfl).more fun q hq hl => ⟨hl, fun e => absurd (blk_ty (show Blk W sb 55 #[.int .i64 1, .int .i64 a, .string ⟨#[]⟩, .int .i64 1, .int .i64 b, .string ⟨#[]⟩] from by rw [← (show q = sb from e), hq]; exact hE) hS) (by decide)⟩, Rd.nil_, hS, fun W' hW' => he.out.below ((hBw5.out.trans (hb.mono hBw5.out.size)).trans (hW'.below (hBw5.out.trans (hb.mono hBw5.out.size)).size fun q hq e => by have e : q = sb := e; have := hBw5.out.size; omega))⟩ (by show (2 : Nat) ≤ _; omega) (fun x hx => by
            rcases List.mem_cons.1 hx with rfl | hx
            · show 0 ≤ _; omega
            · rw [List.mem_singleton.1 hx]; show 0 ≤ _; omega) (fun x hx => by cases hx) (fun x hx => by
            rcases List.mem_cons.1 hx with rfl | hx
            · exact inR_iff.1 haR.out
            · rw [List.mem_singleton.1 hx]; exact inR_iff.1 hbR.out) (fun x hx => by cases hx) (fun x hx => by cases hx) (by show (0 : Nat) ≤ _; omega)
        refine h.mono ?_
        rintro e w' ⟨v, he, h1, _, h3⟩
        refine ⟨v, he, ?_, h3⟩
        rw [← sum_run hop.out]
        exact h1
      have hX := hid (fun W (hW : Below w5.heap.size w5 W) => (show W.cell? ⟨m + 1, 0, none⟩ = some (.int .i64 2) ∧ W.cell? ⟨m + 1, 1, none⟩ = some (.slice none 0 0) ∧ W.cell? ⟨m + 1, 2, none⟩ = some (.slice (some ⟨m, 0, none⟩) 5 5) from ⟨(kp.out.below_all hW).cell 0, (kp.out.below_all hW).cell 1, (kp.out.below_all hW).cell 2⟩))
      obtain ⟨o, hoo⟩ : ∃ o, Hid (sumO op a b = o) := ⟨_, hid rfl⟩
      rw [hoo.out] at hrun
      go_cut [8] (fun u wx => ∃ (n8 : Nat) (A1 : Option Addr) (c1 : Nat) (A2 : Option Addr) (c2 : Nat) (A3 : Option Addr) (c3 : Nat) (A4 : Option Addr) (c4 : Nat), u = .pointer (some ⟨n8, 0, none⟩) ∧ Blk wx n8 29 #[.int .i64 o.code, .int .i64 o.at_, .int .i64 o.ab, .slice A1 o.out.length c1, .slice A2 o.ws.length c2, .slice A3 o.rd.length c3, .slice A4 o.wr.length c4, .int .i64 o.left] ∧ OcR wx (.agg #[.int .i64 o.code, .int .i64 o.at_, .int .i64 o.ab, .slice A1 o.out.length c1, .slice A2 o.ws.length c2, .slice A3 o.rd.length c3, .slice A4 o.wr.length c4, .int .i64 o.left]) o ∧ Below w5.heap.size w5 wx)
      case first =>
        refine wp_region_held_drew (S := fun w'' => Below w5.heap.size w5 w'') (by kernel_rfl) ?_ (fun hHeld => ?_)
        · exact (Below.refl _ _).drew
        have hb0 : Hid (Below w5.heap.size w5 w5.drew) := hid (Below.refl _ _).drew
        generalize World.drew w5 = Wc at *
        have hb := hid hb0.out
        clear hb0
        refine wpAnyH_take (i := 0) (v := ?v1) rfl (by kernel_rfl) (by kernel_rfl) (by kernel_rfl) (fun _ _ _ h => h) (Or.inl ⟨by rfl, ?hy1⟩) (by assumption) ?rest1
        case hy1 => intro w' hSw; obtain ⟨y0, y1, y2⟩ := hX.out w' hSw; (try dsimp only at hSw); go_simp; try with_reducible rfl
        (try simp only [Act.put, List.setIfInBounds_toArray, List.set_cons_zero, List.set_cons_succ, List.getElem_toArray, List.getElem_cons_zero, List.getElem_cons_succ])
        refine wpAnyH_take (i := 1) (v := ?v2) rfl (by kernel_rfl) (by kernel_rfl) (by kernel_rfl) (fun _ _ _ h => h) (Or.inl ⟨by rfl, ?hy2⟩) (by assumption) ?rest2
        case hy2 => intro w' hSw; obtain ⟨y0, y1, y2⟩ := hX.out w' hSw; (try dsimp only at hSw); go_simp; try with_reducible rfl
        (try simp only [Act.put, List.setIfInBounds_toArray, List.set_cons_zero, List.set_cons_succ, List.getElem_toArray, List.getElem_cons_zero, List.getElem_cons_succ])
        refine wpAnyH_take (i := 3) (v := ?v3) rfl (by kernel_rfl) (by kernel_rfl) (by kernel_rfl) (fun _ _ _ h => h) (Or.inl ⟨by rfl, ?hy3⟩) (by assumption) ?rest3
        case hy3 => intro w' hSw; obtain ⟨y0, y1, y2⟩ := hX.out w' hSw; (try dsimp only at hSw); go_simp; try with_reducible rfl
        (try simp only [Act.put, List.setIfInBounds_toArray, List.set_cons_zero, List.set_cons_succ, List.getElem_toArray, List.getElem_cons_zero, List.getElem_cons_succ])
        refine wpAnyH_take (i := 6) (v := ?v4) rfl (by kernel_rfl) (by kernel_rfl) (by kernel_rfl) (fun _ _ _ h => h) (Or.inl ⟨by rfl, ?hy4⟩) (by assumption) ?rest4
        case hy4 => intro w' hSw; obtain ⟨y0, y1, y2⟩ := hX.out w' hSw; (try dsimp only at hSw); go_simp; try with_reducible rfl
        (try simp only [Act.put, List.setIfInBounds_toArray, List.set_cons_zero, List.set_cons_succ, List.getElem_toArray, List.getElem_cons_zero, List.getElem_cons_succ])
        iterate 7
          all_goals (
            (first
              | refine wpAnyH_ready (rs := [2, 4, 7, 10]) (by decide +kernel) (by simp) ?_
              | refine wpAnyH_ready (rs := [2, 4, 7]) (by decide +kernel) (by simp) ?_
              | refine wpAnyH_ready (rs := [2, 4, 10]) (by decide +kernel) (by simp) ?_
              | refine wpAnyH_ready (rs := [2, 7, 10]) (by decide +kernel) (by simp) ?_
              | refine wpAnyH_ready (rs := [4, 7, 10]) (by decide +kernel) (by simp) ?_
              | refine wpAnyH_ready (rs := [5, 7, 10]) (by decide +kernel) (by simp) ?_
              | refine wpAnyH_ready (rs := [2, 4]) (by decide +kernel) (by simp) ?_
              | refine wpAnyH_ready (rs := [2, 7]) (by decide +kernel) (by simp) ?_
              | refine wpAnyH_ready (rs := [2, 10]) (by decide +kernel) (by simp) ?_
              | refine wpAnyH_ready (rs := [4, 7]) (by decide +kernel) (by simp) ?_
              | refine wpAnyH_ready (rs := [4, 10]) (by decide +kernel) (by simp) ?_
              | refine wpAnyH_ready (rs := [5, 7]) (by decide +kernel) (by simp) ?_
              | refine wpAnyH_ready (rs := [5, 10]) (by decide +kernel) (by simp) ?_
              | refine wpAnyH_ready (rs := [7, 10]) (by decide +kernel) (by simp) ?_
              | refine wpAnyH_ready (rs := [9, 10]) (by decide +kernel) (by simp) ?_
              | refine wpAnyH_ready (rs := [2]) (by decide +kernel) (by simp) ?_
              | refine wpAnyH_ready (rs := [4]) (by decide +kernel) (by simp) ?_
              | refine wpAnyH_ready (rs := [5]) (by decide +kernel) (by simp) ?_
              | refine wpAnyH_ready (rs := [7]) (by decide +kernel) (by simp) ?_
              | refine wpAnyH_ready (rs := [9]) (by decide +kernel) (by simp) ?_
              | refine wpAnyH_ready (rs := [10]) (by decide +kernel) (by simp) ?_
              | refine wpAnyH_ready (rs := [11]) (by decide +kernel) (by simp) ?_
            )
            (repeat' (first | exact AllReadyH.nil | refine AllReadyH.cons rfl (fun K hK => ?_) ?_))
            all_goals (first
              | (
                  go_simp
                  refine (hrun.out Wc ge sb hb.out kE.out gE.out kS.out gS.out).mono ?_
                  rintro e Wn ⟨v, rfl, hoc0, hu0⟩
                  have hoc := hid (hoc0.base hb.out.size)
                  have hb := hid (hb.out.trans (hu0.below hb.out.size fun q hq e => by have := gS.out; omega))
                  (try have kT := hid (kT.out.upd hu0 (fun e => absurd (blk_ty (e ▸ kT.out) kS.out) (by decide))))
                  clear hoc0 hu0 kE kS
                  rename World => Wc
                  refine hK.out _ _ ?_ (fun hHeld => ?_)
                  · exact hb.out
                  clear hK K
                  (try simp only [Act.put, List.setIfInBounds_toArray, List.set_cons_zero, List.set_cons_succ, List.getElem_toArray, List.getElem_cons_zero, List.getElem_cons_succ])
                )
              | (
                  go_simp
                  refine (ofI_any _ _).mono ?_
                  rintro e Wc ⟨rfl, hb9⟩
                  (try have kE := hid (kE.out.below_all hb9))
                  (try have kS := hid (kS.out.below_all hb9))
                  (try have kT := hid (kT.out.below_all hb9))
                  (try have hoc := hid (hoc.out.below hb9))
                  have hb := hid (hb.out.trans (hb9.mono hb.out.size))
                  clear hb9
                  refine hK.out _ _ ?_ (fun hHeld => ?_)
                  · exact hb.out
                  clear hK K
                  (try simp only [Act.put, List.setIfInBounds_toArray, List.set_cons_zero, List.set_cons_succ, List.getElem_toArray, List.getElem_cons_zero, List.getElem_cons_succ])
                )
              | (
                  go_simp
                  have hb9 : Below Wc.heap.size Wc (Wc.alloc (.cells #[.int .i64 1, .int .i64 a, .string ⟨#[]⟩, .int .i64 1, .int .i64 b, .string ⟨#[]⟩] 55)) := (Below.refl _ _).alloc (Nat.le_refl _) _
                  (try have kE := hid (kE.out.below_all hb9))
                  (try have kS := hid (kS.out.below_all hb9))
                  (try have kT := hid (kT.out.below_all hb9))
                  (try have hoc := hid (hoc.out.below hb9))
                  have kE := hid (Blk.new Wc 55 #[.int .i64 1, .int .i64 a, .string ⟨#[]⟩, .int .i64 1, .int .i64 b, .string ⟨#[]⟩])
                  have gE : Hid (w5.heap.size ≤ Wc.heap.size) := hid hb.out.size
                  have hb := hid (hb.out.trans (hb9.mono hb.out.size))
                  clear hb9
                  generalize hal : Wc.alloc (.cells #[.int .i64 1, .int .i64 a, .string ⟨#[]⟩, .int .i64 1, .int .i64 b, .string ⟨#[]⟩] 55) = Wn at *
                  clear hal
                  generalize Wc.heap.size = ge at *
                  rename World => Wc
                  refine hK.out _ _ ?_ (fun hHeld => ?_)
                  · exact hb.out
                  clear hK K
                  (try simp only [Act.put, List.setIfInBounds_toArray, List.set_cons_zero, List.set_cons_succ, List.getElem_toArray, List.getElem_cons_zero, List.getElem_cons_succ])
                )
              | (
                  go_simp
                  have hb9 : Below Wc.heap.size Wc (Wc.alloc (.cells #[.slice none 0 0, .slice none 0 0] 50)) := (Below.refl _ _).alloc (Nat.le_refl _) _
                  (try have kE := hid (kE.out.below_all hb9))
                  (try have kS := hid (kS.out.below_all hb9))
                  (try have kT := hid (kT.out.below_all hb9))
                  (try have hoc := hid (hoc.out.below hb9))
                  have kS := hid (Blk.new Wc 50 #[.slice none 0 0, .slice none 0 0])
                  have gS : Hid (w5.heap.size ≤ Wc.heap.size) := hid hb.out.size
                  have hb := hid (hb.out.trans (hb9.mono hb.out.size))
                  clear hb9
                  generalize hal : Wc.alloc (.cells #[.slice none 0 0, .slice none 0 0] 50) = Wn at *
                  clear hal
                  generalize Wc.heap.size = sb at *
                  rename World => Wc
                  refine hK.out _ _ ?_ (fun hHeld => ?_)
                  · exact hb.out
                  clear hK K
                  (try simp only [Act.put, List.setIfInBounds_toArray, List.set_cons_zero, List.set_cons_succ, List.getElem_toArray, List.getElem_cons_zero, List.getElem_cons_succ])
                  refine wpAnyH_take (i := 8) (v := .iface 41 (.pointer (some ⟨sb, 0, none⟩))) rfl (by kernel_rfl) (by kernel_rfl) (by kernel_rfl) (fun _ _ _ h => h) (Or.inl ⟨by rfl, ?_⟩) (by assumption) ?_
                  · intro w' hSw; (try dsimp only at hSw); go_simp; try with_reducible rfl
                  (try simp only [Act.put, List.setIfInBounds_toArray, List.set_cons_zero, List.set_cons_succ, List.getElem_toArray, List.getElem_cons_zero, List.getElem_cons_succ])
                )
              | (
                  go_simp
                  have hb9 : Below Wc.heap.size Wc (Wc.alloc (.cells #[.int .i64 0, .int .i64 0, .int .i64 0, .slice none 0 0, .slice none 0 0, .slice none 0 0, .slice none 0 0, .int .i64 0] 29)) := (Below.refl _ _).alloc (Nat.le_refl _) _
                  (try have kE := hid (kE.out.below_all hb9))
                  (try have kS := hid (kS.out.below_all hb9))
                  (try have kT := hid (kT.out.below_all hb9))
                  (try have hoc := hid (hoc.out.below hb9))
                  have kT := hid (Blk.new Wc 29 #[.int .i64 0, .int .i64 0, .int .i64 0, .slice none 0 0, .slice none 0 0, .slice none 0 0, .slice none 0 0, .int .i64 0])
                  have gT : Hid (w5.heap.size ≤ Wc.heap.size) := hid hb.out.size
                  have hb := hid (hb.out.trans (hb9.mono hb.out.size))
                  clear hb9
                  generalize hal : Wc.alloc (.cells #[.int .i64 0, .int .i64 0, .int .i64 0, .slice none 0 0, .slice none 0 0, .slice none 0 0, .slice none 0 0, .int .i64 0] 29) = Wn at *
                  clear hal
                  generalize Wc.heap.size = n8 at *
                  rename World => Wc
                  refine hK.out _ _ ?_ (fun hHeld => ?_)
                  · exact hb.out
                  clear hK K
                  (try simp only [Act.put, List.setIfInBounds_toArray, List.set_cons_zero, List.set_cons_succ, List.getElem_toArray, List.getElem_cons_zero, List.getElem_cons_succ])
                )
              | (
                  obtain ⟨A1, c1, A2, c2, A3, c3, A4, c4, rfl, hr1, hr2, hr3, hr4⟩ := hoc.out
                  have hoc2 : Hid (OcV w5.heap.size Wc (.agg #[.int .i64 o.code, .int .i64 o.at_, .int .i64 o.ab, .slice A1 o.out.length c1, .slice A2 o.ws.length c2, .slice A3 o.rd.length c3, .slice A4 o.wr.length c4, .int .i64 o.left]) o) := hid ⟨A1, c1, A2, c2, A3, c3, A4, c4, rfl, hr1, hr2, hr3, hr4⟩
                  clear hoc hr1 hr2 hr3 hr4
                  have zl := kT.out.lt
                  have z0 := kT.out.cell 0
                  have z1 := kT.out.cell 1
                  have z2 := kT.out.cell 2
                  have z3 := kT.out.cell 3
                  have z4 := kT.out.cell 4
                  have z5 := kT.out.cell 5
                  have z6 := kT.out.cell 6
                  have z7 := kT.out.cell 7
                  simp only [List.getElem?_toArray, List.getElem?_cons_zero, List.getElem?_cons_succ] at z0 z1 z2 z3 z4 z5 z6 z7
                  have fz := fun q => kT.out.frozen q
                  go_simp
                  obtain ⟨wz, hW9, kN, hup⟩ := set_oc' kT.out (.int .i64 o.code) (.int .i64 o.at_) (.int .i64 o.ab) (.slice A1 o.out.length c1) (.slice A2 o.ws.length c2) (.slice A3 o.rd.length c3) (.slice A4 o.wr.length c4) (.int .i64 o.left)
                  rw [hW9]
                  clear hW9
                  have hocz := hid (hoc2.out.upd hup kT.out (by decide) (by decide) (by decide))
                  have hbz := hid (hb.out.trans (hup.below hb.out.size fun q hq e => by have := gT.out; omega))
                  have kN := hid kN
                  clear hup hoc2 z0 z1 z2 z3 z4 z5 z6 z7 fz zl kT
                  refine hK.out _ _ ?_ (fun hHeld => ?_)
                  · exact hbz.out
                  clear hK K
                  (try simp only [Act.put, List.setIfInBounds_toArray, List.set_cons_zero, List.set_cons_succ, List.getElem_toArray, List.getElem_cons_zero, List.getElem_cons_succ])
                  refine wpAnyH_done (by kernel_rfl) ?_ _
                  go_wp2_with fail
                  go_meet
                  case rel => exact ⟨n8, A1, c1, A2, c2, A3, c3, A4, c4, rfl, kN.out, hocz.out.read, hbz.out⟩
                )
            ))
      case rest =>
        obtain ⟨n8, A1, c1, A2, c2, A3, c3, A4, c4, rfl, kN0, hocr0, hbx0⟩ := hcut
        rename World => wx
        have kN := hid kN0
        have hocr := hid hocr0
        have hBx := hid (hB5.out.trans (hbx0.mono hB5.out.size))
        have hBwx := hid (hBw5.out.trans (hbx0.mono hBw5.out.size))
        clear kN0 hocr0 hbx0 hrun hX kp h25
        have hrs : Hid (∀ W, Below wx.heap.size wx W → Calls Tryz.prog 28 #[.int .i64 op, .int .i64 a, .int .i64 b, .agg #[.int .i64 o.code, .int .i64 o.at_, .int .i64 o.ab, .slice A1 o.out.length c1, .slice A2 o.ws.length c2, .slice A3 o.rd.length c3, .slice A4 o.wr.length c4, .int .i64 o.left]] W fun e w' => e = .returned (.bool true) ∧ Below W.heap.size W w') := hid fun W hW => by
          have h := hocr.out.below hW
          rw [← hoo.out] at h ⊢
          exact right_sum hop.out haR.out hbR.out h
        have hY := hid (fun W (hW : Below wx.heap.size wx W) => (show W.cell? ⟨w.heap.size, i, none⟩ = some (.int .i64 op) ∧ W.cell? ⟨n8, 0, none⟩ = some (.int .i64 o.code) ∧ W.cell? ⟨n8, 1, none⟩ = some (.int .i64 o.at_) ∧ W.cell? ⟨n8, 2, none⟩ = some (.int .i64 o.ab) ∧ W.cell? ⟨n8, 3, none⟩ = some (.slice A1 o.out.length c1) ∧ W.cell? ⟨n8, 4, none⟩ = some (.slice A2 o.ws.length c2) ∧ W.cell? ⟨n8, 5, none⟩ = some (.slice A3 o.rd.length c3) ∧ W.cell? ⟨n8, 6, none⟩ = some (.slice A4 o.wr.length c4) ∧ W.cell? ⟨n8, 7, none⟩ = some (.int .i64 o.left) from ⟨hcell.out W (hBx.out.trans (hW.mono hBx.out.size)), (kN.out.below_all hW).cell 0, (kN.out.below_all hW).cell 1, (kN.out.below_all hW).cell 2, (kN.out.below_all hW).cell 3, (kN.out.below_all hW).cell 4, (kN.out.below_all hW).cell 5, (kN.out.below_all hW).cell 6, (kN.out.below_all hW).cell 7⟩))
        clear hocr hoo
        go_upto_region 7 with fail
        refine wp_region_held_drew (S := fun w'' => Below wx.heap.size wx w'') (by kernel_rfl) ?_ (fun hHeld => ?_)
        · exact (Below.refl _ _).drew
        have hb0 : Hid (Below wx.heap.size wx wx.drew) := hid (Below.refl _ _).drew
        generalize World.drew wx = wd at *
        refine wpAnyH_take (i := 0) (v := ?v5) rfl (by kernel_rfl) (by kernel_rfl) (by kernel_rfl) (fun _ _ _ h => h) (Or.inl ⟨by rfl, ?hy5⟩) (by assumption) ?rest5
        case hy5 => intro w' hSw; obtain ⟨y0, z0, z1, z2, z3, z4, z5, z6, z7⟩ := hY.out w' hSw; (try dsimp only at hSw); go_simp; try with_reducible rfl
        (try simp only [Act.put, List.setIfInBounds_toArray, List.set_cons_zero, List.set_cons_succ, List.getElem_toArray, List.getElem_cons_zero, List.getElem_cons_succ])
        refine wpAnyH_take (i := 1) (v := ?v6) rfl (by kernel_rfl) (by kernel_rfl) (by kernel_rfl) (fun _ _ _ h => h) (Or.inl ⟨by rfl, ?hy6⟩) (by assumption) ?rest6
        case hy6 => intro w' hSw; obtain ⟨y0, z0, z1, z2, z3, z4, z5, z6, z7⟩ := hY.out w' hSw; (try dsimp only at hSw); go_simp; try with_reducible rfl
        (try simp only [Act.put, List.setIfInBounds_toArray, List.set_cons_zero, List.set_cons_succ, List.getElem_toArray, List.getElem_cons_zero, List.getElem_cons_succ])
        refine wpAnyH_take (i := 2) (v := ?v7) rfl (by kernel_rfl) (by kernel_rfl) (by kernel_rfl) (fun _ _ _ h => h) (Or.inl ⟨by rfl, ?hy7⟩) (by assumption) ?rest7
        case hy7 => intro w' hSw; obtain ⟨y0, z0, z1, z2, z3, z4, z5, z6, z7⟩ := hY.out w' hSw; (try dsimp only at hSw); go_simp; try with_reducible rfl
        (try simp only [Act.put, List.setIfInBounds_toArray, List.set_cons_zero, List.set_cons_succ, List.getElem_toArray, List.getElem_cons_zero, List.getElem_cons_succ])
        refine wpAnyH_take (i := 3) (v := ?v8) rfl (by kernel_rfl) (by kernel_rfl) (by kernel_rfl) (fun _ _ _ h => h) (Or.inl ⟨by rfl, ?hy8⟩) (by assumption) ?rest8
        case hy8 => intro w' hSw; obtain ⟨y0, z0, z1, z2, z3, z4, z5, z6, z7⟩ := hY.out w' hSw; (try dsimp only at hSw); go_simp; try with_reducible rfl
        (try simp only [Act.put, List.setIfInBounds_toArray, List.set_cons_zero, List.set_cons_succ, List.getElem_toArray, List.getElem_cons_zero, List.getElem_cons_succ])
        refine wpAnyH_take (i := 4) (v := ?v9) rfl (by kernel_rfl) (by kernel_rfl) (by kernel_rfl) (fun _ _ _ h => h) (Or.inl ⟨by rfl, ?hy9⟩) (by assumption) ?rest9
        case hy9 => intro w' hSw; obtain ⟨y0, z0, z1, z2, z3, z4, z5, z6, z7⟩ := hY.out w' hSw; (try dsimp only at hSw); go_simp; try with_reducible rfl
        (try simp only [Act.put, List.setIfInBounds_toArray, List.set_cons_zero, List.set_cons_succ, List.getElem_toArray, List.getElem_cons_zero, List.getElem_cons_succ])
        refine wpAnyH_take (i := 5) (v := ?v10) rfl (by kernel_rfl) (by kernel_rfl) (by kernel_rfl) (fun _ _ _ h => h) (Or.inl ⟨by rfl, ?hy10⟩) (by assumption) ?rest10
        case hy10 => intro w' hSw; obtain ⟨y0, z0, z1, z2, z3, z4, z5, z6, z7⟩ := hY.out w' hSw; (try dsimp only at hSw); go_simp; try with_reducible rfl
        (try simp only [Act.put, List.setIfInBounds_toArray, List.set_cons_zero, List.set_cons_succ, List.getElem_toArray, List.getElem_cons_zero, List.getElem_cons_succ])
        refine wpAnyH_take (i := 6) (v := ?v11) rfl (by kernel_rfl) (by kernel_rfl) (by kernel_rfl) (fun _ _ _ h => h) (Or.inl ⟨by rfl, ?hy11⟩) (by assumption) ?rest11
        case hy11 => intro w' hSw; obtain ⟨y0, z0, z1, z2, z3, z4, z5, z6, z7⟩ := hY.out w' hSw; (try dsimp only at hSw); go_simp; try with_reducible rfl
        (try simp only [Act.put, List.setIfInBounds_toArray, List.set_cons_zero, List.set_cons_succ, List.getElem_toArray, List.getElem_cons_zero, List.getElem_cons_succ])
        refine wpAnyH_ready (rs := [7]) (by kernel_rfl) (by simp) ?_
        refine AllReadyH.cons rfl (fun K hK => ?_) AllReadyH.nil
        go_simp
        refine (hrs.out _ hb0.out).mono ?_
        rintro e wg ⟨rfl, hb9⟩
        have hbg := hid (hb0.out.trans (hb9.mono hb0.out.size))
        clear hb9
        refine hK.out _ _ ?_ (fun hHeld => ?_)
        · exact hbg.out
        clear hK K
        (try simp only [Act.put, List.setIfInBounds_toArray, List.set_cons_zero, List.set_cons_succ, List.getElem_toArray, List.getElem_cons_zero, List.getElem_cons_succ])
        refine wpAnyH_take (i := 8) (v := ?v12) rfl (by kernel_rfl) (by kernel_rfl) (by kernel_rfl) (fun _ _ _ h => h) (Or.inl ⟨by rfl, ?hy12⟩) (by assumption) ?rest12
        case hy12 => intro w' hSw; obtain ⟨y0, z0, z1, z2, z3, z4, z5, z6, z7⟩ := hY.out w' hSw; (try dsimp only at hSw); go_simp; try with_reducible rfl
        (try simp only [Act.put, List.setIfInBounds_toArray, List.set_cons_zero, List.set_cons_succ, List.getElem_toArray, List.getElem_cons_zero, List.getElem_cons_succ])
        refine wpAnyH_done (by kernel_rfl) ?_ _
        go_wp2_with fail
        go_roundw
        case rel => exact ⟨i + 1, rfl, by have := hltH.out; omega, hBx.out.trans (hbg.out.mono hBx.out.size)⟩
        case measure => simp [intOf]; have := hltH.out; omega
    · have i1 : ¬ ((i : Int) < 5) := by omega
      clear hlt hi
      go_wp2_with fail
      refine (liveI_any _ (he.out.below hBw.out)).mono ?_
      rintro e wd ⟨rfl, hb0⟩
      have hBz := hid (hBw.out.trans (hb0.mono hBw.out.size))
      clear hb0
      go_wp2_with fail
      go_ret
      exact ⟨rfl, hBz.out⟩
end
end Go.Proofs.YtdmogoaaecdbaaaGreatDoor

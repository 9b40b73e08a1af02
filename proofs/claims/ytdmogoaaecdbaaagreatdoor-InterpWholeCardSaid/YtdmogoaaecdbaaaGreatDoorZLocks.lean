/- interp: the document's Locks. -/
import Derived.Test.YtdmogoaaecdbaaaGreatDoorZSet
namespace Go.Proofs.YtdmogoaaecdbaaaGreatDoor
open Go.RowKit
set_option linter.unusedVariables false
set_option linter.unusedSimpArgs false

def lcells (ws ks : List ByteArray) : List Value := ks.flatMap fun k => [.string k, .bool (memB k ws)]
theorem info_lockI : (Tryz.prog.info? 108).map (fun i => (i.zero, i.size, i.bytes)) = some (some (.agg #[.string ⟨#[]⟩, .bool false]), 2, 24) := by kernel_rfl
section
variable {w : World} {S1 S2 : Nat → Prop} {A B : Option Addr} {rd wr : List ByteArray} {c d : Nat}
set_option maxRecDepth 100000 in
set_option maxHeartbeats 4000000 in
theorem locksI_any (h1 : Rd S1 w 1 A rd.length (strs rd)) (h2 : Rd S2 w 1 B wr.length (strs wr)) (n1 : rd.length ≤ 1000) (n2 : wr.length ≤ 1000) : Calls Tryz.prog 25 #[.agg #[.slice A rd.length c, .slice B wr.length d]] w fun e w' => ∃ A' c', e = .returned (.slice A' (srtK (rd ++ wr)).length c') ∧ Below w.heap.size w w' := by
  obtain ⟨wr_, hwr_⟩ : ∃ wr_, wr_ = wr := ⟨_, rfl⟩
  rw [← hwr_] at h2 n2 ⊢
  clear hwr_
  have kf := hid (Blk.new w 27 #[.slice A rd.length c, .slice B wr_.length d])
  have hB0 := hid ((Below.refl w.heap.size w).alloc (Nat.le_refl _) (.cells #[.slice A rd.length c, .slice B wr_.length d] 27))
  have hr1 := hid (fun W (hW : Below w.heap.size w W) => h1.below_all hW)
  have hr2 := hid (fun W (hW : Below w.heap.size w W) => h2.below_all hW)
  have hrl := hid (show rd.length ≤ 1000000 by omega)
  have hwl := hid (show wr_.length ≤ 1000000 by omega)
  have hn := hid (show rd.length + wr_.length ≤ 2000 by omega)
  obtain ⟨il, hil, hil0, hil1, hil2⟩ := info_parts info_lockI
  clear h1 h2 n1 n2
  go_enter Tryz.func25, Tryz.ntmps25
  go_upto_region 1 with fail
  generalize w.alloc (.cells #[.slice A rd.length c, .slice B wr_.length d] 27) = w1 at *
  have x0 : w1.cell? ⟨w.heap.size, 0, none⟩ = some (.slice A rd.length c) := kf.out.cell 0
  have x1 : w1.cell? ⟨w.heap.size, 1, none⟩ = some (.slice B wr_.length d) := kf.out.cell 1
  go_wp2_with fail
  refine (bothI_any (hr1.out _ hB0.out) (hr2.out _ hB0.out) hrl.out hwl.out).mono ?_
  rintro e w2 ⟨A2, c2, rfl, ho2, hb2⟩
  have hB2 := hid (hB0.out.trans (hb2.mono hB0.out.size))
  have hal : Hid ((rd ++ wr_).length ≤ 2000) := hid (by rw [List.length_append]; have := hn.out; omega)
  generalize hAL0 : rd ++ wr_ = al at *
  have hAL := hid hAL0
  clear hAL0
  have hs2 := hid (setI_any (S1 := fun b => b < w2.heap.size) (c := c2) ((Rd.of_own' ho2).more fun b hb hl => hl) (by have := hal.out; omega))
  have kf := hid (kf.out.below_all hb2)
  clear ho2 hb2 x0 x1
  go_wp2_with fail
  refine hs2.out.mono ?_
  rintro e w3 ⟨A3, c3, rfl, ho3, hb3⟩
  have hB3 := hid (hB2.out.trans (hb3.mono hB2.out.size))
  have kf := hid (kf.out.below_all hb3)
  have hkl := hid (show (srtK al).length ≤ 2000 by have := srtK_len al; have := hal.out; omega)
  have hrk := hid (Rd.of_own' ho3)
  clear ho3 hb3 hs2
  generalize hKS0 : srtK al = ks at *
  have hKS := hid hKS0
  clear hKS0
  go_wp2_with fail
  have hwn := hid (show w.heap.size < w3.heap.size from kf.out.lt)
  go_loopw [4, 5] (fun u v wr => ∃ (i : Nat) (L : Option Addr) (e : Nat), u = .slice L i e ∧ v = .int .i64 i ∧ i ≤ ks.length ∧ wr.ownsRow w3.heap.size 108 2 (.slice L i e) i (lcells wr_ (ks.take i)) ∧ Below w3.heap.size w3 wr) (fun _ v _ => ks.length - (intOf v).toNat)
  case atStart => exact ⟨0, none, 0, rfl, rfl, Nat.zero_le _, World.ownsRow_nil _ _ _ _, Below.refl _ _⟩
  case round =>
    obtain ⟨i, L, e, rfl, rfl, hi, hown0, hBr0⟩ := hrel
    have hown := hid hown0
    have hBr := hid hBr0
    have hi9 := hid (show i ≤ 2000 by have := hkl.out; omega)
    clear hown0 hBr0
    by_cases hlt : i < ks.length
    · have i1 : (i : Int) < (ks.length : Int) := by omega
      have i2 : IntKind.i64.wrap ((i : Int) + 1) = (i : Int) + 1 := by rw [IntKind.wrap_i64]; have := hi9.out; omega
      obtain ⟨k, hk0⟩ : ∃ k, ks[i]? = some k := ⟨_, List.getElem?_eq_getElem hlt⟩
      have hkE := hid hk0
      have hltH := hid hlt
      obtain ⟨b3, o3, hA3, _, _, hc3⟩ := hrk.out.at_ hlt
      have hX := hid (fun W (hW : Below w3.heap.size w3 W) => (show W.cell? ⟨w.heap.size, 1, none⟩ = some (.slice B wr_.length d) ∧ W.cell? ⟨b3, o3 + i, none⟩ = some (.string k) ∧ True from by
        obtain ⟨b3', o3', hA3', _, _, hc3'⟩ := (hrk.out.below_all hW).at_ hlt
        rw [hA3] at hA3'
        injection hA3' with hA3'
        injection hA3' with e1 e2
        subst e1 e2
        exact ⟨(kf.out.below_all hW).cell 1, hc3' i (.string k) (by simp [strs, hk0]), trivial⟩))
      subst hA3
      clear hc3 hk0 hlt hi
      go_upto_region 6 with fail
      refine wp_region_held_drew (S := fun w'' => Below w3.heap.size w3 w'') (by kernel_rfl) ?_ (fun hHeld => ?_)
      · exact hBr.out.drew
      have hbd : Hid (Below wr.heap.size wr wr.drew) := hid ((Below.refl _ _).drew)
      generalize World.drew wr = wd at *
      have how := hid (own_below hown.out hbd.out)
      have hBd := hid (hBr.out.trans (hbd.out.mono hBr.out.size))
      refine wpAnyH_take (i := 0) (v := ?v1) rfl (by kernel_rfl) (by kernel_rfl) (by kernel_rfl) (fun _ _ _ h => h) (Or.inl ⟨by rfl, ?hy1⟩) (by assumption) ?rest1
      case hy1 => intro w' hSw; obtain ⟨f1, e1, e2⟩ := hX.out w' hSw; (try dsimp only at hSw); go_simp; try with_reducible rfl
      (try simp only [Act.put, List.setIfInBounds_toArray, List.set_cons_zero, List.set_cons_succ, List.getElem_toArray, List.getElem_cons_zero, List.getElem_cons_succ])
      refine wpAnyH_take (i := 1) (v := ?v2) rfl (by kernel_rfl) (by kernel_rfl) (by kernel_rfl) (fun _ _ _ h => h) (Or.inl ⟨by rfl, ?hy2⟩) (by assumption) ?rest2
      case hy2 => intro w' hSw; obtain ⟨f1, e1, e2⟩ := hX.out w' hSw; (try dsimp only at hSw); go_simp; try with_reducible rfl
      (try simp only [Act.put, List.setIfInBounds_toArray, List.set_cons_zero, List.set_cons_succ, List.getElem_toArray, List.getElem_cons_zero, List.getElem_cons_succ])
      refine wpAnyH_take (i := 2) (v := ?v3) rfl (by kernel_rfl) (by kernel_rfl) (by kernel_rfl) (fun _ _ _ h => h) (Or.inl ⟨by rfl, ?hy3⟩) (by assumption) ?rest3
      case hy3 => intro w' hSw; obtain ⟨f1, e1, e2⟩ := hX.out w' hSw; (try dsimp only at hSw); go_simp; try with_reducible rfl
      (try simp only [Act.put, List.setIfInBounds_toArray, List.set_cons_zero, List.set_cons_succ, List.getElem_toArray, List.getElem_cons_zero, List.getElem_cons_succ])
      refine wpAnyH_take (i := 3) (v := ?v4) rfl (by kernel_rfl) (by kernel_rfl) (by kernel_rfl) (fun _ _ _ h => h) (Or.inl ⟨by rfl, ?hy4⟩) (by assumption) ?rest4
      case hy4 => intro w' hSw; obtain ⟨f1, e1, e2⟩ := hX.out w' hSw; (try dsimp only at hSw); go_simp; try with_reducible rfl
      (try simp only [Act.put, List.setIfInBounds_toArray, List.set_cons_zero, List.set_cons_succ, List.getElem_toArray, List.getElem_cons_zero, List.getElem_cons_succ])
      refine wpAnyH_take (i := 4) (v := ?v5) rfl (by kernel_rfl) (by kernel_rfl) (by kernel_rfl) (fun _ _ _ h => h) (Or.inl ⟨by rfl, ?hy5⟩) (by assumption) ?rest5
      case hy5 => intro w' hSw; obtain ⟨f1, e1, e2⟩ := hX.out w' hSw; (try dsimp only at hSw); go_simp; try with_reducible rfl
      (try simp only [Act.put, List.setIfInBounds_toArray, List.set_cons_zero, List.set_cons_succ, List.getElem_toArray, List.getElem_cons_zero, List.getElem_cons_succ])
      refine wpAnyH_take (i := 5) (v := ?v6) rfl (by kernel_rfl) (by kernel_rfl) (by kernel_rfl) (fun _ _ _ h => h) (Or.inl ⟨by rfl, ?hy6⟩) (by assumption) ?rest6
      case hy6 => intro w' hSw; obtain ⟨f1, e1, e2⟩ := hX.out w' hSw; (try dsimp only at hSw); go_simp; try with_reducible rfl
      (try simp only [Act.put, List.setIfInBounds_toArray, List.set_cons_zero, List.set_cons_succ, List.getElem_toArray, List.getElem_cons_zero, List.getElem_cons_succ])
      refine wpAnyH_take (i := 6) (v := ?v7) rfl (by kernel_rfl) (by kernel_rfl) (by kernel_rfl) (fun _ _ _ h => h) (Or.inl ⟨by rfl, ?hy7⟩) (by assumption) ?rest7
      case hy7 => intro w' hSw; obtain ⟨f1, e1, e2⟩ := hX.out w' hSw; (try dsimp only at hSw); go_simp; try with_reducible rfl
      (try simp only [Act.put, List.setIfInBounds_toArray, List.set_cons_zero, List.set_cons_succ, List.getElem_toArray, List.getElem_cons_zero, List.getElem_cons_succ])
      refine wpAnyH_take (i := 7) (v := ?v8) rfl (by kernel_rfl) (by kernel_rfl) (by kernel_rfl) (fun _ _ _ h => h) (Or.inl ⟨by rfl, ?hy8⟩) (by assumption) ?rest8
      case hy8 => intro w' hSw; obtain ⟨f1, e1, e2⟩ := hX.out w' hSw; (try dsimp only at hSw); go_simp; try with_reducible rfl
      (try simp only [Act.put, List.setIfInBounds_toArray, List.set_cons_zero, List.set_cons_succ, List.getElem_toArray, List.getElem_cons_zero, List.getElem_cons_succ])
      refine wpAnyH_take (i := 8) (v := ?v9) rfl (by kernel_rfl) (by kernel_rfl) (by kernel_rfl) (fun _ _ _ h => h) (Or.inl ⟨by rfl, ?hy9⟩) (by assumption) ?rest9
      case hy9 => intro w' hSw; obtain ⟨f1, e1, e2⟩ := hX.out w' hSw; (try dsimp only at hSw); go_simp; try with_reducible rfl
      (try simp only [Act.put, List.setIfInBounds_toArray, List.set_cons_zero, List.set_cons_succ, List.getElem_toArray, List.getElem_cons_zero, List.getElem_cons_succ])
      refine wpAnyH_take (i := 9) (v := ?v10) rfl (by kernel_rfl) (by kernel_rfl) (by kernel_rfl) (fun _ _ _ h => h) (Or.inl ⟨by rfl, ?hy10⟩) (by assumption) ?rest10
      case hy10 => intro w' hSw; obtain ⟨f1, e1, e2⟩ := hX.out w' hSw; (try dsimp only at hSw); go_simp; try with_reducible rfl
      (try simp only [Act.put, List.setIfInBounds_toArray, List.set_cons_zero, List.set_cons_succ, List.getElem_toArray, List.getElem_cons_zero, List.getElem_cons_succ])
      refine wpAnyH_take (i := 10) (v := ?v11) rfl (by kernel_rfl) (by kernel_rfl) (by kernel_rfl) (fun _ _ _ h => h) (Or.inl ⟨by rfl, ?hy11⟩) (by assumption) ?rest11
      case hy11 => intro w' hSw; obtain ⟨f1, e1, e2⟩ := hX.out w' hSw; (try dsimp only at hSw); go_simp; try with_reducible rfl
      (try simp only [Act.put, List.setIfInBounds_toArray, List.set_cons_zero, List.set_cons_succ, List.getElem_toArray, List.getElem_cons_zero, List.getElem_cons_succ])
      refine wpAnyH_ready (rs := [11]) (by kernel_rfl) (by simp) ?_
      refine AllReadyH.cons rfl (fun K hK => ?_) AllReadyH.nil
      go_simp
      refine (hasI_any (l := wr_) k (hr2.out _ (hB3.out.trans (hBd.out.mono hB3.out.size))) hwl.out).mono ?_
      rintro e wg ⟨rfl, hwg⟩
      obtain rfl := hwg.symm
      refine hK.out _ _ ?_ (fun hHeld => ?_)
      · exact hBd.out
      clear hK K
      (try simp only [Act.put, List.setIfInBounds_toArray, List.set_cons_zero, List.set_cons_succ, List.getElem_toArray, List.getElem_cons_zero, List.getElem_cons_succ])
      refine wpAnyH_take (i := 12) (v := ?v12) rfl (by kernel_rfl) (by kernel_rfl) (by kernel_rfl) (fun _ _ _ h => h) (Or.inl ⟨by rfl, ?hy12⟩) (by assumption) ?rest12
      case hy12 => intro w' hSw; obtain ⟨f1, e1, e2⟩ := hX.out w' hSw; (try dsimp only at hSw); go_simp; try with_reducible rfl
      (try simp only [Act.put, List.setIfInBounds_toArray, List.set_cons_zero, List.set_cons_succ, List.getElem_toArray, List.getElem_cons_zero, List.getElem_cons_succ])
      refine wpAnyH_ready (rs := [13]) (by kernel_rfl) (by simp) ?_
      refine AllReadyH.cons rfl (fun K hK => ?_) AllReadyH.nil
      go_simp
      refine hK.out _ _ ?_ (fun hHeld => ?_)
      · exact hBd.out.alloc hBd.out.size _
      clear hK K
      (try simp only [Act.put, List.setIfInBounds_toArray, List.set_cons_zero, List.set_cons_succ, List.getElem_toArray, List.getElem_cons_zero, List.getElem_cons_succ])
      refine wpAnyH_ready (rs := [14]) (by kernel_rfl) (by simp) ?_
      refine AllReadyH.cons rfl (fun K hK => ?_) AllReadyH.nil
      refine step_append_rd _ rfl (.tmp 18) (.tmp 31) 65 rfl w3.heap.size 108 il _ 2 24 Tryz.underlying65 hil hil0 hil1 hil2 rfl (by omega) (.slice L i e) i (lcells wr_ (ks.take i)) rfl (how.out.alloc _) (fun b => b = wd.heap.size) (some ⟨wd.heap.size, 0, none⟩) 1 1 #[.string k, .bool (memB k wr_)].toList rfl (Rd.new wd 108 2 1 #[.string k, .bool (memB k wr_)] wd.heap.size rfl rfl) (by intro v hv; simp at hv; rcases hv with rfl | rfl <;> rfl) (by have := hi9.out; simp only [maxLen]; omega) (by have := hi9.out; omega) (by have := hBd.out.size; simp; omega) (i + 1) rfl (lcells wr_ (ks.take i) ++ #[.string k, .bool (memB k wr_)].toList) rfl ?_
      intro L9 e9 w9 hown9 hg9 hat9
      have how9 := hid hown9
      have hB9 := hid ((hBd.out.alloc hBd.out.size (.cells #[.string k, .bool (memB k wr_)] 108)).grown hg9 (by have := hBd.out.size; simp; omega) fun q hq => (how.out.lt q hq).1)
      clear hown9 hg9 hat9
      refine hK.out _ _ ?_ (fun hHeld => ?_)
      · exact hB9.out
      clear hK K
      (try simp only [Act.put, List.setIfInBounds_toArray, List.set_cons_zero, List.set_cons_succ, List.getElem_toArray, List.getElem_cons_zero, List.getElem_cons_succ])
      refine wpAnyH_take (i := 15) (v := ?v13) rfl (by kernel_rfl) (by kernel_rfl) (by kernel_rfl) (fun _ _ _ h => h) (Or.inl ⟨by rfl, ?hy13⟩) (by assumption) ?rest13
      case hy13 => intro w' hSw; (try dsimp only at hSw); go_simp; try with_reducible rfl
      (try simp only [Act.put, List.setIfInBounds_toArray, List.set_cons_zero, List.set_cons_succ, List.getElem_toArray, List.getElem_cons_zero, List.getElem_cons_succ])
      refine wpAnyH_done (by kernel_rfl) ?_ _
      go_wp2_with fail
      go_roundw
      case rel =>
        refine ⟨i + 1, L9, e9, rfl, rfl, by have := hltH.out; omega, ?_, hB9.out⟩
        rw [take_snocI hkE.out]
        have e : lcells wr_ (ks.take i ++ [k]) = lcells wr_ (ks.take i) ++ #[.string k, .bool (memB k wr_)].toList := by unfold lcells; rw [List.flatMap_append]; rfl
        rw [e]
        exact how9.out
      case measure => simp [intOf]; have := hltH.out; omega
    · have i1 : ¬ ((i : Int) < (ks.length : Int)) := by omega
      have hie := hid (show i = ks.length by omega)
      clear hlt hi
      go_wp2_with fail
      go_ret
      exact ⟨⟨L, e, by rw [hAL.out, hKS.out, ← hie.out]; rfl⟩, hB3.out.trans (hBr.out.mono hB3.out.size)⟩
end
end Go.Proofs.YtdmogoaaecdbaaaGreatDoor

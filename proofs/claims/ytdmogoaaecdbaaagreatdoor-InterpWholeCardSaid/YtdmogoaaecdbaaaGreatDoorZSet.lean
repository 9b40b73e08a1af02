/- interp: the document's Set. -/
import Derived.Test.YtdmogoaaecdbaaaGreatDoorZSetP
import Derived.Test.YtdmogoaaecdbaaaGreatDoorZHas
import Derived.Test.YtdmogoaaecdbaaaGreatDoorJ21
import Derived.Laws.CopyOwn
namespace Go.Proofs.YtdmogoaaecdbaaaGreatDoor
open Go.RowKit
set_option linter.unusedVariables false
set_option linter.unusedSimpArgs false

section
variable {w : World} {S1 : Nat → Prop} {A : Option Addr} {l : List ByteArray} {c : Nat}
theorem own_ins {w w2 : World} {base : Nat} {e : TypeId} {q n c p : Nat} {xs : List Value} {z v : Value} {cs : Array Value} (h : w.ownsRow base e 1 (.slice (some ⟨q, 0, none⟩) (n + 1) c) (n + 1) (xs ++ [z])) (hx : xs.length = n) (hp : p ≤ n) (hcs : Blk w q e cs) (hg : w2.heap[q]? = some (.cells (splice cs.toList (p + 1) (xs.drop p)).toArray e (0, 0))) : (w2.setCell ⟨q, p, none⟩ v).ownsRow base e 1 (.slice (some ⟨q, 0, none⟩) (n + 1) c) (n + 1) (xs.take p ++ [v] ++ xs.drop p) := by
  obtain ⟨h1, h2⟩ := h
  rcases h2 with ⟨hv, _⟩ | ⟨q', cap, cur, hv, hb, hh, h4, h5, h6, h7⟩
  · cases hv
  · simp only [Value.slice.injEq, Option.some.injEq, Addr.mk.injEq, true_and, and_true] at hv
    obtain ⟨rfl, rfl⟩ := hv
    have hcs : w.heap[q]? = some (.cells cs e (0, 0)) := hcs
    rw [hh] at hcs
    injection hcs with hcs
    injection hcs with hcs
    subst hcs
    have hk : Blk w2 q e (splice cur.toList (p + 1) (xs.drop p)).toArray := hg
    have hl : cur.toList = xs ++ z :: cur.toList.drop (n + 1) := by
      have h8 := List.take_append_drop (n + 1) cur.toList
      rw [show (n + 1) = (n + 1) * 1 by omega, h7] at h8
      rw [← h8]
      simp
      rw [← hx]; simp
    have hsz : n + 1 ≤ cur.size := by rw [h6]; omega
    have hlen : (splice cur.toList (p + 1) (xs.drop p)).length = cur.size := by
      rw [length_splice _ _ _ (by rw [List.length_drop, hx, Array.length_toList]; omega), Array.length_toList]
    have hxx : splice cur.toList (p + 1) (xs.drop p) = xs.take p ++ (cur.toList.getD p z :: (xs.drop p ++ cur.toList.drop (n + 1))) := by
      unfold splice
      have e1 : cur.toList.take (p + 1) = xs.take p ++ [cur.toList.getD p z] := by
        rw [List.take_add_one, List.getD_eq_getElem?_getD, List.getElem?_eq_getElem (show p < cur.toList.length by rw [Array.length_toList]; omega)]
        congr 1
        rw [hl, List.take_append_of_le_length (by omega)]
      rw [e1, List.length_drop, hx, show p + 1 + (n - p) = n + 1 by omega]
      simp
    refine ⟨by simp; omega, .inr ⟨q, c, _, rfl, hb, hk.set_ p v, h4, h5, by rw [Array.size_setIfInBounds, List.size_toArray, hlen, h6], ?_⟩⟩
    rw [hxx]
    have e9 : (xs.take p ++ [v] ++ xs.drop p).length = n + 1 := by simp; omega
    have e8 : (xs.take p ++ (cur.toList.getD p z :: (xs.drop p ++ cur.toList.drop (n + 1)))).set p v = (xs.take p ++ [v] ++ xs.drop p) ++ cur.toList.drop (n + 1) := by
      rw [List.set_append_right _ _ (by simp; omega)]
      have : p - (xs.take p).length = 0 := by simp; omega
      rw [this]
      simp
    simp only [List.setIfInBounds_toArray]
    rw [e8, show (n + 1) * 1 = n + 1 by omega, List.take_append_of_le_length (by omega), List.take_of_length_le (by omega)]
theorem srtK_len (l : List ByteArray) : (srtK l).length ≤ l.length := nodup_leB (srtK_nodup l) fun k hk => srtK_mem.1 hk
set_option maxRecDepth 100000 in
set_option maxHeartbeats 4000000 in
theorem setI_any (ha0 : Rd S1 w 1 A l.length (strs l)) (hl0 : l.length ≤ 1000000) : Calls Tryz.prog 47 #[.slice A l.length c] w fun e w' => ∃ A' c', e = .returned (.slice A' (srtK l).length c') ∧ w'.ownsRow w.heap.size 9 1 (.slice A' (srtK l).length c') (srtK l).length (strs (srtK l)) ∧ Below w.heap.size w w' := by
  have ha := hid ha0
  have hl := hid hl0
  obtain ⟨i0, hi0, hz0, hz1, hz2⟩ := info_parts info_strI
  clear ha0 hl0
  go_enter Tryz.func47, Tryz.ntmps47
  go_wp2_with fail
  go_loopw [3, 4] (fun u v wr => ∃ (i : Nat) (B : Option Addr) (d : Nat), u = .slice B (srtK (l.take i)).length d ∧ v = .int .i64 i ∧ i ≤ l.length ∧ wr.ownsRow w.heap.size 9 1 (.slice B (srtK (l.take i)).length d) (srtK (l.take i)).length (strs (srtK (l.take i))) ∧ Below w.heap.size w wr) (fun _ v _ => l.length - (intOf v).toNat)
  case atStart => exact ⟨0, none, 0, rfl, rfl, Nat.zero_le _, World.ownsRow_nil _ _ _ _, Below.refl _ _⟩
  case round =>
    obtain ⟨i, B, d, rfl, rfl, hi, hown0, hB0⟩ := hrel
    rename World => wo
    have hown := hid hown0
    have hB := hid hB0
    clear hown0 hB0
    by_cases hlt : i < l.length
    · have i1 : (i : Int) < (l.length : Int) := by omega
      have i2 : IntKind.i64.wrap ((i : Int) + 1) = (i : Int) + 1 := by rw [IntKind.wrap_i64]; have := hl.out; omega
      obtain ⟨x, hx0⟩ : ∃ x, l[i]? = some x := ⟨_, List.getElem?_eq_getElem hlt⟩
      have hx := hid hx0
      have hltH := hid hlt
      obtain ⟨out, hout⟩ : ∃ out, Hid (srtK (l.take i) = out) := ⟨_, hid rfl⟩
      obtain ⟨p, hp⟩ : ∃ p, Hid (posS x (l.take i) = p) := ⟨_, hid rfl⟩
      have hlen := hid (show out.length ≤ 1000000 by rw [← hout.out]; have := srtK_len (l.take i); rw [List.length_take] at this; have := hl.out; omega)
      have hple := hid (show p ≤ out.length by rw [← hp.out, ← hout.out]; exact posS_le)
      have hplt := hid (show ∀ j y, out[j]? = some y → (ltB y x = true ↔ j < p) from fun j y hy => by rw [← hp.out]; exact posS_lt (by rw [hout.out]; exact hy))
      rw [hout.out] at hown
      rw [hout.out]
      obtain ⟨b, o, hA, _, _, _⟩ := ha.out.at_ hlt
      have hc9 : Hid (∀ W, Below wo.heap.size wo W → W.cell? ⟨b, o + i, none⟩ = some (.string x)) := hid fun W hW => by
        obtain ⟨b', o', hA', _, _, hc⟩ := (ha.out.below_all (hB.out.trans (hW.mono hB.out.size))).at_ hlt
        rw [hA] at hA'
        injection hA' with hA'
        injection hA' with f1 f2
        subst f1 f2
        exact hc i (.string x) (by simp [strs, hx0])
      have hc8 : Hid (∀ W, Below w.heap.size w W → W.cell? ⟨b, o + i, none⟩ = some (.string x)) := hid fun W hW => by
        obtain ⟨b', o', hA', _, _, hc⟩ := (ha.out.below_all hW).at_ hlt
        rw [hA] at hA'
        injection hA' with hA'
        injection hA' with f1 f2
        subst f1 f2
        exact hc i (.string x) (by simp [strs, hx0])
      subst hA
      clear hx0 hlt hi
      go_wp2_with fail
      go_loopw [5] (fun v wq => ∃ k : Nat, v = .int .i64 k ∧ k ≤ p ∧ Below wo.heap.size wo wq) (fun v _ => p + 1 - (intOf v).toNat)
      case atStart => exact ⟨0, rfl, Nat.zero_le _, Below.refl _ _⟩
      case round =>
        obtain ⟨k, rfl, hkp, hBq0⟩ := hrel
        have hBq := hid hBq0
        have hownq := hid (own_below hown.out hBq0)
        have e1 := hc9.out _ hBq0
        clear hBq0
        have hkl := hid (show k ≤ 1000000 by have := hple.out; have := hlen.out; omega)
        have i3 : IntKind.i64.wrap ((k : Int) + 1) = (k : Int) + 1 := by rw [IntKind.wrap_i64]; have := hkl.out; omega
        by_cases hk2 : k < p
        · have hkn : k < out.length := by have := hple.out; omega
          obtain ⟨y, hy0⟩ : ∃ y, out[k]? = some y := ⟨_, List.getElem?_eq_getElem hkn⟩
          have hlt0 : ltB y x = true := (hplt.out k y hy0).2 hk2
          have hll : Op.bytesLess y.toList x.toList = true := hlt0
          have j1 : (k : Int) < (out.length : Int) := by omega
          obtain ⟨b2, o2, hB2, _, _, hc2⟩ := (Rd.of_own' hownq.out).at_ hkn
          have e2 := hc2 k (.string y) (by simp [strs, hy0])
          have hk2H := hid hk2
          subst hB2
          clear hc2 hlt0 hy0 hk2 hkn hkp
          go_upto_region 6 with fail
          go_quiet (fail)
          go_wp2_with fail
          go_roundw
          case rel => exact ⟨k + 1, rfl, by have := hk2H.out; omega, below_drewN hBq.out _⟩
          case measure => simp [intOf]; have := hk2H.out; omega
        · obtain rfl : k = p := by omega
          clear hk2 hkp
          by_cases hkn : k < out.length
          · obtain ⟨y, hy0⟩ : ∃ y, out[k]? = some y := ⟨_, List.getElem?_eq_getElem hkn⟩
            have hlt0 : ltB y x = false := Bool.eq_false_iff.2 fun e => absurd ((hplt.out k y hy0).1 e) (by omega)
            have hll : Op.bytesLess y.toList x.toList = false := hlt0
            have j1 : (k : Int) < (out.length : Int) := by omega
            obtain ⟨b2, o2, hB2, _, _, hc2⟩ := (Rd.of_own' hownq.out).at_ hkn
            have e2 := hc2 k (.string y) (by simp [strs, hy0])
            have hy := hid hy0
            subst hB2
            clear hc2 hlt0 hy0 hkn
            go_upto_region 6 with fail
            go_quiet (fail)
            have hBq := hid (below_drewN hBq.out nq)
            have e1 := hc9.out _ hBq.out
            have hownq := hid (own_below hown.out hBq.out)
            have e2 : (wr.drewN nq).cell? ⟨b2, o2 + k, none⟩ = some (.string y) := e2
            generalize wr.drewN nq = wq2 at *
            by_cases hyx : y = x
            · have t1 : (y.toList == x.toList) = true := by rw [bytes_dec]; exact decide_eq_true hyx
              have hin : Hid (x ∈ l.take i) := hid (by
                have h := List.mem_of_getElem? hy.out
                rw [← hout.out, hyx] at h
                exact srtK_mem.1 h)
              clear hyx
              go_upto_region 8 with fail
              go_quiet (fail)
              go_wp2_with fail
              go_roundw
              case rel =>
                have e : srtK (l.take (i + 1)) = out := by rw [take_snocI hx.out, set_hit hin.out, hout.out]
                refine ⟨i + 1, some ⟨b2, o2, none⟩, d, by rw [e], rfl, by have := hltH.out; omega, ?_, hB.out.trans ((below_drewN hBq.out nq).mono hB.out.size)⟩
                rw [e]
                exact own_below hown.out (below_drewN hBq.out nq)
              case measure => simp [intOf]; have := hltH.out; omega
            · have t1 : (y.toList == x.toList) = false := by rw [bytes_dec]; exact decide_eq_false hyx
              have hmiss : Hid (¬ x ∈ l.take i) := hid fun h => by
                have h1 := posS_hit h
                rw [hout.out, hp.out, hy.out] at h1
                injection h1 with h1
                exact hyx h1
              clear hyx
              go_upto_region 8 with fail
              go_quiet (fail)
              have hBz := hid (below_drewN hBq.out nq)
              have hownz := hid (own_below hown.out hBz.out)
              have ez := hc9.out _ hBz.out
              generalize wq2.drewN nq = wz at *
              clear e1 e2
              have hbz := hid ((Below.refl wz.heap.size wz).alloc (Nat.le_refl _) (.cells #[.string ⟨#[]⟩] 9))
              go_upto_region 10 with (
                at_builtin
                refine wpList_append_rd _ rfl (.tmp 44) (.tmp 45) 25 rfl w.heap.size 9 i0 _ 1 16 Tryz.underlying25 hi0 hz0 hz1 hz2 rfl (by omega) (.slice (some ⟨b2, o2, none⟩) out.length d) out.length (strs out) rfl (own_below hownz.out hbz.out) (fun q => q = wz.heap.size) (some ⟨wz.heap.size, 0, none⟩) 1 1 [.string ⟨#[]⟩] rfl (Rd.new wz 9 1 1 #[.string ⟨#[]⟩] wz.heap.size rfl rfl) (by intro v hv; simp at hv; subst hv; rfl) (by have := hlen.out; simp only [maxLen]; omega) (by have := hlen.out; omega) (by have := hB.out.size; have := hBz.out.size; simp; omega) ?_
                intro v9 w9 hown9 hg9 hat9
                obtain ⟨A9, c9, rfl, hc91, _⟩ := own_form hown9
                have how9 := hid hown9
                have hc92 := hid hc91
                have hbx := (hB.out.trans (hBz.out.mono hB.out.size)).trans (hbz.out.mono (hB.out.trans (hBz.out.mono hB.out.size)).size)
                have hB9 := hid (hbx.grown hg9 hbx.size fun q hq => (hownz.out.lt q hq).1)
                have ex := hc8.out _ hB9.out
                clear hown9 hg9 hat9 hc91 hbx)
              obtain ⟨q, cs, hAq, hcu0, hcs0⟩ := row_blk how9.out (by omega)
              subst hAq
              have hcu := hid hcu0
              have hcs := hid hcs0
              have hq0 := hid (how9.out.lt q rfl)
              obtain ⟨n9, hn9⟩ : ∃ n9, Hid (out.length + 1 = n9) := ⟨_, hid rfl⟩
              obtain ⟨k1, hk1⟩ : ∃ k1, Hid (k + 1 = k1) := ⟨_, hid rfl⟩
              rw [hn9.out] at how9 hc92 hcs ⊢
              have iz : IntKind.i64.wrap ((k : Int) + 1) = (k1 : Int) := by rw [i3]; have := hk1.out; omega
              have z1 : (k1 : Int) ≤ (n9 : Int) := by have := hk1.out; have := hn9.out; have := hple.out; omega
              have z2 : (k : Int) ≤ (n9 : Int) := by have := hk1.out; have := hn9.out; have := hple.out; omega
              have z3 : (n9 : Int) ≤ (c9 : Int) := by have := hc92.out; omega
              have z4 : ¬ c9 = k := by have := hc92.out; have := hn9.out; have := hple.out; omega
              have z5 : k1 ≤ n9 := by omega
              have z6 : k ≤ n9 := by omega
              have z7 : n9 ≤ c9 := hc92.out
              clear i3 ez hcu0 hcs0 j1
              clear ex
              refine wp_region_held_drew (S := fun _ => True) (by kernel_rfl) ?_ (fun hHeld => ?_)
              · exact True.intro
              refine wpAnyH_take (i := 0) (v := ?v1) rfl (by kernel_rfl) (by kernel_rfl) (by kernel_rfl) (fun _ _ _ h => h) (Or.inl ⟨by rfl, ?hy1⟩) (by assumption) ?rest1
              case hy1 => intro w' hSw; (try dsimp only at hSw); go_simp; try with_reducible rfl
              (try simp only [Act.put, List.setIfInBounds_toArray, List.set_cons_zero, List.set_cons_succ, List.getElem_toArray, List.getElem_cons_zero, List.getElem_cons_succ])
              refine wpAnyH_take (i := 1) (v := ?v2) rfl (by kernel_rfl) (by kernel_rfl) (by kernel_rfl) (fun _ _ _ h => h) (Or.inl ⟨by rfl, ?hy2⟩) (by assumption) ?rest2
              case hy2 => intro w' hSw; (try dsimp only at hSw); go_simp; try with_reducible rfl
              (try simp only [Act.put, List.setIfInBounds_toArray, List.set_cons_zero, List.set_cons_succ, List.getElem_toArray, List.getElem_cons_zero, List.getElem_cons_succ])
              refine wpAnyH_take (i := 2) (v := ?v3) rfl (by kernel_rfl) (by kernel_rfl) (by kernel_rfl) (fun _ _ _ h => h) (Or.inl ⟨by rfl, ?hy3⟩) (by assumption) ?rest3
              case hy3 => intro w' hSw; (try dsimp only at hSw); go_simp; try with_reducible rfl
              (try simp only [Act.put, List.setIfInBounds_toArray, List.set_cons_zero, List.set_cons_succ, List.getElem_toArray, List.getElem_cons_zero, List.getElem_cons_succ])
              refine wpAnyH_take (i := 3) (v := ?v4) rfl (by kernel_rfl) (by kernel_rfl) (by kernel_rfl) (fun _ _ _ h => h) (Or.inl ⟨by rfl, ?hy4⟩) (by assumption) ?rest4
              case hy4 => intro w' hSw; (try dsimp only at hSw); go_simp; try with_reducible rfl
              (try simp only [Act.put, List.setIfInBounds_toArray, List.set_cons_zero, List.set_cons_succ, List.getElem_toArray, List.getElem_cons_zero, List.getElem_cons_succ])
              refine wpAnyH_take (i := 4) (v := ?v5) rfl (by kernel_rfl) (by kernel_rfl) (by kernel_rfl) (fun _ _ _ h => h) (Or.inl ⟨by rfl, ?hy5⟩) (by assumption) ?rest5
              case hy5 => intro w' hSw; (try dsimp only at hSw); go_simp; try with_reducible rfl
              (try simp only [Act.put, List.setIfInBounds_toArray, List.set_cons_zero, List.set_cons_succ, List.getElem_toArray, List.getElem_cons_zero, List.getElem_cons_succ])
              refine wpAnyH_take (i := 5) (v := ?v6) rfl (by kernel_rfl) (by kernel_rfl) (by kernel_rfl) (fun _ _ _ h => h) (Or.inl ⟨by rfl, ?hy6⟩) (by assumption) ?rest6
              case hy6 => intro w' hSw; (try dsimp only at hSw); go_simp; try with_reducible rfl
              (try simp only [Act.put, List.setIfInBounds_toArray, List.set_cons_zero, List.set_cons_succ, List.getElem_toArray, List.getElem_cons_zero, List.getElem_cons_succ])
              refine wpAnyH_take (i := 6) (v := ?v7) rfl (by kernel_rfl) (by kernel_rfl) (by kernel_rfl) (fun _ _ _ h => h) (Or.inl ⟨by rfl, ?hy7⟩) (by assumption) ?rest7
              case hy7 => intro w' hSw; (try dsimp only at hSw); go_simp; try with_reducible rfl
              (try simp only [Act.put, List.setIfInBounds_toArray, List.set_cons_zero, List.set_cons_succ, List.getElem_toArray, List.getElem_cons_zero, List.getElem_cons_succ])
              obtain ⟨dp, hdp⟩ : ∃ dp, Hid ((if c9 = k1 then some ⟨q, 0, none⟩ else some ⟨q, k1, none⟩ : Option Addr) = dp) := ⟨_, hid rfl⟩
              rw [hdp.out]
              refine wpAnyH_ready (rs := [7]) (by kernel_rfl) (by simp) ?_
              refine AllReadyH.cons rfl (fun K hK => ?_) AllReadyH.nil
              refine step_copy_splice rfl (.tmp 50) (.tmp 53) 25 25 rfl 9 rfl (by kernel_rfl) _ _ _ _ _ _ rfl rfl q k1 cs.toList 9 ?_ (strs (out.drop k)) ?_ ?_ ?_ (strsI_one _) w.heap.size w ?_ ?_ ?_
              · rw [Array.toArray_toList]; exact hcu.out
              · have e : (strs (out.drop k)).length = out.length - k := by unfold strs; simp
                rw [e]
                show _ = min (n9 - k) (n9 - k1)
                have := hn9.out; have := hk1.out; have := hple.out
                omega
              · intro h0
                have e : (strs (out.drop k)).length = out.length - k := by unfold strs; simp
                rw [← hdp.out, if_neg (by have := hc92.out; have := hn9.out; have := hk1.out; omega)]
                refine ⟨rfl, _, rfl, fun j v hv => ?_⟩
                obtain ⟨b9, o9, e9, _, _, hc9'⟩ := (Rd.of_own' how9.out).at_ (k := 0) (by have := hn9.out; omega)
                injection e9 with e9
                injection e9 with f1 f2
                subst f1 f2
                have h9 := hc9' (k + j) v (by
                  have e8 : (strs (out.drop k))[j]? = (strs out)[k + j]? := by unfold strs; rw [List.map_drop, List.getElem?_drop]
                  rw [e8] at hv
                  have h8 := (List.getElem?_eq_some_iff.1 hv).1
                  rw [List.getElem?_append_left h8]; exact hv)
                rw [Nat.zero_add] at h9
                show w9.cell? (Addr.add ⟨q, k, none⟩ j) = _
                have e5 : Addr.add ⟨q, k, none⟩ j = ⟨q, k + j, none⟩ := by
                  rcases Nat.eq_zero_or_pos j with rfl | hj
                  · simp [Addr.add]
                  · simp [Addr.add]; omega
                rw [e5]; exact h9
              · have e : (strs (out.drop k)).length = out.length - k := by unfold strs; simp
                rw [e]
                have h7 : cs.toList.length = cs.size := Array.length_toList
                have := hcs.out; have := hn9.out; have := hk1.out; have := hple.out
                omega
              · exact hB9.out.drew
              · exact hq0.out.1
              intro w2 hg2 hB2
              have hg3 := hid hg2.out
              have hB3 := hid hB2
              have ex2 := hc8.out _ hB2
              clear hg2 hB2
              refine hK.out _ _ trivial (fun hHeld => ?_)
              clear hK K
              (try simp only [Act.put, List.setIfInBounds_toArray, List.set_cons_zero, List.set_cons_succ, List.getElem_toArray, List.getElem_cons_zero, List.getElem_cons_succ])
              refine wpAnyH_done (by kernel_rfl) ?_ _

              go_upto_region 11 with fail
              have fz := (show Blk w2 q 9 _ from hg3.out).frozen k
              obtain ⟨v0, ev0⟩ : ∃ v0, w2.cell? ⟨q, k, none⟩ = some v0 := ⟨_, ((show Blk w2 q 9 _ from hg3.out).cell k).trans (Array.getElem?_eq_getElem (by
                have e : (strs (out.drop k)).length = out.length - k := by unfold strs; simp
                have h7 : cs.toList.length = cs.size := Array.length_toList
                have := hcs.out; have := hn9.out; have := hk1.out; have := hple.out
                rw [List.size_toArray, length_splice _ _ _ (by omega)]
                omega))⟩
              have z8 : (k : Int) < (n9 : Int) := by have := hn9.out; have := hple.out; omega
              go_wp2_with fail
              go_roundw
              case rel =>
                have e : srtK (l.take (i + 1)) = out.take k ++ [x] ++ out.drop k := by rw [take_snocI hx.out, set_miss hmiss.out, hout.out, hp.out]
                have el : (out.take k ++ [x] ++ out.drop k).length = n9 := by have := hn9.out; have := hple.out; simp; omega
                have es : strs (out.take k ++ [x] ++ out.drop k) = (strs out).take k ++ [.string x] ++ (strs out).drop k := by unfold strs; simp
                refine ⟨i + 1, some ⟨q, 0, none⟩, c9, by rw [e, el], rfl, by have := hltH.out; omega, ?_, ?_⟩
                · rw [e, el, es]
                  have h9 := how9.out
                  rw [← hn9.out] at h9 ⊢
                  refine own_ins h9 (by unfold strs; simp) hple.out hcu.out ?_
                  have h8 := hg3.out
                  have e7 : strs (out.drop k) = (strs out).drop k := by unfold strs; rw [List.map_drop]
                  rw [← hk1.out, e7] at h8
                  exact h8
                · exact hB3.out.setCell (p := ⟨q, k, none⟩) hq0.out.1 _
              case measure => simp [intOf]; have := hltH.out; omega
          · have j1 : ¬ ((k : Int) < (out.length : Int)) := by omega
            have hkeq := hid (show k = out.length by have := hple.out; omega)
            have hmiss : Hid (¬ x ∈ l.take i) := hid fun h => by
              have h1 := posS_hit h
              rw [hout.out, hp.out] at h1
              exact hkn (List.getElem?_eq_some_iff.1 h1).1
            clear hkn
            go_upto_region 6 with fail
            go_quiet (fail)
            have hBq := hid (below_drewN hBq.out nq)
            have e1 := hc9.out _ hBq.out
            have hownq := hid (own_below hown.out hBq.out)
            generalize wr.drewN nq = wq2 at *
            go_upto_region 8 with fail
            go_quiet (fail)
            have hBz := hid (below_drewN hBq.out nq)
            have hownz := hid (own_below hown.out hBz.out)
            have ez := hc9.out _ hBz.out
            generalize wq2.drewN nq = wz at *
            clear e1
            have hbz := hid ((Below.refl wz.heap.size wz).alloc (Nat.le_refl _) (.cells #[.string ⟨#[]⟩] 9))
            go_upto_region 10 with (
              at_builtin
              refine wpList_append_rd _ rfl (.tmp 44) (.tmp 45) 25 rfl w.heap.size 9 i0 _ 1 16 Tryz.underlying25 hi0 hz0 hz1 hz2 rfl (by omega) (.slice B out.length d) out.length (strs out) rfl (own_below hownz.out hbz.out) (fun q => q = wz.heap.size) (some ⟨wz.heap.size, 0, none⟩) 1 1 [.string ⟨#[]⟩] rfl (Rd.new wz 9 1 1 #[.string ⟨#[]⟩] wz.heap.size rfl rfl) (by intro v hv; simp at hv; subst hv; rfl) (by have := hlen.out; simp only [maxLen]; omega) (by have := hlen.out; omega) (by have := hB.out.size; have := hBz.out.size; simp; omega) ?_
              intro v9 w9 hown9 hg9 hat9
              obtain ⟨A9, c9, rfl, hc91, _⟩ := own_form hown9
              have how9 := hid hown9
              have hc92 := hid hc91
              have hbx := (hB.out.trans (hBz.out.mono hB.out.size)).trans (hbz.out.mono (hB.out.trans (hBz.out.mono hB.out.size)).size)
              have hB9 := hid (hbx.grown hg9 hbx.size fun q hq => (hownz.out.lt q hq).1)
              have ex := hc8.out _ hB9.out
              clear hown9 hg9 hat9 hc91 hbx)
            obtain ⟨q, cs, hAq, hcu0, hcs0⟩ := row_blk how9.out (by omega)
            subst hAq
            have hcu := hid hcu0
            have hcs := hid hcs0
            have hq0 := hid (how9.out.lt q rfl)
            obtain ⟨n9, hn9⟩ : ∃ n9, Hid (out.length + 1 = n9) := ⟨_, hid rfl⟩
            obtain ⟨k1, hk1⟩ : ∃ k1, Hid (k + 1 = k1) := ⟨_, hid rfl⟩
            rw [hn9.out] at how9 hc92 hcs ⊢
            have iz : IntKind.i64.wrap ((k : Int) + 1) = (k1 : Int) := by rw [i3]; have := hk1.out; omega
            have z1 : (k1 : Int) ≤ (n9 : Int) := by have := hk1.out; have := hn9.out; have := hple.out; omega
            have z2 : (k : Int) ≤ (n9 : Int) := by have := hk1.out; have := hn9.out; have := hple.out; omega
            have z3 : (n9 : Int) ≤ (c9 : Int) := by have := hc92.out; omega
            have z4 : ¬ c9 = k := by have := hc92.out; have := hn9.out; have := hple.out; omega
            have z5 : k1 ≤ n9 := by omega
            have z6 : k ≤ n9 := by omega
            have z7 : n9 ≤ c9 := hc92.out
            clear i3 ez hcu0 hcs0 j1
            clear ex
            refine wp_region_held_drew (S := fun _ => True) (by kernel_rfl) ?_ (fun hHeld => ?_)
            · exact True.intro
            refine wpAnyH_take (i := 0) (v := ?v8) rfl (by kernel_rfl) (by kernel_rfl) (by kernel_rfl) (fun _ _ _ h => h) (Or.inl ⟨by rfl, ?hy8⟩) (by assumption) ?rest8
            case hy8 => intro w' hSw; (try dsimp only at hSw); go_simp; try with_reducible rfl
            (try simp only [Act.put, List.setIfInBounds_toArray, List.set_cons_zero, List.set_cons_succ, List.getElem_toArray, List.getElem_cons_zero, List.getElem_cons_succ])
            refine wpAnyH_take (i := 1) (v := ?v9) rfl (by kernel_rfl) (by kernel_rfl) (by kernel_rfl) (fun _ _ _ h => h) (Or.inl ⟨by rfl, ?hy9⟩) (by assumption) ?rest9
            case hy9 => intro w' hSw; (try dsimp only at hSw); go_simp; try with_reducible rfl
            (try simp only [Act.put, List.setIfInBounds_toArray, List.set_cons_zero, List.set_cons_succ, List.getElem_toArray, List.getElem_cons_zero, List.getElem_cons_succ])
            refine wpAnyH_take (i := 2) (v := ?v10) rfl (by kernel_rfl) (by kernel_rfl) (by kernel_rfl) (fun _ _ _ h => h) (Or.inl ⟨by rfl, ?hy10⟩) (by assumption) ?rest10
            case hy10 => intro w' hSw; (try dsimp only at hSw); go_simp; try with_reducible rfl
            (try simp only [Act.put, List.setIfInBounds_toArray, List.set_cons_zero, List.set_cons_succ, List.getElem_toArray, List.getElem_cons_zero, List.getElem_cons_succ])
            refine wpAnyH_take (i := 3) (v := ?v11) rfl (by kernel_rfl) (by kernel_rfl) (by kernel_rfl) (fun _ _ _ h => h) (Or.inl ⟨by rfl, ?hy11⟩) (by assumption) ?rest11
            case hy11 => intro w' hSw; (try dsimp only at hSw); go_simp; try with_reducible rfl
            (try simp only [Act.put, List.setIfInBounds_toArray, List.set_cons_zero, List.set_cons_succ, List.getElem_toArray, List.getElem_cons_zero, List.getElem_cons_succ])
            refine wpAnyH_take (i := 4) (v := ?v12) rfl (by kernel_rfl) (by kernel_rfl) (by kernel_rfl) (fun _ _ _ h => h) (Or.inl ⟨by rfl, ?hy12⟩) (by assumption) ?rest12
            case hy12 => intro w' hSw; (try dsimp only at hSw); go_simp; try with_reducible rfl
            (try simp only [Act.put, List.setIfInBounds_toArray, List.set_cons_zero, List.set_cons_succ, List.getElem_toArray, List.getElem_cons_zero, List.getElem_cons_succ])
            refine wpAnyH_take (i := 5) (v := ?v13) rfl (by kernel_rfl) (by kernel_rfl) (by kernel_rfl) (fun _ _ _ h => h) (Or.inl ⟨by rfl, ?hy13⟩) (by assumption) ?rest13
            case hy13 => intro w' hSw; (try dsimp only at hSw); go_simp; try with_reducible rfl
            (try simp only [Act.put, List.setIfInBounds_toArray, List.set_cons_zero, List.set_cons_succ, List.getElem_toArray, List.getElem_cons_zero, List.getElem_cons_succ])
            refine wpAnyH_take (i := 6) (v := ?v14) rfl (by kernel_rfl) (by kernel_rfl) (by kernel_rfl) (fun _ _ _ h => h) (Or.inl ⟨by rfl, ?hy14⟩) (by assumption) ?rest14
            case hy14 => intro w' hSw; (try dsimp only at hSw); go_simp; try with_reducible rfl
            (try simp only [Act.put, List.setIfInBounds_toArray, List.set_cons_zero, List.set_cons_succ, List.getElem_toArray, List.getElem_cons_zero, List.getElem_cons_succ])
            obtain ⟨dp, hdp⟩ : ∃ dp, Hid ((if c9 = k1 then some ⟨q, 0, none⟩ else some ⟨q, k1, none⟩ : Option Addr) = dp) := ⟨_, hid rfl⟩
            rw [hdp.out]
            refine wpAnyH_ready (rs := [7]) (by kernel_rfl) (by simp) ?_
            refine AllReadyH.cons rfl (fun K hK => ?_) AllReadyH.nil
            refine step_copy_splice rfl (.tmp 50) (.tmp 53) 25 25 rfl 9 rfl (by kernel_rfl) _ _ _ _ _ _ rfl rfl q k1 cs.toList 9 ?_ (strs (out.drop k)) ?_ ?_ ?_ (strsI_one _) w.heap.size w ?_ ?_ ?_
            · rw [Array.toArray_toList]; exact hcu.out
            · have e : (strs (out.drop k)).length = out.length - k := by unfold strs; simp
              rw [e]
              show _ = min (n9 - k) (n9 - k1)
              have := hn9.out; have := hk1.out; have := hple.out
              omega
            · intro h0
              have e : (strs (out.drop k)).length = out.length - k := by unfold strs; simp
              rw [← hdp.out, if_neg (by have := hc92.out; have := hn9.out; have := hk1.out; omega)]
              refine ⟨rfl, _, rfl, fun j v hv => ?_⟩
              obtain ⟨b9, o9, e9, _, _, hc9'⟩ := (Rd.of_own' how9.out).at_ (k := 0) (by have := hn9.out; omega)
              injection e9 with e9
              injection e9 with f1 f2
              subst f1 f2
              have h9 := hc9' (k + j) v (by
                have e8 : (strs (out.drop k))[j]? = (strs out)[k + j]? := by unfold strs; rw [List.map_drop, List.getElem?_drop]
                rw [e8] at hv
                have h8 := (List.getElem?_eq_some_iff.1 hv).1
                rw [List.getElem?_append_left h8]; exact hv)
              rw [Nat.zero_add] at h9
              show w9.cell? (Addr.add ⟨q, k, none⟩ j) = _
              have e5 : Addr.add ⟨q, k, none⟩ j = ⟨q, k + j, none⟩ := by
                rcases Nat.eq_zero_or_pos j with rfl | hj
                · simp [Addr.add]
                · simp [Addr.add]; omega
              rw [e5]; exact h9
            · have e : (strs (out.drop k)).length = out.length - k := by unfold strs; simp
              rw [e]
              have h7 : cs.toList.length = cs.size := Array.length_toList
              have := hcs.out; have := hn9.out; have := hk1.out; have := hple.out
              omega
            · exact hB9.out.drew
            · exact hq0.out.1
            intro w2 hg2 hB2
            have hg3 := hid hg2.out
            have hB3 := hid hB2
            have ex2 := hc8.out _ hB2
            clear hg2 hB2
            refine hK.out _ _ trivial (fun hHeld => ?_)
            clear hK K
            (try simp only [Act.put, List.setIfInBounds_toArray, List.set_cons_zero, List.set_cons_succ, List.getElem_toArray, List.getElem_cons_zero, List.getElem_cons_succ])
            refine wpAnyH_done (by kernel_rfl) ?_ _

            go_upto_region 11 with fail
            have fz := (show Blk w2 q 9 _ from hg3.out).frozen k
            obtain ⟨v0, ev0⟩ : ∃ v0, w2.cell? ⟨q, k, none⟩ = some v0 := ⟨_, ((show Blk w2 q 9 _ from hg3.out).cell k).trans (Array.getElem?_eq_getElem (by
              have e : (strs (out.drop k)).length = out.length - k := by unfold strs; simp
              have h7 : cs.toList.length = cs.size := Array.length_toList
              have := hcs.out; have := hn9.out; have := hk1.out; have := hple.out
              rw [List.size_toArray, length_splice _ _ _ (by omega)]
              omega))⟩
            have z8 : (k : Int) < (n9 : Int) := by have := hn9.out; have := hple.out; omega
            go_wp2_with fail
            go_roundw
            case rel =>
              have e : srtK (l.take (i + 1)) = out.take k ++ [x] ++ out.drop k := by rw [take_snocI hx.out, set_miss hmiss.out, hout.out, hp.out]
              have el : (out.take k ++ [x] ++ out.drop k).length = n9 := by have := hn9.out; have := hple.out; simp; omega
              have es : strs (out.take k ++ [x] ++ out.drop k) = (strs out).take k ++ [.string x] ++ (strs out).drop k := by unfold strs; simp
              refine ⟨i + 1, some ⟨q, 0, none⟩, c9, by rw [e, el], rfl, by have := hltH.out; omega, ?_, ?_⟩
              · rw [e, el, es]
                have h9 := how9.out
                rw [← hn9.out] at h9 ⊢
                refine own_ins h9 (by unfold strs; simp) hple.out hcu.out ?_
                have h8 := hg3.out
                have e7 : strs (out.drop k) = (strs out).drop k := by unfold strs; rw [List.map_drop]
                rw [← hk1.out, e7] at h8
                exact h8
              · exact hB3.out.setCell (p := ⟨q, k, none⟩) hq0.out.1 _
            case measure => simp [intOf]; have := hltH.out; omega
    · have hie : i = l.length := by omega
      have i1 : ¬ ((i : Int) < (l.length : Int)) := by omega
      have ht := hid (show l.take i = l by rw [hie, List.take_length])
      clear hlt hi hie
      go_wp2_with fail
      go_ret
      have h := hown.out
      rw [ht.out] at h ⊢
      exact ⟨B, d, rfl, h, hB.out⟩
end
end Go.Proofs.YtdmogoaaecdbaaaGreatDoor

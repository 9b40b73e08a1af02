/- value: ValueAll: the walk. -/
import Derived.Test.YtbnpidmlcjofiaaDoorZNumber
import Derived.Test.YtbnpidmlcjofiaaDoorZNilTake
import Derived.Test.YtbnpidmlcjofiaaDoorJ12
import Derived.Deep.RegionHeld3
import Derived.BigRegion
namespace Go.Proofs.YtbnpidmlcjofiaaDoor
open Go.RowKit
set_option linter.unusedVariables false
set_option linter.unusedSimpArgs false

set_option maxRecDepth 100000 in
set_option maxHeartbeats 8000000 in
theorem all_walk (a b : Vl) (n : Int) (s : ByteArray) (w : World) (has : a.s.size ≤ 140737488351232) (har : a.rng) (h0 : -9223372036854775808 ≤ n) (h1 : n ≤ 9223372036854775807) (hs : s.size ≤ 140737488351232) (he : Env w) : Calls Tryd.prog 9 #[.agg #[.int .i64 a.k, .int .i64 a.n, .string a.s, .int .i64 b.k, .int .i64 b.n, .string b.s, .int .i64 n, .string s]] w fun e w' => e = .returned (.bool true) ∧ Below w.heap.size w w' := by
  obtain ⟨W, hW⟩ : ∃ W, W = w.alloc (.cells #[.int .i64 a.k, .int .i64 a.n, .string a.s, .int .i64 b.k, .int .i64 b.n, .string b.s, .int .i64 n, .string s] 59) := ⟨_, rfl⟩
  have hB0 : Hid (Below w.heap.size w W) := hid (by subst hW; exact (Below.refl _ _).alloc (Nat.le_refl _) _)
  have k0 : Hid (Blk W w.heap.size 59 #[.int .i64 a.k, .int .i64 a.n, .string a.s, .int .i64 b.k, .int .i64 b.n, .string b.s, .int .i64 n, .string s]) := hid (by subst hW; exact Blk.new w _ _)
  have x0 : W.cell? ⟨w.heap.size, 0, none⟩ = some (.int .i64 a.k) := k0.out.cell 0
  have x1 : W.cell? ⟨w.heap.size, 1, none⟩ = some (.int .i64 a.n) := k0.out.cell 1
  have x2 : W.cell? ⟨w.heap.size, 2, none⟩ = some (.string a.s) := k0.out.cell 2
  have x3 : W.cell? ⟨w.heap.size, 3, none⟩ = some (.int .i64 b.k) := k0.out.cell 3
  have x4 : W.cell? ⟨w.heap.size, 4, none⟩ = some (.int .i64 b.n) := k0.out.cell 4
  have x5 : W.cell? ⟨w.heap.size, 5, none⟩ = some (.string b.s) := k0.out.cell 5
  have x6 : W.cell? ⟨w.heap.size, 6, none⟩ = some (.int .i64 n) := k0.out.cell 6
  have x7 : W.cell? ⟨w.heap.size, 7, none⟩ = some (.string s) := k0.out.cell 7
  have hlt := k0.out.lt
  have he0 := hid (he.below hB0.out)
  have hah := hid has; have harh := hid har; have hnn := hid (And.intro h0 h1); have hsh := hid hs
  clear has har h0 h1 hs he
  go_enter Tryd.func9, Tryd.ntmps9
  go_upto_region 1 with fail
  rw [← hW]
  clear hW
  go_region
  · as_aux_lemma =>
    have hbW : Below W.heap.size W ((W.alloc (.cells #[.int .i64 a.k, .int .i64 a.n, .string a.s] 24)).alloc (.cells #[.int .i64 b.k, .int .i64 b.n, .string b.s] 24)).drew := (((Below.refl _ _).alloc (Nat.le_refl _) _).alloc (by simp) _).drew
    have kA : Blk ((W.alloc (.cells #[.int .i64 a.k, .int .i64 a.n, .string a.s] 24)).alloc (.cells #[.int .i64 b.k, .int .i64 b.n, .string b.s] 24)).drew (W.heap.size) 24 #[.int .i64 a.k, .int .i64 a.n, .string a.s] := ((Blk.new W _ _).alloc _).drewN 1
    have kB : Blk ((W.alloc (.cells #[.int .i64 a.k, .int .i64 a.n, .string a.s] 24)).alloc (.cells #[.int .i64 b.k, .int .i64 b.n, .string b.s] 24)).drew (W.heap.size + 1) 24 #[.int .i64 b.k, .int .i64 b.n, .string b.s] := (Blk.new' (W.alloc (.cells #[.int .i64 a.k, .int .i64 a.n, .string a.s] 24)) _ _ (by simp)).below_all (Below.refl _ _).drew
    obtain ⟨W4, hW4⟩ : ∃ W4, W4 = ((W.alloc (.cells #[.int .i64 a.k, .int .i64 a.n, .string a.s] 24)).alloc (.cells #[.int .i64 b.k, .int .i64 b.n, .string b.s] 24)).drew := ⟨_, rfl⟩
    rw [← hW4] at hbW kA kB ⊢
    obtain ⟨ga, hga⟩ : ∃ ga, ga = W.heap.size := ⟨_, rfl⟩
    obtain ⟨gb, hgb⟩ : ∃ gb, gb = W.heap.size + 1 := ⟨_, rfl⟩
    rw [← hga] at kA
    rw [← hgb] at kB
    simp only [← hgb]
    simp only [← hga]
    have hkeep : Hid (∀ W', Below W4.heap.size W4 W' → W'.cell? ⟨ga, 0, none⟩ = some (.int .i64 a.k) ∧ W'.cell? ⟨ga, 1, none⟩ = some (.int .i64 a.n) ∧ W'.cell? ⟨ga, 2, none⟩ = some (.string a.s) ∧ W'.cell? ⟨gb, 0, none⟩ = some (.int .i64 b.k) ∧ W'.cell? ⟨gb, 1, none⟩ = some (.int .i64 b.n) ∧ W'.cell? ⟨gb, 2, none⟩ = some (.string b.s)) := hid (fun W' hb => by
      have h0 := kA.below_all hb
      have h1 := kB.below_all hb
      exact ⟨h0.cell 0, h0.cell 1, h0.cell 2, h1.cell 0, h1.cell 1, h1.cell 2⟩)
    have hbX : Hid (Below W4.heap.size W4 W4) := hid (Below.refl _ _)
    have hbW4 := hid (hB0.out.trans (hbW.mono hB0.out.size))
    have he4 := hid (he0.out.below hbW)
    clear hW4 hga hgb kA kB hbW x0 x1 x2 x3 x4 x5 x6 x7 hlt
    obtain ⟨x0, x1, x2, y0, y1, y2⟩ := hkeep.out _ hbX.out

    have hpr0 := print_any a W4 hah.out harh.out he4.out
    have hrpr0 := fun W => rprint_any a W hah.out harh.out
    unfold PrOut at hpr0 hrpr0
    have hpr := hid hpr0
    have hrpr := hid hrpr0
    clear hpr0 hrpr0
    have hnu := hid (fun W (h : Env W) => number_any s hsh.out W h)
    have hrnu := hid (fun W (h : Env W) => rnumber_any2 s hsh.out W h)
    have hva := hid (fun W => valid_any a W (by have := hah.out; omega))
    have hrva := hid (fun W => rvalid_any a W (by have := hah.out; omega))
    have hcm := hid (fun W => compare_any a b W)
    have hrcm := hid (fun W => rcompare_any a b W)
    have heqc := hid (fun W => equal_any a b W)
    have hXD : (Vl.cmp a b == 0) = decide (a = b) := by rw [Bool.eq_iff_iff]; simp only [beq_iff_eq, decide_eq_true_eq]; exact ord_vl.zero a b
    have hdg := hid (fun W (h : Env W) => digits_any n hnn.out.1 hnn.out.2 W h)
    have hrdg := hid (fun W => rDigits_any n hnn.out.1 hnn.out.2 W)
    generalize (⟨(printL a).toArray⟩ : ByteArray) = P at *
    generalize printE a = PE at *
    generalize numR (parseL s.data.toList) = nr at *
    generalize (⟨(Lib.itoa n).toArray⟩ : ByteArray) = DG at *
    generalize decide (a = b) = D at *
    generalize Vl.cmp a b = X at *
    generalize a.ok = AO at *
    go_wp2_with fail
    refine hpr.out.mono ?_
    rintro e wq ⟨rfl, hbq⟩
    have hbX : Hid (Below W4.heap.size W4 wq) := hid (hbX.out.trans (hbq.mono hbX.out.size))
    clear hbq x0 x1 x2 y0 y1 y2
    obtain ⟨x0, x1, x2, y0, y1, y2⟩ := hkeep.out _ hbX.out
    go_wp2_with fail
    refine (hrpr.out _).mono ?_
    rintro e wr ⟨rfl, hbq⟩
    have hbX : Hid (Below W4.heap.size W4 wr) := hid (hbX.out.trans (hbq.mono hbX.out.size))
    clear hbq x0 x1 x2 y0 y1 y2
    obtain ⟨x0, x1, x2, y0, y1, y2⟩ := hkeep.out _ hbX.out
    have he5 := hid (he4.out.below hbX.out)
    go_wp2_with fail
    refine (hnu.out _ he5.out).mono ?_
    rintro e wt ⟨rfl, hbq⟩
    have hbX : Hid (Below W4.heap.size W4 wt) := hid (hbX.out.trans (hbq.mono hbX.out.size))
    clear hbq x0 x1 x2 y0 y1 y2
    obtain ⟨x0, x1, x2, y0, y1, y2⟩ := hkeep.out _ hbX.out
    have he6 := hid (he4.out.below hbX.out)
    go_wp2_with fail
    refine (hrnu.out _ he6.out).mono ?_
    rintro e wu ⟨rfl, hbq⟩
    have hbX : Hid (Below W4.heap.size W4 wu) := hid (hbX.out.trans (hbq.mono hbX.out.size))
    clear hbq x0 x1 x2 y0 y1 y2
    obtain ⟨x0, x1, x2, y0, y1, y2⟩ := hkeep.out _ hbX.out
    clear hpr hrpr hnu hrnu he5 he6
    have hn1 := fun w => neq_vals ⟨1, n, ⟨#[]⟩⟩ ⟨1, n, ⟨#[]⟩⟩ w
    have hn2 := fun w => neq_vals ⟨2, 0, s⟩ ⟨2, 0, s⟩ w
    simp only [decide_true, Bool.not_true] at hn1 hn2
    have hgd := guardVal
    go_upto_region 6 with fail
    refine wp_region_held_drew (S := fun w' => w'.cell? ⟨ga, 0, none⟩ = some (.int .i64 a.k) ∧ w'.cell? ⟨ga, 1, none⟩ = some (.int .i64 a.n) ∧ w'.cell? ⟨ga, 2, none⟩ = some (.string a.s) ∧ w'.cell? ⟨gb, 0, none⟩ = some (.int .i64 b.k) ∧ w'.cell? ⟨gb, 1, none⟩ = some (.int .i64 b.n) ∧ w'.cell? ⟨gb, 2, none⟩ = some (.string b.s)) (by kernel_rfl) ?_ (fun hHeld => ?_)
    · exact hkeep.out _ hbX.out.drew
    have hbX := hid (hbX.out.drew)
    refine wpAnyH_take (i := 0) (v := ?v1) rfl (by kernel_rfl) (by kernel_rfl) (by kernel_rfl) (fun _ _ _ h => h) (Or.inl ⟨by rfl, ?hy1⟩) (by assumption) ?rest1
    case hy1 => intro w hSw; (try dsimp only at hSw); go_simp; try with_reducible rfl
    (try simp only [Act.put, List.setIfInBounds_toArray, List.set_cons_zero, List.set_cons_succ, List.getElem_toArray, List.getElem_cons_zero, List.getElem_cons_succ])
    refine wpAnyH_take (i := 2) (v := ?v2) rfl (by kernel_rfl) (by kernel_rfl) (by kernel_rfl) (fun _ _ _ h => h) (Or.inl ⟨by rfl, ?hy2⟩) (by assumption) ?rest2
    case hy2 => intro w hSw; (try dsimp only at hSw); go_simp; try with_reducible rfl
    (try simp only [Act.put, List.setIfInBounds_toArray, List.set_cons_zero, List.set_cons_succ, List.getElem_toArray, List.getElem_cons_zero, List.getElem_cons_succ])
    refine wpAnyH_ready (rs := [1]) (by kernel_rfl) (by simp) ?_
    refine AllReadyH.cons rfl (fun K hK => ?_) AllReadyH.nil
    go_simp
    refine (of_any _ _).mono ?_
    rintro e wb ⟨rfl, hbb⟩
    have hbX : Hid (Below W4.heap.size W4 wb) := hid (hbX.out.trans (hbb.mono hbX.out.size))
    clear hbb
    refine hK.out _ _ ?_ (fun hHeld => ?_)
    · exact hkeep.out _ hbX.out
    clear hK K
    (try simp only [Act.put, List.setIfInBounds_toArray, List.set_cons_zero, List.set_cons_succ, List.getElem_toArray, List.getElem_cons_zero, List.getElem_cons_succ])
    refine wpAnyH_ready (rs := [3]) (by kernel_rfl) (by simp) ?_
    refine AllReadyH.cons rfl (fun K hK => ?_) AllReadyH.nil
    go_simp
    refine (rof_any _ _).mono ?_
    rintro e wb ⟨rfl, hbb⟩
    have hbX : Hid (Below W4.heap.size W4 wb) := hid (hbX.out.trans (hbb.mono hbX.out.size))
    clear hbb
    refine hK.out _ _ ?_ (fun hHeld => ?_)
    · exact hkeep.out _ hbX.out
    clear hK K
    (try simp only [Act.put, List.setIfInBounds_toArray, List.set_cons_zero, List.set_cons_succ, List.getElem_toArray, List.getElem_cons_zero, List.getElem_cons_succ])
    refine wpAnyH_take (i := 4) (v := ?v3) rfl (by kernel_rfl) (by kernel_rfl) (by kernel_rfl) (fun _ _ _ h => h) (Or.inl ⟨by rfl, ?hy3⟩) (by assumption) ?rest3
    case hy3 => intro w hSw; (try dsimp only at hSw); go_simp; try with_reducible rfl
    (try simp only [Act.put, List.setIfInBounds_toArray, List.set_cons_zero, List.set_cons_succ, List.getElem_toArray, List.getElem_cons_zero, List.getElem_cons_succ])
    refine wpAnyH_take (i := 5) (v := ?v4) rfl (by kernel_rfl) (by kernel_rfl) (by kernel_rfl) (fun _ _ _ h => h) (Or.inl ⟨by rfl, ?hy4⟩) (by assumption) ?rest4
    case hy4 => intro w hSw; (try dsimp only at hSw); go_simp; try with_reducible rfl
    (try simp only [Act.put, List.setIfInBounds_toArray, List.set_cons_zero, List.set_cons_succ, List.getElem_toArray, List.getElem_cons_zero, List.getElem_cons_succ])
    refine wpAnyH_take (i := 6) (v := ?v5) rfl (by kernel_rfl) (by kernel_rfl) (by kernel_rfl) (fun _ _ _ h => h) (Or.inl ⟨by rfl, ?hy5⟩) (by assumption) ?rest5
    case hy5 => intro w hSw; (try dsimp only at hSw); go_simp; try with_reducible rfl
    (try simp only [Act.put, List.setIfInBounds_toArray, List.set_cons_zero, List.set_cons_succ, List.getElem_toArray, List.getElem_cons_zero, List.getElem_cons_succ])
    refine wpAnyH_take (i := 8) (v := ?v6) rfl (by kernel_rfl) (by kernel_rfl) (by kernel_rfl) (fun _ _ _ h => h) (Or.inl ⟨by rfl, ?hy6⟩) (by assumption) ?rest6
    case hy6 => intro w hSw; (try dsimp only at hSw); go_simp; try with_reducible rfl
    (try simp only [Act.put, List.setIfInBounds_toArray, List.set_cons_zero, List.set_cons_succ, List.getElem_toArray, List.getElem_cons_zero, List.getElem_cons_succ])
    refine wpAnyH_ready (rs := [7]) (by kernel_rfl) (by simp) ?_
    refine AllReadyH.cons rfl (fun K hK => ?_) AllReadyH.nil
    rw [if_pos (by rfl)]
    go_simp
    refine (word2_any _ _).mono ?_
    rintro e wb ⟨rfl, hbb⟩
    have hbX : Hid (Below W4.heap.size W4 wb) := hid (hbX.out.trans (hbb.mono hbX.out.size))
    clear hbb
    refine hK.out _ _ ?_ (fun hHeld => ?_)
    · exact hkeep.out _ hbX.out
    clear hK K
    (try simp only [Act.put, List.setIfInBounds_toArray, List.set_cons_zero, List.set_cons_succ, List.getElem_toArray, List.getElem_cons_zero, List.getElem_cons_succ])
    refine wpAnyH_ready (rs := [9]) (by kernel_rfl) (by simp) ?_
    refine AllReadyH.cons rfl (fun K hK => ?_) AllReadyH.nil
    rw [if_pos (by rfl)]
    go_simp
    refine (rword2_any _ _).mono ?_
    rintro e wb ⟨rfl, hbb⟩
    have hbX : Hid (Below W4.heap.size W4 wb) := hid (hbX.out.trans (hbb.mono hbX.out.size))
    clear hbb
    refine hK.out _ _ ?_ (fun hHeld => ?_)
    · exact hkeep.out _ hbX.out
    clear hK K
    (try simp only [Act.put, List.setIfInBounds_toArray, List.set_cons_zero, List.set_cons_succ, List.getElem_toArray, List.getElem_cons_zero, List.getElem_cons_succ])
    refine wpAnyH_take (i := 10) (v := ?v7) rfl (by kernel_rfl) (by kernel_rfl) (by kernel_rfl) (fun _ _ _ h => h) (Or.inl ⟨by rfl, ?hy7⟩) (by assumption) ?rest7
    case hy7 => intro w hSw; (try dsimp only at hSw); go_simp; try with_reducible rfl
    (try simp only [Act.put, List.setIfInBounds_toArray, List.set_cons_zero, List.set_cons_succ, List.getElem_toArray, List.getElem_cons_zero, List.getElem_cons_succ])
    refine wpAnyH_take (i := 11) (v := ?v8) rfl (by kernel_rfl) (by kernel_rfl) (by kernel_rfl) (fun _ _ _ h => h) (Or.inl ⟨by rfl, ?hy8⟩) (by assumption) ?rest8
    case hy8 => intro w hSw; (try dsimp only at hSw); go_simp; try with_reducible rfl
    (try simp only [Act.put, List.setIfInBounds_toArray, List.set_cons_zero, List.set_cons_succ, List.getElem_toArray, List.getElem_cons_zero, List.getElem_cons_succ])
    refine wpAnyH_take (i := 12) (v := ?v9) rfl (by kernel_rfl) (by kernel_rfl) (by kernel_rfl) (fun _ _ _ h => h) (Or.inl ⟨by rfl, ?hy9⟩) (by assumption) ?rest9
    case hy9 => intro w hSw; (try dsimp only at hSw); go_simp; try with_reducible rfl
    (try simp only [Act.put, List.setIfInBounds_toArray, List.set_cons_zero, List.set_cons_succ, List.getElem_toArray, List.getElem_cons_zero, List.getElem_cons_succ])
    refine wpAnyH_take (i := 13) (v := ?v10) rfl (by kernel_rfl) (by kernel_rfl) (by kernel_rfl) (fun _ _ _ h => h) (Or.inl ⟨by rfl, ?hy10⟩) (by assumption) ?rest10
    case hy10 => intro w hSw; (try dsimp only at hSw); go_simp; try with_reducible rfl
    (try simp only [Act.put, List.setIfInBounds_toArray, List.set_cons_zero, List.set_cons_succ, List.getElem_toArray, List.getElem_cons_zero, List.getElem_cons_succ])
    refine wpAnyH_take (i := 15) (v := ?v11) rfl (by kernel_rfl) (by kernel_rfl) (by kernel_rfl) (fun _ _ _ h => h) (Or.inl ⟨by rfl, ?hy11⟩) (by assumption) ?rest11
    case hy11 => intro w hSw; (try dsimp only at hSw); go_simp; try with_reducible rfl
    (try simp only [Act.put, List.setIfInBounds_toArray, List.set_cons_zero, List.set_cons_succ, List.getElem_toArray, List.getElem_cons_zero, List.getElem_cons_succ])
    refine wpAnyH_ready (rs := [14]) (by kernel_rfl) (by simp) ?_
    refine AllReadyH.cons rfl (fun K hK => ?_) AllReadyH.nil
    rw [if_pos (by rfl)]
    go_simp
    refine (hva.out _).mono ?_
    rintro e wb ⟨rfl, hbb⟩
    have hbX : Hid (Below W4.heap.size W4 wb) := hid (hbX.out.trans (hbb.mono hbX.out.size))
    clear hbb
    refine hK.out _ _ ?_ (fun hHeld => ?_)
    · exact hkeep.out _ hbX.out
    clear hK K
    (try simp only [Act.put, List.setIfInBounds_toArray, List.set_cons_zero, List.set_cons_succ, List.getElem_toArray, List.getElem_cons_zero, List.getElem_cons_succ])
    refine wpAnyH_ready (rs := [16]) (by kernel_rfl) (by simp) ?_
    refine AllReadyH.cons rfl (fun K hK => ?_) AllReadyH.nil
    rw [if_pos (by rfl)]
    go_simp
    refine (hrva.out _).mono ?_
    rintro e wb ⟨rfl, hbb⟩
    have hbX : Hid (Below W4.heap.size W4 wb) := hid (hbX.out.trans (hbb.mono hbX.out.size))
    clear hbb
    refine hK.out _ _ ?_ (fun hHeld => ?_)
    · exact hkeep.out _ hbX.out
    clear hK K
    (try simp only [Act.put, List.setIfInBounds_toArray, List.set_cons_zero, List.set_cons_succ, List.getElem_toArray, List.getElem_cons_zero, List.getElem_cons_succ])
    refine wpAnyH_take (i := 17) (v := ?v12) rfl (by kernel_rfl) (by kernel_rfl) (by kernel_rfl) (fun _ _ _ h => h) (Or.inl ⟨by rfl, ?hy12⟩) (by assumption) ?rest12
    case hy12 => intro w hSw; (try dsimp only at hSw); go_simp; try with_reducible rfl
    (try simp only [Act.put, List.setIfInBounds_toArray, List.set_cons_zero, List.set_cons_succ, List.getElem_toArray, List.getElem_cons_zero, List.getElem_cons_succ])
    refine wpAnyH_take (i := 18) (v := ?v13) rfl (by kernel_rfl) (by kernel_rfl) (by kernel_rfl) (fun _ _ _ h => h) (Or.inl ⟨by rfl, ?hy13⟩) (by assumption) ?rest13
    case hy13 => intro w hSw; (try dsimp only at hSw); go_simp; try with_reducible rfl
    (try simp only [Act.put, List.setIfInBounds_toArray, List.set_cons_zero, List.set_cons_succ, List.getElem_toArray, List.getElem_cons_zero, List.getElem_cons_succ])
    refine wpAnyH_take (i := 19) (v := ?v14) rfl (by kernel_rfl) (by kernel_rfl) (by kernel_rfl) (fun _ _ _ h => h) (Or.inl ⟨by rfl, ?hy14⟩) (by assumption) ?rest14
    case hy14 => intro w hSw; (try dsimp only at hSw); go_simp; try with_reducible rfl
    (try simp only [Act.put, List.setIfInBounds_toArray, List.set_cons_zero, List.set_cons_succ, List.getElem_toArray, List.getElem_cons_zero, List.getElem_cons_succ])
    refine wpAnyH_take (i := 20) (v := ?v15) rfl (by kernel_rfl) (by kernel_rfl) (by kernel_rfl) (fun _ _ _ h => h) (Or.inl ⟨by rfl, ?hy15⟩) (by assumption) ?rest15
    case hy15 => intro w hSw; (try dsimp only at hSw); go_simp; try with_reducible rfl
    (try simp only [Act.put, List.setIfInBounds_toArray, List.set_cons_zero, List.set_cons_succ, List.getElem_toArray, List.getElem_cons_zero, List.getElem_cons_succ])
    refine wpAnyH_take (i := 21) (v := ?v16) rfl (by kernel_rfl) (by kernel_rfl) (by kernel_rfl) (fun _ _ _ h => h) (Or.inl ⟨by rfl, ?hy16⟩) (by assumption) ?rest16
    case hy16 => intro w hSw; (try dsimp only at hSw); go_simp; try with_reducible rfl
    (try simp only [Act.put, List.setIfInBounds_toArray, List.set_cons_zero, List.set_cons_succ, List.getElem_toArray, List.getElem_cons_zero, List.getElem_cons_succ])
    refine wpAnyH_take (i := 23) (v := ?v17) rfl (by kernel_rfl) (by kernel_rfl) (by kernel_rfl) (fun _ _ _ h => h) (Or.inl ⟨by rfl, ?hy17⟩) (by assumption) ?rest17
    case hy17 => intro w hSw; (try dsimp only at hSw); go_simp; try with_reducible rfl
    (try simp only [Act.put, List.setIfInBounds_toArray, List.set_cons_zero, List.set_cons_succ, List.getElem_toArray, List.getElem_cons_zero, List.getElem_cons_succ])
    refine wpAnyH_take (i := 24) (v := ?v18) rfl (by kernel_rfl) (by kernel_rfl) (by kernel_rfl) (fun _ _ _ h => h) (Or.inl ⟨by rfl, ?hy18⟩) (by assumption) ?rest18
    case hy18 => intro w hSw; (try dsimp only at hSw); go_simp; try with_reducible rfl
    (try simp only [Act.put, List.setIfInBounds_toArray, List.set_cons_zero, List.set_cons_succ, List.getElem_toArray, List.getElem_cons_zero, List.getElem_cons_succ])
    refine wpAnyH_ready (rs := [22]) (by kernel_rfl) (by simp) ?_
    refine AllReadyH.cons rfl (fun K hK => ?_) AllReadyH.nil
    rw [if_pos (by rfl)]
    go_simp
    refine (hcm.out _).mono ?_
    rintro e wb ⟨rfl, hbb⟩
    have hbX : Hid (Below W4.heap.size W4 wb) := hid (hbX.out.trans (hbb.mono hbX.out.size))
    clear hbb
    refine hK.out _ _ ?_ (fun hHeld => ?_)
    · exact hkeep.out _ hbX.out
    clear hK K
    (try simp only [Act.put, List.setIfInBounds_toArray, List.set_cons_zero, List.set_cons_succ, List.getElem_toArray, List.getElem_cons_zero, List.getElem_cons_succ])
    refine wpAnyH_ready (rs := [25]) (by kernel_rfl) (by simp) ?_
    refine AllReadyH.cons rfl (fun K hK => ?_) AllReadyH.nil
    rw [if_pos (by rfl)]
    go_simp
    refine (hrcm.out _).mono ?_
    rintro e wb ⟨rfl, hbb⟩
    have hbX : Hid (Below W4.heap.size W4 wb) := hid (hbX.out.trans (hbb.mono hbX.out.size))
    clear hbb
    refine hK.out _ _ ?_ (fun hHeld => ?_)
    · exact hkeep.out _ hbX.out
    clear hK K
    (try simp only [Act.put, List.setIfInBounds_toArray, List.set_cons_zero, List.set_cons_succ, List.getElem_toArray, List.getElem_cons_zero, List.getElem_cons_succ])
    refine wpAnyH_take (i := 26) (v := ?v19) rfl (by kernel_rfl) (by kernel_rfl) (by kernel_rfl) (fun _ _ _ h => h) (Or.inl ⟨by rfl, ?hy19⟩) (by assumption) ?rest19
    case hy19 => intro w hSw; (try dsimp only at hSw); go_simp; try with_reducible rfl
    (try simp only [Act.put, List.setIfInBounds_toArray, List.set_cons_zero, List.set_cons_succ, List.getElem_toArray, List.getElem_cons_zero, List.getElem_cons_succ])
    refine wpAnyH_take (i := 27) (v := ?v20) rfl (by kernel_rfl) (by kernel_rfl) (by kernel_rfl) (fun _ _ _ h => h) (Or.inl ⟨by rfl, ?hy20⟩) (by assumption) ?rest20
    case hy20 => intro w hSw; (try dsimp only at hSw); go_simp; try with_reducible rfl
    (try simp only [Act.put, List.setIfInBounds_toArray, List.set_cons_zero, List.set_cons_succ, List.getElem_toArray, List.getElem_cons_zero, List.getElem_cons_succ])
    refine wpAnyH_take (i := 28) (v := ?v21) rfl (by kernel_rfl) (by kernel_rfl) (by kernel_rfl) (fun _ _ _ h => h) (Or.inl ⟨by rfl, ?hy21⟩) (by assumption) ?rest21
    case hy21 => intro w hSw; (try dsimp only at hSw); go_simp; try with_reducible rfl
    (try simp only [Act.put, List.setIfInBounds_toArray, List.set_cons_zero, List.set_cons_succ, List.getElem_toArray, List.getElem_cons_zero, List.getElem_cons_succ])
    refine wpAnyH_take (i := 29) (v := ?v22) rfl (by kernel_rfl) (by kernel_rfl) (by kernel_rfl) (fun _ _ _ h => h) (Or.inl ⟨by rfl, ?hy22⟩) (by assumption) ?rest22
    case hy22 => intro w hSw; (try dsimp only at hSw); go_simp; try with_reducible rfl
    (try simp only [Act.put, List.setIfInBounds_toArray, List.set_cons_zero, List.set_cons_succ, List.getElem_toArray, List.getElem_cons_zero, List.getElem_cons_succ])
    refine wpAnyH_take (i := 30) (v := ?v23) rfl (by kernel_rfl) (by kernel_rfl) (by kernel_rfl) (fun _ _ _ h => h) (Or.inl ⟨by rfl, ?hy23⟩) (by assumption) ?rest23
    case hy23 => intro w hSw; (try dsimp only at hSw); go_simp; try with_reducible rfl
    (try simp only [Act.put, List.setIfInBounds_toArray, List.set_cons_zero, List.set_cons_succ, List.getElem_toArray, List.getElem_cons_zero, List.getElem_cons_succ])
    refine wpAnyH_take (i := 32) (v := ?v24) rfl (by kernel_rfl) (by kernel_rfl) (by kernel_rfl) (fun _ _ _ h => h) (Or.inl ⟨by rfl, ?hy24⟩) (by assumption) ?rest24
    case hy24 => intro w hSw; (try dsimp only at hSw); go_simp; try with_reducible rfl
    (try simp only [Act.put, List.setIfInBounds_toArray, List.set_cons_zero, List.set_cons_succ, List.getElem_toArray, List.getElem_cons_zero, List.getElem_cons_succ])
    refine wpAnyH_take (i := 33) (v := ?v25) rfl (by kernel_rfl) (by kernel_rfl) (by kernel_rfl) (fun _ _ _ h => h) (Or.inl ⟨by rfl, ?hy25⟩) (by assumption) ?rest25
    case hy25 => intro w hSw; (try dsimp only at hSw); go_simp; try with_reducible rfl
    (try simp only [Act.put, List.setIfInBounds_toArray, List.set_cons_zero, List.set_cons_succ, List.getElem_toArray, List.getElem_cons_zero, List.getElem_cons_succ])
    refine wpAnyH_ready (rs := [31]) (by kernel_rfl) (by simp) ?_
    refine AllReadyH.cons rfl (fun K hK => ?_) AllReadyH.nil
    rw [if_pos (by rfl)]
    go_simp
    refine (heqc.out _).mono ?_
    rintro e wb ⟨rfl, hbb⟩
    have hbX : Hid (Below W4.heap.size W4 wb) := hid (hbX.out.trans (hbb.mono hbX.out.size))
    clear hbb
    refine hK.out _ _ ?_ (fun hHeld => ?_)
    · exact hkeep.out _ hbX.out
    clear hK K
    (try simp only [Act.put, List.setIfInBounds_toArray, List.set_cons_zero, List.set_cons_succ, List.getElem_toArray, List.getElem_cons_zero, List.getElem_cons_succ])
    refine wpAnyH_ready (rs := [34]) (by kernel_rfl) (by simp) ?_
    refine AllReadyH.cons rfl (fun K hK => ?_) AllReadyH.nil
    rw [if_pos (by rfl)]
    go_simp
    refine (hrcm.out _).mono ?_
    rintro e wb ⟨rfl, hbb⟩
    have hbX : Hid (Below W4.heap.size W4 wb) := hid (hbX.out.trans (hbb.mono hbX.out.size))
    clear hbb
    refine hK.out _ _ ?_ (fun hHeld => ?_)
    · exact hkeep.out _ hbX.out
    clear hK K
    (try simp only [Act.put, List.setIfInBounds_toArray, List.set_cons_zero, List.set_cons_succ, List.getElem_toArray, List.getElem_cons_zero, List.getElem_cons_succ])
    refine wpAnyH_take (i := 35) (v := ?v26) rfl (by kernel_rfl) (by kernel_rfl) (by kernel_rfl) (fun _ _ _ h => h) (Or.inl ⟨by rfl, ?hy26⟩) (by assumption) ?rest26
    case hy26 => intro w hSw; (try dsimp only at hSw); go_simp; try with_reducible rfl
    (try simp only [Act.put, List.setIfInBounds_toArray, List.set_cons_zero, List.set_cons_succ, List.getElem_toArray, List.getElem_cons_zero, List.getElem_cons_succ])
    refine wpAnyH_take (i := 36) (v := ?v27) rfl (by kernel_rfl) (by kernel_rfl) (by kernel_rfl) (fun _ _ _ h => h) (Or.inl ⟨by rfl, ?hy27⟩) (by assumption) ?rest27
    case hy27 => intro w hSw; (try dsimp only at hSw); go_simp; try with_reducible rfl
    (try simp only [Act.put, List.setIfInBounds_toArray, List.set_cons_zero, List.set_cons_succ, List.getElem_toArray, List.getElem_cons_zero, List.getElem_cons_succ])
    refine wpAnyH_take (i := 37) (v := ?v28) rfl (by kernel_rfl) (by kernel_rfl) (by kernel_rfl) (fun _ _ _ h => h) (Or.inl ⟨by rfl, ?hy28⟩) (by assumption) ?rest28
    case hy28 => intro w hSw; (try dsimp only at hSw); go_simp; try with_reducible rfl
    (try simp only [Act.put, List.setIfInBounds_toArray, List.set_cons_zero, List.set_cons_succ, List.getElem_toArray, List.getElem_cons_zero, List.getElem_cons_succ])
    refine wpAnyH_done (by kernel_rfl) ?_ _
    clear hn1 hn2 hgd
    go_wp2_with (first
      | (go_at_call 17; refine (num_any _ _).mono ?_; rintro e wm ⟨rfl, hwq⟩; obtain rfl := hwq.symm)
      | (go_at_call 38; refine (hdg.out _ (he4.out.below hbX.out)).mono ?_; rintro e wd ⟨rfl, hbq⟩; have hbX : Hid (Below W4.heap.size W4 wd) := hid (hbX.out.trans (hbq.mono hbX.out.size)); clear hbq)
      | (go_at_call 39; refine (hrdg.out _).mono ?_; rintro e wm ⟨rfl, hwq⟩; obtain rfl := hwq.symm)
      | (go_at_call 14; refine (live_any _ (he4.out.below hbX.out)).mono ?_; rintro e wl ⟨rfl, hbq⟩; have hbX : Hid (Below W4.heap.size W4 wl) := hid (hbX.out.trans (hbq.mono hbX.out.size)); clear hbq))
    go_ret
    exact ⟨rfl, hbW4.out.trans (hbX.out.mono hbW4.out.size)⟩

  · as_aux_lemma =>
    have hbW : Below W.heap.size W ((W.alloc (.cells #[.int .i64 b.k, .int .i64 b.n, .string b.s] 24)).alloc (.cells #[.int .i64 a.k, .int .i64 a.n, .string a.s] 24)).drew := (((Below.refl _ _).alloc (Nat.le_refl _) _).alloc (by simp) _).drew
    have kA : Blk ((W.alloc (.cells #[.int .i64 b.k, .int .i64 b.n, .string b.s] 24)).alloc (.cells #[.int .i64 a.k, .int .i64 a.n, .string a.s] 24)).drew (W.heap.size + 1) 24 #[.int .i64 a.k, .int .i64 a.n, .string a.s] := (Blk.new' (W.alloc (.cells #[.int .i64 b.k, .int .i64 b.n, .string b.s] 24)) _ _ (by simp)).below_all (Below.refl _ _).drew
    have kB : Blk ((W.alloc (.cells #[.int .i64 b.k, .int .i64 b.n, .string b.s] 24)).alloc (.cells #[.int .i64 a.k, .int .i64 a.n, .string a.s] 24)).drew (W.heap.size) 24 #[.int .i64 b.k, .int .i64 b.n, .string b.s] := ((Blk.new W _ _).alloc _).below_all (Below.refl _ _).drew
    obtain ⟨W4, hW4⟩ : ∃ W4, W4 = ((W.alloc (.cells #[.int .i64 b.k, .int .i64 b.n, .string b.s] 24)).alloc (.cells #[.int .i64 a.k, .int .i64 a.n, .string a.s] 24)).drew := ⟨_, rfl⟩
    rw [← hW4] at hbW kA kB ⊢
    obtain ⟨ga, hga⟩ : ∃ ga, ga = W.heap.size + 1 := ⟨_, rfl⟩
    obtain ⟨gb, hgb⟩ : ∃ gb, gb = W.heap.size := ⟨_, rfl⟩
    rw [← hga] at kA
    rw [← hgb] at kB
    simp only [← hga]
    simp only [← hgb]
    have hkeep : Hid (∀ W', Below W4.heap.size W4 W' → W'.cell? ⟨ga, 0, none⟩ = some (.int .i64 a.k) ∧ W'.cell? ⟨ga, 1, none⟩ = some (.int .i64 a.n) ∧ W'.cell? ⟨ga, 2, none⟩ = some (.string a.s) ∧ W'.cell? ⟨gb, 0, none⟩ = some (.int .i64 b.k) ∧ W'.cell? ⟨gb, 1, none⟩ = some (.int .i64 b.n) ∧ W'.cell? ⟨gb, 2, none⟩ = some (.string b.s)) := hid (fun W' hb => by
      have h0 := kA.below_all hb
      have h1 := kB.below_all hb
      exact ⟨h0.cell 0, h0.cell 1, h0.cell 2, h1.cell 0, h1.cell 1, h1.cell 2⟩)
    have hbX : Hid (Below W4.heap.size W4 W4) := hid (Below.refl _ _)
    have hbW4 := hid (hB0.out.trans (hbW.mono hB0.out.size))
    have he4 := hid (he0.out.below hbW)
    clear hW4 hga hgb kA kB hbW x0 x1 x2 x3 x4 x5 x6 x7 hlt
    obtain ⟨x0, x1, x2, y0, y1, y2⟩ := hkeep.out _ hbX.out

    have hpr0 := print_any a W4 hah.out harh.out he4.out
    have hrpr0 := fun W => rprint_any a W hah.out harh.out
    unfold PrOut at hpr0 hrpr0
    have hpr := hid hpr0
    have hrpr := hid hrpr0
    clear hpr0 hrpr0
    have hnu := hid (fun W (h : Env W) => number_any s hsh.out W h)
    have hrnu := hid (fun W (h : Env W) => rnumber_any2 s hsh.out W h)
    have hva := hid (fun W => valid_any a W (by have := hah.out; omega))
    have hrva := hid (fun W => rvalid_any a W (by have := hah.out; omega))
    have hcm := hid (fun W => compare_any a b W)
    have hrcm := hid (fun W => rcompare_any a b W)
    have heqc := hid (fun W => equal_any a b W)
    have hXD : (Vl.cmp a b == 0) = decide (a = b) := by rw [Bool.eq_iff_iff]; simp only [beq_iff_eq, decide_eq_true_eq]; exact ord_vl.zero a b
    have hdg := hid (fun W (h : Env W) => digits_any n hnn.out.1 hnn.out.2 W h)
    have hrdg := hid (fun W => rDigits_any n hnn.out.1 hnn.out.2 W)
    generalize (⟨(printL a).toArray⟩ : ByteArray) = P at *
    generalize printE a = PE at *
    generalize numR (parseL s.data.toList) = nr at *
    generalize (⟨(Lib.itoa n).toArray⟩ : ByteArray) = DG at *
    generalize decide (a = b) = D at *
    generalize Vl.cmp a b = X at *
    generalize a.ok = AO at *
    go_wp2_with fail
    refine hpr.out.mono ?_
    rintro e wq ⟨rfl, hbq⟩
    have hbX : Hid (Below W4.heap.size W4 wq) := hid (hbX.out.trans (hbq.mono hbX.out.size))
    clear hbq x0 x1 x2 y0 y1 y2
    obtain ⟨x0, x1, x2, y0, y1, y2⟩ := hkeep.out _ hbX.out
    go_wp2_with fail
    refine (hrpr.out _).mono ?_
    rintro e wr ⟨rfl, hbq⟩
    have hbX : Hid (Below W4.heap.size W4 wr) := hid (hbX.out.trans (hbq.mono hbX.out.size))
    clear hbq x0 x1 x2 y0 y1 y2
    obtain ⟨x0, x1, x2, y0, y1, y2⟩ := hkeep.out _ hbX.out
    have he5 := hid (he4.out.below hbX.out)
    go_wp2_with fail
    refine (hnu.out _ he5.out).mono ?_
    rintro e wt ⟨rfl, hbq⟩
    have hbX : Hid (Below W4.heap.size W4 wt) := hid (hbX.out.trans (hbq.mono hbX.out.size))
    clear hbq x0 x1 x2 y0 y1 y2
    obtain ⟨x0, x1, x2, y0, y1, y2⟩ := hkeep.out _ hbX.out
    have he6 := hid (he4.out.below hbX.out)
    go_wp2_with fail
    refine (hrnu.out _ he6.out).mono ?_
    rintro e wu ⟨rfl, hbq⟩
    have hbX : Hid (Below W4.heap.size W4 wu) := hid (hbX.out.trans (hbq.mono hbX.out.size))
    clear hbq x0 x1 x2 y0 y1 y2
    obtain ⟨x0, x1, x2, y0, y1, y2⟩ := hkeep.out _ hbX.out
    clear hpr hrpr hnu hrnu he5 he6
    have hn1 := fun w => neq_vals ⟨1, n, ⟨#[]⟩⟩ ⟨1, n, ⟨#[]⟩⟩ w
    have hn2 := fun w => neq_vals ⟨2, 0, s⟩ ⟨2, 0, s⟩ w
    simp only [decide_true, Bool.not_true] at hn1 hn2
    have hgd := guardVal
    go_upto_region 6 with fail
    refine wp_region_held_drew (S := fun w' => w'.cell? ⟨ga, 0, none⟩ = some (.int .i64 a.k) ∧ w'.cell? ⟨ga, 1, none⟩ = some (.int .i64 a.n) ∧ w'.cell? ⟨ga, 2, none⟩ = some (.string a.s) ∧ w'.cell? ⟨gb, 0, none⟩ = some (.int .i64 b.k) ∧ w'.cell? ⟨gb, 1, none⟩ = some (.int .i64 b.n) ∧ w'.cell? ⟨gb, 2, none⟩ = some (.string b.s)) (by kernel_rfl) ?_ (fun hHeld => ?_)
    · exact hkeep.out _ hbX.out.drew
    have hbX := hid (hbX.out.drew)
    refine wpAnyH_take (i := 0) (v := ?v29) rfl (by kernel_rfl) (by kernel_rfl) (by kernel_rfl) (fun _ _ _ h => h) (Or.inl ⟨by rfl, ?hy29⟩) (by assumption) ?rest29
    case hy29 => intro w hSw; (try dsimp only at hSw); go_simp; try with_reducible rfl
    (try simp only [Act.put, List.setIfInBounds_toArray, List.set_cons_zero, List.set_cons_succ, List.getElem_toArray, List.getElem_cons_zero, List.getElem_cons_succ])
    refine wpAnyH_take (i := 2) (v := ?v30) rfl (by kernel_rfl) (by kernel_rfl) (by kernel_rfl) (fun _ _ _ h => h) (Or.inl ⟨by rfl, ?hy30⟩) (by assumption) ?rest30
    case hy30 => intro w hSw; (try dsimp only at hSw); go_simp; try with_reducible rfl
    (try simp only [Act.put, List.setIfInBounds_toArray, List.set_cons_zero, List.set_cons_succ, List.getElem_toArray, List.getElem_cons_zero, List.getElem_cons_succ])
    refine wpAnyH_ready (rs := [1]) (by kernel_rfl) (by simp) ?_
    refine AllReadyH.cons rfl (fun K hK => ?_) AllReadyH.nil
    go_simp
    refine (of_any _ _).mono ?_
    rintro e wb ⟨rfl, hbb⟩
    have hbX : Hid (Below W4.heap.size W4 wb) := hid (hbX.out.trans (hbb.mono hbX.out.size))
    clear hbb
    refine hK.out _ _ ?_ (fun hHeld => ?_)
    · exact hkeep.out _ hbX.out
    clear hK K
    (try simp only [Act.put, List.setIfInBounds_toArray, List.set_cons_zero, List.set_cons_succ, List.getElem_toArray, List.getElem_cons_zero, List.getElem_cons_succ])
    refine wpAnyH_ready (rs := [3]) (by kernel_rfl) (by simp) ?_
    refine AllReadyH.cons rfl (fun K hK => ?_) AllReadyH.nil
    go_simp
    refine (rof_any _ _).mono ?_
    rintro e wb ⟨rfl, hbb⟩
    have hbX : Hid (Below W4.heap.size W4 wb) := hid (hbX.out.trans (hbb.mono hbX.out.size))
    clear hbb
    refine hK.out _ _ ?_ (fun hHeld => ?_)
    · exact hkeep.out _ hbX.out
    clear hK K
    (try simp only [Act.put, List.setIfInBounds_toArray, List.set_cons_zero, List.set_cons_succ, List.getElem_toArray, List.getElem_cons_zero, List.getElem_cons_succ])
    refine wpAnyH_take (i := 4) (v := ?v31) rfl (by kernel_rfl) (by kernel_rfl) (by kernel_rfl) (fun _ _ _ h => h) (Or.inl ⟨by rfl, ?hy31⟩) (by assumption) ?rest31
    case hy31 => intro w hSw; (try dsimp only at hSw); go_simp; try with_reducible rfl
    (try simp only [Act.put, List.setIfInBounds_toArray, List.set_cons_zero, List.set_cons_succ, List.getElem_toArray, List.getElem_cons_zero, List.getElem_cons_succ])
    refine wpAnyH_take (i := 5) (v := ?v32) rfl (by kernel_rfl) (by kernel_rfl) (by kernel_rfl) (fun _ _ _ h => h) (Or.inl ⟨by rfl, ?hy32⟩) (by assumption) ?rest32
    case hy32 => intro w hSw; (try dsimp only at hSw); go_simp; try with_reducible rfl
    (try simp only [Act.put, List.setIfInBounds_toArray, List.set_cons_zero, List.set_cons_succ, List.getElem_toArray, List.getElem_cons_zero, List.getElem_cons_succ])
    refine wpAnyH_take (i := 6) (v := ?v33) rfl (by kernel_rfl) (by kernel_rfl) (by kernel_rfl) (fun _ _ _ h => h) (Or.inl ⟨by rfl, ?hy33⟩) (by assumption) ?rest33
    case hy33 => intro w hSw; (try dsimp only at hSw); go_simp; try with_reducible rfl
    (try simp only [Act.put, List.setIfInBounds_toArray, List.set_cons_zero, List.set_cons_succ, List.getElem_toArray, List.getElem_cons_zero, List.getElem_cons_succ])
    refine wpAnyH_take (i := 8) (v := ?v34) rfl (by kernel_rfl) (by kernel_rfl) (by kernel_rfl) (fun _ _ _ h => h) (Or.inl ⟨by rfl, ?hy34⟩) (by assumption) ?rest34
    case hy34 => intro w hSw; (try dsimp only at hSw); go_simp; try with_reducible rfl
    (try simp only [Act.put, List.setIfInBounds_toArray, List.set_cons_zero, List.set_cons_succ, List.getElem_toArray, List.getElem_cons_zero, List.getElem_cons_succ])
    refine wpAnyH_ready (rs := [7]) (by kernel_rfl) (by simp) ?_
    refine AllReadyH.cons rfl (fun K hK => ?_) AllReadyH.nil
    rw [if_pos (by rfl)]
    go_simp
    refine (word2_any _ _).mono ?_
    rintro e wb ⟨rfl, hbb⟩
    have hbX : Hid (Below W4.heap.size W4 wb) := hid (hbX.out.trans (hbb.mono hbX.out.size))
    clear hbb
    refine hK.out _ _ ?_ (fun hHeld => ?_)
    · exact hkeep.out _ hbX.out
    clear hK K
    (try simp only [Act.put, List.setIfInBounds_toArray, List.set_cons_zero, List.set_cons_succ, List.getElem_toArray, List.getElem_cons_zero, List.getElem_cons_succ])
    refine wpAnyH_ready (rs := [9]) (by kernel_rfl) (by simp) ?_
    refine AllReadyH.cons rfl (fun K hK => ?_) AllReadyH.nil
    rw [if_pos (by rfl)]
    go_simp
    refine (rword2_any _ _).mono ?_
    rintro e wb ⟨rfl, hbb⟩
    have hbX : Hid (Below W4.heap.size W4 wb) := hid (hbX.out.trans (hbb.mono hbX.out.size))
    clear hbb
    refine hK.out _ _ ?_ (fun hHeld => ?_)
    · exact hkeep.out _ hbX.out
    clear hK K
    (try simp only [Act.put, List.setIfInBounds_toArray, List.set_cons_zero, List.set_cons_succ, List.getElem_toArray, List.getElem_cons_zero, List.getElem_cons_succ])
    refine wpAnyH_take (i := 10) (v := ?v35) rfl (by kernel_rfl) (by kernel_rfl) (by kernel_rfl) (fun _ _ _ h => h) (Or.inl ⟨by rfl, ?hy35⟩) (by assumption) ?rest35
    case hy35 => intro w hSw; (try dsimp only at hSw); go_simp; try with_reducible rfl
    (try simp only [Act.put, List.setIfInBounds_toArray, List.set_cons_zero, List.set_cons_succ, List.getElem_toArray, List.getElem_cons_zero, List.getElem_cons_succ])
    refine wpAnyH_take (i := 11) (v := ?v36) rfl (by kernel_rfl) (by kernel_rfl) (by kernel_rfl) (fun _ _ _ h => h) (Or.inl ⟨by rfl, ?hy36⟩) (by assumption) ?rest36
    case hy36 => intro w hSw; (try dsimp only at hSw); go_simp; try with_reducible rfl
    (try simp only [Act.put, List.setIfInBounds_toArray, List.set_cons_zero, List.set_cons_succ, List.getElem_toArray, List.getElem_cons_zero, List.getElem_cons_succ])
    refine wpAnyH_take (i := 12) (v := ?v37) rfl (by kernel_rfl) (by kernel_rfl) (by kernel_rfl) (fun _ _ _ h => h) (Or.inl ⟨by rfl, ?hy37⟩) (by assumption) ?rest37
    case hy37 => intro w hSw; (try dsimp only at hSw); go_simp; try with_reducible rfl
    (try simp only [Act.put, List.setIfInBounds_toArray, List.set_cons_zero, List.set_cons_succ, List.getElem_toArray, List.getElem_cons_zero, List.getElem_cons_succ])
    refine wpAnyH_take (i := 13) (v := ?v38) rfl (by kernel_rfl) (by kernel_rfl) (by kernel_rfl) (fun _ _ _ h => h) (Or.inl ⟨by rfl, ?hy38⟩) (by assumption) ?rest38
    case hy38 => intro w hSw; (try dsimp only at hSw); go_simp; try with_reducible rfl
    (try simp only [Act.put, List.setIfInBounds_toArray, List.set_cons_zero, List.set_cons_succ, List.getElem_toArray, List.getElem_cons_zero, List.getElem_cons_succ])
    refine wpAnyH_take (i := 15) (v := ?v39) rfl (by kernel_rfl) (by kernel_rfl) (by kernel_rfl) (fun _ _ _ h => h) (Or.inl ⟨by rfl, ?hy39⟩) (by assumption) ?rest39
    case hy39 => intro w hSw; (try dsimp only at hSw); go_simp; try with_reducible rfl
    (try simp only [Act.put, List.setIfInBounds_toArray, List.set_cons_zero, List.set_cons_succ, List.getElem_toArray, List.getElem_cons_zero, List.getElem_cons_succ])
    refine wpAnyH_ready (rs := [14]) (by kernel_rfl) (by simp) ?_
    refine AllReadyH.cons rfl (fun K hK => ?_) AllReadyH.nil
    rw [if_pos (by rfl)]
    go_simp
    refine (hva.out _).mono ?_
    rintro e wb ⟨rfl, hbb⟩
    have hbX : Hid (Below W4.heap.size W4 wb) := hid (hbX.out.trans (hbb.mono hbX.out.size))
    clear hbb
    refine hK.out _ _ ?_ (fun hHeld => ?_)
    · exact hkeep.out _ hbX.out
    clear hK K
    (try simp only [Act.put, List.setIfInBounds_toArray, List.set_cons_zero, List.set_cons_succ, List.getElem_toArray, List.getElem_cons_zero, List.getElem_cons_succ])
    refine wpAnyH_ready (rs := [16]) (by kernel_rfl) (by simp) ?_
    refine AllReadyH.cons rfl (fun K hK => ?_) AllReadyH.nil
    rw [if_pos (by rfl)]
    go_simp
    refine (hrva.out _).mono ?_
    rintro e wb ⟨rfl, hbb⟩
    have hbX : Hid (Below W4.heap.size W4 wb) := hid (hbX.out.trans (hbb.mono hbX.out.size))
    clear hbb
    refine hK.out _ _ ?_ (fun hHeld => ?_)
    · exact hkeep.out _ hbX.out
    clear hK K
    (try simp only [Act.put, List.setIfInBounds_toArray, List.set_cons_zero, List.set_cons_succ, List.getElem_toArray, List.getElem_cons_zero, List.getElem_cons_succ])
    refine wpAnyH_take (i := 17) (v := ?v40) rfl (by kernel_rfl) (by kernel_rfl) (by kernel_rfl) (fun _ _ _ h => h) (Or.inl ⟨by rfl, ?hy40⟩) (by assumption) ?rest40
    case hy40 => intro w hSw; (try dsimp only at hSw); go_simp; try with_reducible rfl
    (try simp only [Act.put, List.setIfInBounds_toArray, List.set_cons_zero, List.set_cons_succ, List.getElem_toArray, List.getElem_cons_zero, List.getElem_cons_succ])
    refine wpAnyH_take (i := 18) (v := ?v41) rfl (by kernel_rfl) (by kernel_rfl) (by kernel_rfl) (fun _ _ _ h => h) (Or.inl ⟨by rfl, ?hy41⟩) (by assumption) ?rest41
    case hy41 => intro w hSw; (try dsimp only at hSw); go_simp; try with_reducible rfl
    (try simp only [Act.put, List.setIfInBounds_toArray, List.set_cons_zero, List.set_cons_succ, List.getElem_toArray, List.getElem_cons_zero, List.getElem_cons_succ])
    refine wpAnyH_take (i := 19) (v := ?v42) rfl (by kernel_rfl) (by kernel_rfl) (by kernel_rfl) (fun _ _ _ h => h) (Or.inl ⟨by rfl, ?hy42⟩) (by assumption) ?rest42
    case hy42 => intro w hSw; (try dsimp only at hSw); go_simp; try with_reducible rfl
    (try simp only [Act.put, List.setIfInBounds_toArray, List.set_cons_zero, List.set_cons_succ, List.getElem_toArray, List.getElem_cons_zero, List.getElem_cons_succ])
    refine wpAnyH_take (i := 20) (v := ?v43) rfl (by kernel_rfl) (by kernel_rfl) (by kernel_rfl) (fun _ _ _ h => h) (Or.inl ⟨by rfl, ?hy43⟩) (by assumption) ?rest43
    case hy43 => intro w hSw; (try dsimp only at hSw); go_simp; try with_reducible rfl
    (try simp only [Act.put, List.setIfInBounds_toArray, List.set_cons_zero, List.set_cons_succ, List.getElem_toArray, List.getElem_cons_zero, List.getElem_cons_succ])
    refine wpAnyH_take (i := 21) (v := ?v44) rfl (by kernel_rfl) (by kernel_rfl) (by kernel_rfl) (fun _ _ _ h => h) (Or.inl ⟨by rfl, ?hy44⟩) (by assumption) ?rest44
    case hy44 => intro w hSw; (try dsimp only at hSw); go_simp; try with_reducible rfl
    (try simp only [Act.put, List.setIfInBounds_toArray, List.set_cons_zero, List.set_cons_succ, List.getElem_toArray, List.getElem_cons_zero, List.getElem_cons_succ])
    refine wpAnyH_take (i := 23) (v := ?v45) rfl (by kernel_rfl) (by kernel_rfl) (by kernel_rfl) (fun _ _ _ h => h) (Or.inl ⟨by rfl, ?hy45⟩) (by assumption) ?rest45
    case hy45 => intro w hSw; (try dsimp only at hSw); go_simp; try with_reducible rfl
    (try simp only [Act.put, List.setIfInBounds_toArray, List.set_cons_zero, List.set_cons_succ, List.getElem_toArray, List.getElem_cons_zero, List.getElem_cons_succ])
    refine wpAnyH_take (i := 24) (v := ?v46) rfl (by kernel_rfl) (by kernel_rfl) (by kernel_rfl) (fun _ _ _ h => h) (Or.inl ⟨by rfl, ?hy46⟩) (by assumption) ?rest46
    case hy46 => intro w hSw; (try dsimp only at hSw); go_simp; try with_reducible rfl
    (try simp only [Act.put, List.setIfInBounds_toArray, List.set_cons_zero, List.set_cons_succ, List.getElem_toArray, List.getElem_cons_zero, List.getElem_cons_succ])
    refine wpAnyH_ready (rs := [22]) (by kernel_rfl) (by simp) ?_
    refine AllReadyH.cons rfl (fun K hK => ?_) AllReadyH.nil
    rw [if_pos (by rfl)]
    go_simp
    refine (hcm.out _).mono ?_
    rintro e wb ⟨rfl, hbb⟩
    have hbX : Hid (Below W4.heap.size W4 wb) := hid (hbX.out.trans (hbb.mono hbX.out.size))
    clear hbb
    refine hK.out _ _ ?_ (fun hHeld => ?_)
    · exact hkeep.out _ hbX.out
    clear hK K
    (try simp only [Act.put, List.setIfInBounds_toArray, List.set_cons_zero, List.set_cons_succ, List.getElem_toArray, List.getElem_cons_zero, List.getElem_cons_succ])
    refine wpAnyH_ready (rs := [25]) (by kernel_rfl) (by simp) ?_
    refine AllReadyH.cons rfl (fun K hK => ?_) AllReadyH.nil
    rw [if_pos (by rfl)]
    go_simp
    refine (hrcm.out _).mono ?_
    rintro e wb ⟨rfl, hbb⟩
    have hbX : Hid (Below W4.heap.size W4 wb) := hid (hbX.out.trans (hbb.mono hbX.out.size))
    clear hbb
    refine hK.out _ _ ?_ (fun hHeld => ?_)
    · exact hkeep.out _ hbX.out
    clear hK K
    (try simp only [Act.put, List.setIfInBounds_toArray, List.set_cons_zero, List.set_cons_succ, List.getElem_toArray, List.getElem_cons_zero, List.getElem_cons_succ])
    refine wpAnyH_take (i := 26) (v := ?v47) rfl (by kernel_rfl) (by kernel_rfl) (by kernel_rfl) (fun _ _ _ h => h) (Or.inl ⟨by rfl, ?hy47⟩) (by assumption) ?rest47
    case hy47 => intro w hSw; (try dsimp only at hSw); go_simp; try with_reducible rfl
    (try simp only [Act.put, List.setIfInBounds_toArray, List.set_cons_zero, List.set_cons_succ, List.getElem_toArray, List.getElem_cons_zero, List.getElem_cons_succ])
    refine wpAnyH_take (i := 27) (v := ?v48) rfl (by kernel_rfl) (by kernel_rfl) (by kernel_rfl) (fun _ _ _ h => h) (Or.inl ⟨by rfl, ?hy48⟩) (by assumption) ?rest48
    case hy48 => intro w hSw; (try dsimp only at hSw); go_simp; try with_reducible rfl
    (try simp only [Act.put, List.setIfInBounds_toArray, List.set_cons_zero, List.set_cons_succ, List.getElem_toArray, List.getElem_cons_zero, List.getElem_cons_succ])
    refine wpAnyH_take (i := 28) (v := ?v49) rfl (by kernel_rfl) (by kernel_rfl) (by kernel_rfl) (fun _ _ _ h => h) (Or.inl ⟨by rfl, ?hy49⟩) (by assumption) ?rest49
    case hy49 => intro w hSw; (try dsimp only at hSw); go_simp; try with_reducible rfl
    (try simp only [Act.put, List.setIfInBounds_toArray, List.set_cons_zero, List.set_cons_succ, List.getElem_toArray, List.getElem_cons_zero, List.getElem_cons_succ])
    refine wpAnyH_take (i := 29) (v := ?v50) rfl (by kernel_rfl) (by kernel_rfl) (by kernel_rfl) (fun _ _ _ h => h) (Or.inl ⟨by rfl, ?hy50⟩) (by assumption) ?rest50
    case hy50 => intro w hSw; (try dsimp only at hSw); go_simp; try with_reducible rfl
    (try simp only [Act.put, List.setIfInBounds_toArray, List.set_cons_zero, List.set_cons_succ, List.getElem_toArray, List.getElem_cons_zero, List.getElem_cons_succ])
    refine wpAnyH_take (i := 30) (v := ?v51) rfl (by kernel_rfl) (by kernel_rfl) (by kernel_rfl) (fun _ _ _ h => h) (Or.inl ⟨by rfl, ?hy51⟩) (by assumption) ?rest51
    case hy51 => intro w hSw; (try dsimp only at hSw); go_simp; try with_reducible rfl
    (try simp only [Act.put, List.setIfInBounds_toArray, List.set_cons_zero, List.set_cons_succ, List.getElem_toArray, List.getElem_cons_zero, List.getElem_cons_succ])
    refine wpAnyH_take (i := 32) (v := ?v52) rfl (by kernel_rfl) (by kernel_rfl) (by kernel_rfl) (fun _ _ _ h => h) (Or.inl ⟨by rfl, ?hy52⟩) (by assumption) ?rest52
    case hy52 => intro w hSw; (try dsimp only at hSw); go_simp; try with_reducible rfl
    (try simp only [Act.put, List.setIfInBounds_toArray, List.set_cons_zero, List.set_cons_succ, List.getElem_toArray, List.getElem_cons_zero, List.getElem_cons_succ])
    refine wpAnyH_take (i := 33) (v := ?v53) rfl (by kernel_rfl) (by kernel_rfl) (by kernel_rfl) (fun _ _ _ h => h) (Or.inl ⟨by rfl, ?hy53⟩) (by assumption) ?rest53
    case hy53 => intro w hSw; (try dsimp only at hSw); go_simp; try with_reducible rfl
    (try simp only [Act.put, List.setIfInBounds_toArray, List.set_cons_zero, List.set_cons_succ, List.getElem_toArray, List.getElem_cons_zero, List.getElem_cons_succ])
    refine wpAnyH_ready (rs := [31]) (by kernel_rfl) (by simp) ?_
    refine AllReadyH.cons rfl (fun K hK => ?_) AllReadyH.nil
    rw [if_pos (by rfl)]
    go_simp
    refine (heqc.out _).mono ?_
    rintro e wb ⟨rfl, hbb⟩
    have hbX : Hid (Below W4.heap.size W4 wb) := hid (hbX.out.trans (hbb.mono hbX.out.size))
    clear hbb
    refine hK.out _ _ ?_ (fun hHeld => ?_)
    · exact hkeep.out _ hbX.out
    clear hK K
    (try simp only [Act.put, List.setIfInBounds_toArray, List.set_cons_zero, List.set_cons_succ, List.getElem_toArray, List.getElem_cons_zero, List.getElem_cons_succ])
    refine wpAnyH_ready (rs := [34]) (by kernel_rfl) (by simp) ?_
    refine AllReadyH.cons rfl (fun K hK => ?_) AllReadyH.nil
    rw [if_pos (by rfl)]
    go_simp
    refine (hrcm.out _).mono ?_
    rintro e wb ⟨rfl, hbb⟩
    have hbX : Hid (Below W4.heap.size W4 wb) := hid (hbX.out.trans (hbb.mono hbX.out.size))
    clear hbb
    refine hK.out _ _ ?_ (fun hHeld => ?_)
    · exact hkeep.out _ hbX.out
    clear hK K
    (try simp only [Act.put, List.setIfInBounds_toArray, List.set_cons_zero, List.set_cons_succ, List.getElem_toArray, List.getElem_cons_zero, List.getElem_cons_succ])
    refine wpAnyH_take (i := 35) (v := ?v54) rfl (by kernel_rfl) (by kernel_rfl) (by kernel_rfl) (fun _ _ _ h => h) (Or.inl ⟨by rfl, ?hy54⟩) (by assumption) ?rest54
    case hy54 => intro w hSw; (try dsimp only at hSw); go_simp; try with_reducible rfl
    (try simp only [Act.put, List.setIfInBounds_toArray, List.set_cons_zero, List.set_cons_succ, List.getElem_toArray, List.getElem_cons_zero, List.getElem_cons_succ])
    refine wpAnyH_take (i := 36) (v := ?v55) rfl (by kernel_rfl) (by kernel_rfl) (by kernel_rfl) (fun _ _ _ h => h) (Or.inl ⟨by rfl, ?hy55⟩) (by assumption) ?rest55
    case hy55 => intro w hSw; (try dsimp only at hSw); go_simp; try with_reducible rfl
    (try simp only [Act.put, List.setIfInBounds_toArray, List.set_cons_zero, List.set_cons_succ, List.getElem_toArray, List.getElem_cons_zero, List.getElem_cons_succ])
    refine wpAnyH_take (i := 37) (v := ?v56) rfl (by kernel_rfl) (by kernel_rfl) (by kernel_rfl) (fun _ _ _ h => h) (Or.inl ⟨by rfl, ?hy56⟩) (by assumption) ?rest56
    case hy56 => intro w hSw; (try dsimp only at hSw); go_simp; try with_reducible rfl
    (try simp only [Act.put, List.setIfInBounds_toArray, List.set_cons_zero, List.set_cons_succ, List.getElem_toArray, List.getElem_cons_zero, List.getElem_cons_succ])
    refine wpAnyH_done (by kernel_rfl) ?_ _
    clear hn1 hn2 hgd
    go_wp2_with (first
      | (go_at_call 17; refine (num_any _ _).mono ?_; rintro e wm ⟨rfl, hwq⟩; obtain rfl := hwq.symm)
      | (go_at_call 38; refine (hdg.out _ (he4.out.below hbX.out)).mono ?_; rintro e wd ⟨rfl, hbq⟩; have hbX : Hid (Below W4.heap.size W4 wd) := hid (hbX.out.trans (hbq.mono hbX.out.size)); clear hbq)
      | (go_at_call 39; refine (hrdg.out _).mono ?_; rintro e wm ⟨rfl, hwq⟩; obtain rfl := hwq.symm)
      | (go_at_call 14; refine (live_any _ (he4.out.below hbX.out)).mono ?_; rintro e wl ⟨rfl, hbq⟩; have hbX : Hid (Below W4.heap.size W4 wl) := hid (hbX.out.trans (hbq.mono hbX.out.size)); clear hbq))
    go_ret
    exact ⟨rfl, hbW4.out.trans (hbX.out.mono hbW4.out.size)⟩


end Go.Proofs.YtbnpidmlcjofiaaDoor

/- value: ValueLeast: the walk. -/
import Derived.Test.YtbnpidmlcjofiaaDoorZLeast
import Derived.Deep.RegionHeld3
namespace Go.Proofs.YtbnpidmlcjofiaaDoor
open Go.RowKit
set_option linter.unusedVariables false
set_option linter.unusedSimpArgs false

theorem info_vl : (Tryd.prog.info? 24).map (fun i => (i.zero, i.size, i.bytes)) = some (some (.agg #[.int .i64 0, .int .i64 0, .string ⟨#[]⟩]), 3, 32) := by kernel_rfl
theorem vcells_one (l : List Vl) : ∀ u ∈ vcells l, u.oneCell' = true := by
  intro u hu
  unfold vcells at hu
  obtain ⟨v, _, hv⟩ := List.mem_flatMap.1 hu
  unfold Vl.cells at hv
  simp at hv
  rcases hv with rfl | rfl | rfl <;> rfl
theorem vcells_snoc (l : List Vl) (v : Vl) : vcells (l ++ [v]) = vcells l ++ v.cells := by unfold vcells; simp
theorem Rd.vfront {S : Nat → Prop} {w : World} {A : Option Addr} {l m : List Vl} (h : Rd S w 3 A (l ++ m).length (vcells (l ++ m))) : Rd S w 3 A l.length (vcells l) := by
  refine ⟨?_, fun hn => ?_⟩
  · unfold vcells; rw [flat_length Vl.cells 3 (fun _ => rfl)]
  · obtain ⟨b, o, e, hS, hb, hc⟩ := h.2 (by rw [List.length_append]; omega)
    refine ⟨b, o, e, hS, hb, fun j u hu => hc j u ?_⟩
    have hj := (List.getElem?_eq_some_iff.1 hu).1
    have e : vcells (l ++ m) = vcells l ++ vcells m := by unfold vcells; rw [List.flatMap_append]
    rw [e, List.getElem?_append_left hj]
    exact hu

set_option maxRecDepth 100000 in
set_option maxHeartbeats 8000000 in
theorem least_walk (A0 : Option Addr) (c0 : Nat) (l : List Vl) (w : World) (ha : Rd (fun b => b < w.heap.size) w 3 A0 l.length (vcells l)) (hl : l.length * 32 ≤ 140737488351232) (he : Env w) : Calls Tryd.prog 10 #[.slice A0 l.length c0] w fun e w' => e = .returned (.bool true) ∧ Below w.heap.size w w' := by
  obtain ⟨ib, hu0, hu1, hu2, hu3⟩ := info_parts info_vl
  have hB := hid (Below.refl w.heap.size w)
  have hA := hid ha; have hev := hid he
  have hb9 := hid hl
  have hl9 : (l.length : Int) ≤ 4398046510976 := by omega
  clear ha hl he
  go_enter Tryd.func10, Tryd.ntmps10
  go_upto_region 2 with (first
    | (at_builtin
       refine wpList_copy_rd w rfl (.tmp 9) (.tmp 10) 68 rfl 24 ib _ 3 32 Tryd.underlying68 hu0 hu1 hu2 hu3 rfl (by omega) w.heap.size rfl rfl _ A0 l.length c0 (vcells l) rfl hA.out (vcells_one l) (by have := hb9.out; simp only [maxLen]; omega) (by have := hb9.out; omega) ?_
       intro Y1 y1 wa howna hba
       have howa := hid howna; have hbwa := hid hba
       clear howna hba)
    | (at_builtin
       have hgate := howa
       clear hgate
       refine wpList_append_rd _ rfl (.tmp 11) (.tmp 13) 68 rfl w.heap.size 24 ib _ 3 32 Tryd.underlying68 hu0 hu1 hu2 hu3 rfl (by omega) (.slice Y1 l.length y1) l.length (vcells l) rfl (own_below howa.out ((Below.refl _ _).alloc (Nat.le_refl _) _)) (fun b => b = wa.heap.size) (some ⟨wa.heap.size, 0, none⟩) 1 1 (⟨9, 0, ⟨#[]⟩⟩ : Vl).cells rfl (Rd.new wa 24 3 1 #[.int .i64 9, .int .i64 0, .string ⟨#[]⟩] _ rfl rfl) (by intro u hu; unfold Vl.cells at hu; simp at hu; rcases hu with rfl | rfl | rfl <;> rfl) (by have := hb9.out; simp only [maxLen]; omega) (by have := hb9.out; omega) (by have := hbwa.out.size; simp; omega) ?_
       intro v9 w6 hown9 hg9 hat9
       obtain ⟨A6, c6, rfl, hc6, hm6⟩ := own_form hown9
       have hb0 : Below w.heap.size w w6 := (hbwa.out.alloc hbwa.out.size (.cells #[.int .i64 9, .int .i64 0, .string ⟨#[]⟩] 24)).grown hg9 (Nat.le_trans hbwa.out.size (by simp)) (fun k hk => (howa.out.lt k hk).1)
       have hG0 : Hid (w6.ownsRow w.heap.size 24 3 (.slice A6 (l ++ [(⟨9, 0, ⟨#[]⟩⟩ : Vl)]).length c6) (l ++ [(⟨9, 0, ⟨#[]⟩⟩ : Vl)]).length (vcells (l ++ [(⟨9, 0, ⟨#[]⟩⟩ : Vl)]))) := hid (by
         have e1 : (l ++ [(⟨9, 0, ⟨#[]⟩⟩ : Vl)]).length = l.length + 1 := by simp
         rw [e1, vcells_snoc]; exact hown9)
       have hbw := hid hb0
       have hcc6 := hid hc6
       have hcm6 := hid hm6
       clear hown9 hg9 hat9 hb0 howa hbwa hc6 hm6))
  have hB := hid hbw.out
  have hA := hid (hA.out.below_all hbw.out)
  have hev := hid (hev.out.below hbw.out)
  obtain ⟨g6, hA6e⟩ : ∃ g, A6 = some ⟨g, 0, none⟩ := by
    obtain ⟨g, cap, hv, h1, _⟩ := hG0.out.form (by simp)
    exact ⟨g, by injection hv⟩
  subst hA6e
  have hG : Hid (Rd (fun b => b < w6.heap.size) w6 3 (some ⟨g6, 0, none⟩) (l ++ [(⟨9, 0, ⟨#[]⟩⟩ : Vl)]).length (vcells (l ++ [(⟨9, 0, ⟨#[]⟩⟩ : Vl)]))) := hid ((Rd.of_own' hG0.out).more fun b hS hb => hb)
  have i7 : (l.length : Int) ≤ (c6 : Int) := by have := hcc6.out; omega
  have i8 : ¬ c6 = 0 := by have := hcc6.out; omega
  have i9 : (l.length : Int) < (l.length : Int) + 1 := by omega
  clear hG0 hbw
  obtain ⟨u, ok, hu⟩ : ∃ u ok, leastR l = (u, ok) := ⟨_, _, rfl⟩
  have hls := hid (least_any (some ⟨g6, 0, none⟩) c6 l w6 (Rd.vfront hG.out) (by have := hcc6.out; omega) (by have := hb9.out; omega) (by have := hcm6.out; simp only [maxLen] at this; omega))
  rw [hu] at hls
  go_wp2_with fail
  refine hls.out.mono ?_
  rintro e w7 ⟨rfl, hb7⟩
  clear hls
  have hB := hid (hB.out.trans (hb7.mono hB.out.size))
  have hA := hid (hA.out.below_all hb7)
  have hev := hid (hev.out.below hb7)
  have hG := hid (hG.out.below_all hb7)
  clear hb7
  go_upto_region 3 with fail
  have hb8 : Below w7.heap.size w7 (w7.alloc (.cells #[.int .i64 u.k, .int .i64 u.n, .string u.s] 24)) := (Below.refl _ _).alloc (Nat.le_refl _) _
  have kv : Hid (Blk (w7.alloc (.cells #[.int .i64 u.k, .int .i64 u.n, .string u.s] 24)) w7.heap.size 24 #[.int .i64 u.k, .int .i64 u.n, .string u.s]) := hid (Blk.new w7 _ _)
  have hB := hid (hB.out.trans (hb8.mono hB.out.size))
  have hA := hid (hA.out.below_all hb8)
  have hev := hid (hev.out.below hb8)
  have hG := hid (hG.out.below_all hb8)
  clear hb8
  obtain ⟨p, hp⟩ : ∃ p, p = w7.heap.size := ⟨_, rfl⟩
  rw [← hp] at kv
  simp only [← hp]
  generalize w7.alloc (.cells #[.int .i64 u.k, .int .i64 u.n, .string u.s] 24) = w8 at *
  clear hp
  have hrl := hid (rleast_any A0 c0 l w8 (hA.out.more fun b hS hb => hb) (by have := hb9.out; omega))
  rw [hu] at hrl
  go_wp2_with fail
  refine hrl.out.mono ?_
  rintro e w9 ⟨rfl, hb9'⟩
  clear hrl
  have hB := hid (hB.out.trans (hb9'.mono hB.out.size))
  have hA := hid (hA.out.below_all hb9')
  have hev := hid (hev.out.below hb9')
  have hG := hid (hG.out.below_all hb9')
  have kv := hid (kv.out.below_all hb9')
  clear hb9'
  go_upto_region 4 with fail
  have hb8 : Below w9.heap.size w9 (w9.alloc (.cells #[.int .i64 u.k, .int .i64 u.n, .string u.s] 24)) := (Below.refl _ _).alloc (Nat.le_refl _) _
  have kz : Hid (Blk (w9.alloc (.cells #[.int .i64 u.k, .int .i64 u.n, .string u.s] 24)) w9.heap.size 24 #[.int .i64 u.k, .int .i64 u.n, .string u.s]) := hid (Blk.new w9 _ _)
  have hB := hid (hB.out.trans (hb8.mono hB.out.size))
  have hA := hid (hA.out.below_all hb8)
  have hev := hid (hev.out.below hb8)
  have hG := hid (hG.out.below_all hb8)
  have kv := hid (kv.out.below_all hb8)
  clear hb8
  obtain ⟨q, hq⟩ : ∃ q, q = w9.heap.size := ⟨_, rfl⟩
  rw [← hq] at kz
  simp only [← hq]
  generalize w9.alloc (.cells #[.int .i64 u.k, .int .i64 u.n, .string u.s] 24) = wt at *
  clear hq
  go_wp2_with fail
  go_loopw [8] (fun v8 wr => ∃ k : Nat, v8 = .int .i64 k ∧ k ≤ l.length ∧ Below wt.heap.size wt wr) (fun v8 _ => l.length - (intOf v8).toNat)
  case atStart => exact ⟨0, rfl, Nat.zero_le _, Below.refl _ _⟩
  case round =>
    obtain ⟨k, rfl, hk, hwr⟩ := hrel
    have hwB := hid hwr
    clear hwr
    by_cases hlt : k < l.length
    · have i1 : (k : Int) < (l.length : Int) := by omega
      have i2 : (k : Int) < (l.length : Int) + 1 := by omega
      have i3 : (k : Int) ≤ 4398046510976 := by omega
      obtain ⟨b, o, hAe, hb, x0, x1, x2⟩ := Rd.val_at (hA.out.below_all hwB.out) (k := k) hlt
      obtain ⟨b', o', hGe, hb', y0, y1, y2⟩ := Rd.val_at (hG.out.below_all hwB.out) (k := k) (by simp; omega)
      injection hGe with hGe
      injection hGe with e1 e2
      subst e1 e2
      rw [List.getElem_append_left hlt] at y0 y1 y2
      simp only [Nat.zero_add] at y0 y1 y2
      generalize hy : l[k] = y at *
      have hne := fun w => neq_vals y y w
      simp only [decide_true, Bool.not_true] at hne
      have hne9 := hid hne
      subst hAe
      have hkn := hid hlt
      clear hy hb hb' hlt hk hne
      go_upto_region 7 with fail
      go_quiet (fail)
      go_wp2_with fail
      refine ⟨⟨k + 1, by first | rfl | simp, hkn.out, hwB.out.trans ((((Upd.refl (fun _ => False) wr).drewN _).below (B := wr.heap.size) (Nat.le_refl _) fun b hb e => e.elim).mono hwB.out.size)⟩, ?_⟩
      simp [intOf]
      have := hkn.out; omega
    · have i1 : ¬ ((k : Int) < (l.length : Int)) := by omega
      clear hlt hk
      have hB := hid (hB.out.trans (hwB.out.mono hB.out.size))
      have hA := hid (hA.out.below_all hwB.out)
      have hev := hid (hev.out.below hwB.out)
      have hG := hid (hG.out.below_all hwB.out)
      have kv := hid (kv.out.below_all hwB.out)
      have kz := hid (kz.out.below_all hwB.out)

      have r9 : wr.cell? ⟨g6, l.length * 3, none⟩ = some (.int .i64 9) := by
        obtain ⟨b', o', hGe, hb', y0, -⟩ := Rd.val_at hG.out (k := l.length) (by simp)
        injection hGe with hGe
        injection hGe with e1 e2
        subst e1 e2
        simpa using y0
      have x0 := kv.out.cell 0
      have x1 := kv.out.cell 1
      have x2 := kv.out.cell 2
      have z0 := kz.out.cell 0
      have z1 := kz.out.cell 1
      have z2 := kz.out.cell 2
      try dsimp only at x0 x1 x2 z0 z1 z2
      have heq0 := fun w => eql_vals u u w
      simp only [decide_true] at heq0
      go_upto_region 9 with fail
      go_wp2_with fail
      refine (live_any _ hev.out).mono ?_
      rintro e wl ⟨rfl, hb1⟩
      have hB := hid (hB.out.trans (hb1.mono hB.out.size))
      clear hb1
      go_wp2_with fail
      go_ret
      exact ⟨rfl, hB.out⟩


end Go.Proofs.YtbnpidmlcjofiaaDoor

/- Texts of the proof, joined: GRCatch. -/
import Derived.Test.YtbgopicpdpkccaaJ12
import Derived.Test.YtbgopicpdpkccaaJ14
import Derived.Test.YtbgopicpdpkccaaJ15
namespace Go.Proofs.Ytbgopicpdpkccaa
open Go.RowKit
set_option linter.unusedVariables false
set_option linter.unusedSimpArgs false

theorem log_len (G : Gr) (n : Int) : ∃ p : Nat, (G.log n).length = p ∧ p ≤ 256 ∧ ((p = 256 ∧ G.lacks n = none) ∨ (p < 256 ∧ G.lacks n = some p)) := by
  obtain ⟨p, hp, he, ha, hs⟩ := logOf_form fun s => G.st n s
  refine ⟨p, ?_, hp, ?_⟩
  · show (logOf fun s => G.st n s).length = p
    rw [he]; simp
  · by_cases h : p = 256
    · subst h; exact .inl ⟨rfl, lacks_none ha⟩
    · have h2 : p < 256 := by omega
      exact .inr ⟨h2, lacks_some h2 ha (hs.resolve_left h)⟩
section
variable {S : Nat → Prop} {w w' : World} {r : Nat} {G : Gr}
theorem rcatch_far (n : Int) (h : RAt S w r G) (hn : n < 0 ∨ (G.nds.length : Int) ≤ n) : Calls Try.prog 50 #[.pointer (some ⟨r, 0, none⟩), .int .i64 n] w fun e w' => e = .returned (.bool false) ∧ Below w.heap.size w w' := by
  obtain ⟨An, cn, Am, cm, a, q⟩ := h
  have hth := hid (fun k => there_any n (q.below (below_drewN (Below.refl w.heap.size w) k)))
  rw [show decide (0 ≤ n ∧ n < (G.nds.length : Int)) = false from decide_eq_false (by omega)] at hth
  clear q
  go_enter Try.func50, Try.ntmps50
  go_wp2_with fail
  go_quiet ((go_at_call 65; exact Calls.quiet_of_same (hth.out _)))
  go_wp2_with fail
  go_ret
  exact ⟨rfl, below_drewN (Below.refl _ _) _⟩
set_option maxRecDepth 100000 in
set_option maxHeartbeats 1000000 in
theorem rcatch_down (i : Nat) (h : RAt S w r G) (hi : i < G.nds.length) (hu : (G.nd i).up = false) : Calls Try.prog 50 #[.pointer (some ⟨r, 0, none⟩), .int .i64 i] w fun e w' => e = .returned (.bool false) ∧ Below w.heap.size w w' := by
  obtain ⟨An, cn, Am, cm, a, q⟩ := h
  have hth := hid (fun k => there_any (i : Int) (q.below (below_drewN (Below.refl w.heap.size w) k)))
  rw [show decide (0 ≤ (i : Int) ∧ (i : Int) < (G.nds.length : Int)) = true from decide_eq_true (by omega)] at hth
  obtain ⟨n1, n2, _⟩ := q.nd i hi
  have xu : w.cell? ⟨a.nb i, 0, none⟩ = some (.bool false) := by have := n1.cell 0; rwa [hu] at this
  obtain ⟨pb, po, rfl, hpl, p0⟩ := q.ptr hi
  obtain ⟨c0, c1⟩ := q.cells
  have i1 : (i : Int) < (G.nds.length : Int) := by omega
  have i0 : (0 : Int) ≤ (i : Int) := by omega
  clear q n1 hu
  go_enter Try.func50, Try.ntmps50
  go_wp2_with fail
  go_quiet ((go_at_call 65; exact Calls.quiet_of_same (hth.out _)))
  go_wp2_with fail
  go_ret
  exact ⟨rfl, below_drewN (Below.refl _ _) _⟩
set_option maxRecDepth 100000 in
set_option maxHeartbeats 2000000 in
theorem rcatch_end (i : Nat) (h : RAt S w r G) (hi : i < G.nds.length) (hpe0 : G.lacks i = none) (hu : (G.nd i).up = true) (hl : G.mail.length ≤ 100000 ∧ G.nds.length ≤ 9) (hr : SRange G) (hf : SFew G) : Calls Try.prog 50 #[.pointer (some ⟨r, 0, none⟩), .int .i64 i] w fun e w' => e = .returned (.bool (G.catchB i)) ∧ RGo S w r (G.catch i) w' := by
  have hcB : Hid (G.catchB i = decide (G.mail.length + G.nds.length ≤ 4097 ∧ (G.lacks i).isSome)) := hid (by
    unfold Gr.catchB
    rw [Bool.eq_iff_iff]
    simp only [decide_eq_true_eq, Int.toNat_natCast, hu]
    exact ⟨fun h => h.2.2.2, fun h => ⟨by omega, by omega, trivial, h⟩⟩)
  have hcE : Hid (G.catch i = if G.mail.length + G.nds.length ≤ 4097 then (match G.lacks i with | none => G | some k => G.askTo i k G.nds.length) else G) := hid (by
    unfold Gr.catch
    by_cases h1 : G.mail.length + G.nds.length ≤ 4097
    · rw [if_pos ⟨by omega, by omega, by rw [Int.toNat_natCast]; exact hu, h1⟩, if_pos h1]
      cases G.lacks (i : Int) <;> rfl
    · rw [if_neg fun h => h1 h.2.2.2, if_neg h1])
  have hRA := hid h
  obtain ⟨An, cn, Am, cm, a, q⟩ := id h
  obtain ⟨n1, n2, _⟩ := q.nd i hi
  have xu : w.cell? ⟨a.nb i, 0, none⟩ = some (.bool true) := by have := n1.cell 0; rwa [hu] at this
  obtain ⟨pb, po, rfl, hpl, p0⟩ := q.ptr hi
  obtain ⟨c0, c1⟩ := q.cells
  have i1 : (i : Int) < (G.nds.length : Int) := by omega
  have i0 : (0 : Int) ≤ (i : Int) := by omega
  have hn9 : (G.nds.length : Int) ≤ 9 := by omega
  have hm9 : (G.mail.length : Int) ≤ 100000 := by omega
  have hw1 : IntKind.i64.wrap ((G.mail.length : Int) + G.nds.length) = (G.mail.length : Int) + G.nds.length := IntWalk.i64_in _ (by omega)
  have hw2 : IntKind.i64.wrap ((G.mail.length : Int) + G.nds.length - 1) = (G.mail.length : Int) + G.nds.length - 1 := IntWalk.i64_in _ (by omega)
  obtain ⟨p, hp0, hpl0, hpk0⟩ := log_len G i
  have hlog := hid (fun (w1 : World) (hb : Below w.heap.size w w1) => rlog_any (i : Int) (h.below hb) hr hf)
  have hth := hid (fun (w1 : World) (hb : Below w.heap.size w w1) => by
    have := there_any (i : Int) (q.below hb)
    rwa [decide_eq_true (⟨i0, i1⟩)] at this)
  have hkeep : Hid (∀ w' : World, Below w.heap.size w w' → w'.cell? ⟨r, 0, none⟩ = some (.slice (some ⟨pb, po, none⟩) G.nds.length cn) ∧ w'.cell? ⟨r, 1, none⟩ = some (.slice Am G.mail.length cm) ∧ w'.cell? ⟨pb, po + i, none⟩ = some (.pointer (some ⟨a.nb i, 0, none⟩)) ∧ w'.cell? ⟨a.nb i, 0, none⟩ = some (.bool true)) := hid fun w' hb => by
    have q' := q.below hb
    obtain ⟨n1', _⟩ := q'.nd i hi
    obtain ⟨c0', c1'⟩ := q'.cells
    obtain ⟨pb', po', e, _, p0'⟩ := q'.ptr hi
    injection e with e
    injection e with e1 e2
    subst e1 e2
    exact ⟨c0', c1', p0', by have := n1'.cell 0; rwa [hu] at this⟩
  have hpk := hid hpk0; have hp256 := hid hpl0
  rw [hp0] at hlog
  have hbX : Hid (Below w.heap.size w w.drew) := hid (Below.refl _ _).drew
  clear q n1 n2 hpl hp0 hpk0 hpl0 hu
  go_enter Try.func50, Try.ntmps50
  go_wp2_with fail
  have hpe : p = 256 := by
    rcases hpk.out with h | h
    · exact h.1
    · rw [h.2] at hpe0; cases hpe0
  clear hpe0
  have hlk : Hid (G.lacks i = none) := hid (by
    rcases hpk.out with h | h
    · exact h.2
    · omega)
  subst hpe
  refine wp_region_held_drew (S := fun w' => w'.cell? ⟨r, 0, none⟩ = some (.slice (some ⟨pb, po, none⟩) G.nds.length cn) ∧ w'.cell? ⟨r, 1, none⟩ = some (.slice Am G.mail.length cm) ∧ w'.cell? ⟨pb, po + i, none⟩ = some (.pointer (some ⟨a.nb i, 0, none⟩)) ∧ w'.cell? ⟨a.nb i, 0, none⟩ = some (.bool true)) (by kernel_rfl) ?_ (fun hHeld => ?_)
  · (first | exact hkeep.out _ hbX.out | exact hkeep.out _ (Below.refl _ _) | exact hkeep.out _ (Below.refl _ _).drew)
  refine wpAnyH_take (i := 0) (v := ?v0) rfl (by kernel_rfl) (by kernel_rfl) (by kernel_rfl) (fun _ _ _ h => h) (Or.inl ⟨by rfl, ?hy0⟩) (by assumption) ?rest0
  case hy0 => intro w hSw; (try dsimp only at hSw); go_simp; try with_reducible rfl
  (try simp only [Act.put, List.setIfInBounds_toArray, List.set_cons_zero, List.set_cons_succ, List.getElem_toArray, List.getElem_cons_zero, List.getElem_cons_succ])
  refine wpAnyH_take (i := 1) (v := ?v1) rfl (by kernel_rfl) (by kernel_rfl) (by kernel_rfl) (fun _ _ _ h => h) (Or.inl ⟨by rfl, ?hy1⟩) (by assumption) ?rest1
  case hy1 => intro w hSw; (try dsimp only at hSw); go_simp; try with_reducible rfl
  (try simp only [Act.put, List.setIfInBounds_toArray, List.set_cons_zero, List.set_cons_succ, List.getElem_toArray, List.getElem_cons_zero, List.getElem_cons_succ])
  refine wpAnyH_ready (rs := [2]) (by kernel_rfl) (by simp) ?_
  refine AllReadyH.cons rfl (fun K hK => ?_) AllReadyH.nil
  go_simp
  refine (hth.out _ hbX.out).mono ?_
  rintro e wa ⟨rfl, rfl⟩
  refine hK.out _ _ ?_ (fun hHeld => ?_)
  · (first | exact hkeep.out _ hbX.out | exact hkeep.out _ (Below.refl _ _) | exact hkeep.out _ (Below.refl _ _).drew)
  clear hK K
  (try simp only [Act.put, List.setIfInBounds_toArray, List.set_cons_zero, List.set_cons_succ, List.getElem_toArray, List.getElem_cons_zero, List.getElem_cons_succ])
  refine wpAnyH_take (i := 3) (v := ?v3) rfl (by kernel_rfl) (by kernel_rfl) (by kernel_rfl) (fun _ _ _ h => h) (Or.inl ⟨by rfl, ?hy3⟩) (by assumption) ?rest3
  case hy3 => intro w hSw; (try dsimp only at hSw); go_simp; try with_reducible rfl
  (try simp only [Act.put, List.setIfInBounds_toArray, List.set_cons_zero, List.set_cons_succ, List.getElem_toArray, List.getElem_cons_zero, List.getElem_cons_succ])
  refine wpAnyH_take (i := 4) (v := ?v4) rfl (by kernel_rfl) (by kernel_rfl) (by kernel_rfl) (fun _ _ _ h => h) (Or.inl ⟨by rfl, ?hy4⟩) (by assumption) ?rest4
  case hy4 => intro w hSw; (try dsimp only at hSw); go_simp; try with_reducible rfl
  (try simp only [Act.put, List.setIfInBounds_toArray, List.set_cons_zero, List.set_cons_succ, List.getElem_toArray, List.getElem_cons_zero, List.getElem_cons_succ])
  refine wpAnyH_take (i := 5) (v := ?v5) rfl (by kernel_rfl) (by kernel_rfl) (by kernel_rfl) (fun _ _ _ h => h) (Or.inl ⟨by rfl, ?hy5⟩) (by assumption) ?rest5
  case hy5 => intro w hSw; (try dsimp only at hSw); go_simp; try with_reducible rfl
  (try simp only [Act.put, List.setIfInBounds_toArray, List.set_cons_zero, List.set_cons_succ, List.getElem_toArray, List.getElem_cons_zero, List.getElem_cons_succ])
  refine wpAnyH_take (i := 6) (v := ?v6) rfl (by kernel_rfl) (by kernel_rfl) (by kernel_rfl) (fun _ _ _ h => h) (Or.inl ⟨by rfl, ?hy6⟩) (by assumption) ?rest6
  case hy6 => intro w hSw; (try dsimp only at hSw); go_simp; try with_reducible rfl
  (try simp only [Act.put, List.setIfInBounds_toArray, List.set_cons_zero, List.set_cons_succ, List.getElem_toArray, List.getElem_cons_zero, List.getElem_cons_succ])
  refine wpAnyH_take (i := 7) (v := ?v7) rfl (by kernel_rfl) (by kernel_rfl) (by kernel_rfl) (fun _ _ _ h => h) (Or.inl ⟨by rfl, ?hy7⟩) (by assumption) ?rest7
  case hy7 => intro w hSw; (try dsimp only at hSw); go_simp; try with_reducible rfl
  (try simp only [Act.put, List.setIfInBounds_toArray, List.set_cons_zero, List.set_cons_succ, List.getElem_toArray, List.getElem_cons_zero, List.getElem_cons_succ])
  refine wpAnyH_take (i := 8) (v := ?v8) rfl (by kernel_rfl) (by kernel_rfl) (by kernel_rfl) (fun _ _ _ h => h) (Or.inl ⟨by rfl, ?hy8⟩) (by assumption) ?rest8
  case hy8 => intro w hSw; (try dsimp only at hSw); go_simp; try with_reducible rfl
  (try simp only [Act.put, List.setIfInBounds_toArray, List.set_cons_zero, List.set_cons_succ, List.getElem_toArray, List.getElem_cons_zero, List.getElem_cons_succ])
  refine wpAnyH_take (i := 9) (v := ?v9) rfl (by kernel_rfl) (by kernel_rfl) (by kernel_rfl) (fun _ _ _ h => h) (Or.inl ⟨by rfl, ?hy9⟩) (by assumption) ?rest9
  case hy9 => intro w hSw; (try dsimp only at hSw); go_simp; try with_reducible rfl
  (try simp only [Act.put, List.setIfInBounds_toArray, List.set_cons_zero, List.set_cons_succ, List.getElem_toArray, List.getElem_cons_zero, List.getElem_cons_succ])
  refine wpAnyH_take (i := 10) (v := ?v10) rfl (by kernel_rfl) (by kernel_rfl) (by kernel_rfl) (fun _ _ _ h => h) (Or.inl ⟨by rfl, ?hy10⟩) (by assumption) ?rest10
  case hy10 => intro w hSw; (try dsimp only at hSw); go_simp; try with_reducible rfl
  (try simp only [Act.put, List.setIfInBounds_toArray, List.set_cons_zero, List.set_cons_succ, List.getElem_toArray, List.getElem_cons_zero, List.getElem_cons_succ])
  refine wpAnyH_take (i := 11) (v := ?v11) rfl (by kernel_rfl) (by kernel_rfl) (by kernel_rfl) (fun _ _ _ h => h) (Or.inl ⟨by rfl, ?hy11⟩) (by assumption) ?rest11
  case hy11 => intro w hSw; (try dsimp only at hSw); go_simp; try with_reducible rfl
  (try simp only [Act.put, List.setIfInBounds_toArray, List.set_cons_zero, List.set_cons_succ, List.getElem_toArray, List.getElem_cons_zero, List.getElem_cons_succ])
  refine wpAnyH_take (i := 12) (v := ?v12) rfl (by kernel_rfl) (by kernel_rfl) (by kernel_rfl) (fun _ _ _ h => h) (Or.inl ⟨by rfl, ?hy12⟩) (by assumption) ?rest12
  case hy12 => intro w hSw; (try dsimp only at hSw); go_simp; try with_reducible rfl
  (try simp only [Act.put, List.setIfInBounds_toArray, List.set_cons_zero, List.set_cons_succ, List.getElem_toArray, List.getElem_cons_zero, List.getElem_cons_succ])
  refine wpAnyH_take (i := 13) (v := ?v13) rfl (by kernel_rfl) (by kernel_rfl) (by kernel_rfl) (fun _ _ _ h => h) (Or.inl ⟨by rfl, ?hy13⟩) (by assumption) ?rest13
  case hy13 => intro w hSw; (try dsimp only at hSw); go_simp; try with_reducible rfl
  (try simp only [Act.put, List.setIfInBounds_toArray, List.set_cons_zero, List.set_cons_succ, List.getElem_toArray, List.getElem_cons_zero, List.getElem_cons_succ])
  refine wpAnyH_take (i := 14) (v := ?v14) rfl (by kernel_rfl) (by kernel_rfl) (by kernel_rfl) (fun _ _ _ h => h) (Or.inl ⟨by rfl, ?hy14⟩) (by assumption) ?rest14
  case hy14 => intro w hSw; (try dsimp only at hSw); go_simp; try with_reducible rfl
  (try simp only [Act.put, List.setIfInBounds_toArray, List.set_cons_zero, List.set_cons_succ, List.getElem_toArray, List.getElem_cons_zero, List.getElem_cons_succ])
  refine wpAnyH_take (i := 15) (v := ?v15) rfl (by kernel_rfl) (by kernel_rfl) (by kernel_rfl) (fun _ _ _ h => h) (Or.inl ⟨by rfl, ?hy15⟩) (by assumption) ?rest15
  case hy15 => intro w hSw; (try dsimp only at hSw); go_simp; try with_reducible rfl
  (try simp only [Act.put, List.setIfInBounds_toArray, List.set_cons_zero, List.set_cons_succ, List.getElem_toArray, List.getElem_cons_zero, List.getElem_cons_succ])
  refine wpAnyH_take (i := 16) (v := ?v16) rfl (by kernel_rfl) (by kernel_rfl) (by kernel_rfl) (fun _ _ _ h => h) (Or.inl ⟨by rfl, ?hy16⟩) (by assumption) ?rest16
  case hy16 => intro w hSw; (try dsimp only at hSw); go_simp; try with_reducible rfl
  (try simp only [Act.put, List.setIfInBounds_toArray, List.set_cons_zero, List.set_cons_succ, List.getElem_toArray, List.getElem_cons_zero, List.getElem_cons_succ])
  refine wpAnyH_take (i := 17) (v := ?v17) rfl (by kernel_rfl) (by kernel_rfl) (by kernel_rfl) (fun _ _ _ h => h) (Or.inl ⟨by rfl, ?hy17⟩) (by assumption) ?rest17
  case hy17 => intro w hSw; (try dsimp only at hSw); go_simp; try with_reducible rfl
  (try simp only [Act.put, List.setIfInBounds_toArray, List.set_cons_zero, List.set_cons_succ, List.getElem_toArray, List.getElem_cons_zero, List.getElem_cons_succ])
  refine wpAnyH_take (i := 18) (v := ?v18) rfl (by kernel_rfl) (by kernel_rfl) (by kernel_rfl) (fun _ _ _ h => h) (Or.inl ⟨by rfl, ?hy18⟩) (by assumption) ?rest18
  case hy18 => intro w hSw; (try dsimp only at hSw); go_simp; try with_reducible rfl
  (try simp only [Act.put, List.setIfInBounds_toArray, List.set_cons_zero, List.set_cons_succ, List.getElem_toArray, List.getElem_cons_zero, List.getElem_cons_succ])
  refine wpAnyH_take (i := 19) (v := ?v19) rfl (by kernel_rfl) (by kernel_rfl) (by kernel_rfl) (fun _ _ _ h => h) (Or.inl ⟨by rfl, ?hy19⟩) (by assumption) ?rest19
  case hy19 => intro w hSw; (try dsimp only at hSw); go_simp; try with_reducible rfl
  (try simp only [Act.put, List.setIfInBounds_toArray, List.set_cons_zero, List.set_cons_succ, List.getElem_toArray, List.getElem_cons_zero, List.getElem_cons_succ])
  refine wpAnyH_ready (rs := [20]) (by kernel_rfl) (by simp) ?_
  refine AllReadyH.cons rfl (fun K hK => ?_) AllReadyH.nil
  go_simp
  refine (hlog.out _ hbX.out).mono ?_
  rintro e wb ⟨v, rfl, hcl⟩
  obtain ⟨A, c, rfl, _⟩ := own_form hcl.1
  have hbX := hid (hbX.out.trans (hcl.2.mono hbX.out.size))
  clear hcl
  refine hK.out _ _ ?_ (fun hHeld => ?_)
  · (first | exact hkeep.out _ hbX.out | exact hkeep.out _ (Below.refl _ _) | exact hkeep.out _ (Below.refl _ _).drew)
  clear hK K
  (try simp only [Act.put, List.setIfInBounds_toArray, List.set_cons_zero, List.set_cons_succ, List.getElem_toArray, List.getElem_cons_zero, List.getElem_cons_succ])
  refine wpAnyH_take (i := 21) (v := ?v21) rfl (by kernel_rfl) (by kernel_rfl) (by kernel_rfl) (fun _ _ _ h => h) (Or.inl ⟨by rfl, ?hy21⟩) (by assumption) ?rest21
  case hy21 => intro w hSw; (try dsimp only at hSw); go_simp; try with_reducible rfl
  (try simp only [Act.put, List.setIfInBounds_toArray, List.set_cons_zero, List.set_cons_succ, List.getElem_toArray, List.getElem_cons_zero, List.getElem_cons_succ])
  refine wpAnyH_take (i := 22) (v := ?v22) rfl (by kernel_rfl) (by kernel_rfl) (by kernel_rfl) (fun _ _ _ h => h) (Or.inl ⟨by rfl, ?hy22⟩) (by assumption) ?rest22
  case hy22 => intro w hSw; (try dsimp only at hSw); go_simp; try with_reducible rfl
  (try simp only [Act.put, List.setIfInBounds_toArray, List.set_cons_zero, List.set_cons_succ, List.getElem_toArray, List.getElem_cons_zero, List.getElem_cons_succ])
  refine wpAnyH_take (i := 23) (v := ?v23) rfl (by kernel_rfl) (by kernel_rfl) (by kernel_rfl) (fun _ _ _ h => h) (Or.inl ⟨by rfl, ?hy23⟩) (by assumption) ?rest23
  case hy23 => intro w hSw; (try dsimp only at hSw); go_simp; try with_reducible rfl
  (try simp only [Act.put, List.setIfInBounds_toArray, List.set_cons_zero, List.set_cons_succ, List.getElem_toArray, List.getElem_cons_zero, List.getElem_cons_succ])
  refine wpAnyH_take (i := 24) (v := ?v24) rfl (by kernel_rfl) (by kernel_rfl) (by kernel_rfl) (fun _ _ _ h => h) (Or.inl ⟨by rfl, ?hy24⟩) (by assumption) ?rest24
  case hy24 => intro w hSw; (try dsimp only at hSw); go_simp; try with_reducible rfl
  (try simp only [Act.put, List.setIfInBounds_toArray, List.set_cons_zero, List.set_cons_succ, List.getElem_toArray, List.getElem_cons_zero, List.getElem_cons_succ])
  refine wpAnyH_take (i := 25) (v := undef) rfl (by kernel_rfl) (by kernel_rfl) (by kernel_rfl) (fun _ _ _ h => h) (Or.inr ⟨by rfl, rfl⟩) (by assumption) ?_
  (try simp only [Act.put, List.setIfInBounds_toArray, List.set_cons_zero, List.set_cons_succ, List.getElem_toArray, List.getElem_cons_zero, List.getElem_cons_succ])
  refine wpAnyH_take (i := 26) (v := undef) rfl (by kernel_rfl) (by kernel_rfl) (by kernel_rfl) (fun _ _ _ h => h) (Or.inr ⟨by rfl, rfl⟩) (by assumption) ?_
  (try simp only [Act.put, List.setIfInBounds_toArray, List.set_cons_zero, List.set_cons_succ, List.getElem_toArray, List.getElem_cons_zero, List.getElem_cons_succ])
  refine wpAnyH_take (i := 27) (v := undef) rfl (by kernel_rfl) (by kernel_rfl) (by kernel_rfl) (fun _ _ _ h => h) (Or.inr ⟨by rfl, rfl⟩) (by assumption) ?_
  (try simp only [Act.put, List.setIfInBounds_toArray, List.set_cons_zero, List.set_cons_succ, List.getElem_toArray, List.getElem_cons_zero, List.getElem_cons_succ])
  refine wpAnyH_take (i := 28) (v := undef) rfl (by kernel_rfl) (by kernel_rfl) (by kernel_rfl) (fun _ _ _ h => h) (Or.inr ⟨by rfl, rfl⟩) (by assumption) ?_
  (try simp only [Act.put, List.setIfInBounds_toArray, List.set_cons_zero, List.set_cons_succ, List.getElem_toArray, List.getElem_cons_zero, List.getElem_cons_succ])
  refine wpAnyH_take (i := 29) (v := undef) rfl (by kernel_rfl) (by kernel_rfl) (by kernel_rfl) (fun _ _ _ h => h) (Or.inr ⟨by rfl, rfl⟩) (by assumption) ?_
  (try simp only [Act.put, List.setIfInBounds_toArray, List.set_cons_zero, List.set_cons_succ, List.getElem_toArray, List.getElem_cons_zero, List.getElem_cons_succ])
  refine wpAnyH_take (i := 30) (v := undef) rfl (by kernel_rfl) (by kernel_rfl) (by kernel_rfl) (fun _ _ _ h => h) (Or.inr ⟨by rfl, rfl⟩) (by assumption) ?_
  (try simp only [Act.put, List.setIfInBounds_toArray, List.set_cons_zero, List.set_cons_succ, List.getElem_toArray, List.getElem_cons_zero, List.getElem_cons_succ])
  refine wpAnyH_take (i := 31) (v := undef) rfl (by kernel_rfl) (by kernel_rfl) (by kernel_rfl) (fun _ _ _ h => h) (Or.inr ⟨by rfl, rfl⟩) (by assumption) ?_
  (try simp only [Act.put, List.setIfInBounds_toArray, List.set_cons_zero, List.set_cons_succ, List.getElem_toArray, List.getElem_cons_zero, List.getElem_cons_succ])
  refine wpAnyH_take (i := 32) (v := undef) rfl (by kernel_rfl) (by kernel_rfl) (by kernel_rfl) (fun _ _ _ h => h) (Or.inr ⟨by rfl, rfl⟩) (by assumption) ?_
  (try simp only [Act.put, List.setIfInBounds_toArray, List.set_cons_zero, List.set_cons_succ, List.getElem_toArray, List.getElem_cons_zero, List.getElem_cons_succ])
  refine wpAnyH_take (i := 33) (v := undef) rfl (by kernel_rfl) (by kernel_rfl) (by kernel_rfl) (fun _ _ _ h => h) (Or.inr ⟨by rfl, rfl⟩) (by assumption) ?_
  (try simp only [Act.put, List.setIfInBounds_toArray, List.set_cons_zero, List.set_cons_succ, List.getElem_toArray, List.getElem_cons_zero, List.getElem_cons_succ])
  refine wpAnyH_take (i := 34) (v := undef) rfl (by kernel_rfl) (by kernel_rfl) (by kernel_rfl) (fun _ _ _ h => h) (Or.inr ⟨by rfl, rfl⟩) (by assumption) ?_
  (try simp only [Act.put, List.setIfInBounds_toArray, List.set_cons_zero, List.set_cons_succ, List.getElem_toArray, List.getElem_cons_zero, List.getElem_cons_succ])
  refine wpAnyH_take (i := 35) (v := undef) rfl (by kernel_rfl) (by kernel_rfl) (by kernel_rfl) (fun _ _ _ h => h) (Or.inr ⟨by rfl, rfl⟩) (by assumption) ?_
  (try simp only [Act.put, List.setIfInBounds_toArray, List.set_cons_zero, List.set_cons_succ, List.getElem_toArray, List.getElem_cons_zero, List.getElem_cons_succ])
  refine wpAnyH_take (i := 36) (v := undef) rfl (by kernel_rfl) (by kernel_rfl) (by kernel_rfl) (fun _ _ _ h => h) (Or.inr ⟨by rfl, rfl⟩) (by assumption) ?_
  (try simp only [Act.put, List.setIfInBounds_toArray, List.set_cons_zero, List.set_cons_succ, List.getElem_toArray, List.getElem_cons_zero, List.getElem_cons_succ])
  refine wpAnyH_take (i := 37) (v := undef) rfl (by kernel_rfl) (by kernel_rfl) (by kernel_rfl) (fun _ _ _ h => h) (Or.inr ⟨by rfl, rfl⟩) (by assumption) ?_
  (try simp only [Act.put, List.setIfInBounds_toArray, List.set_cons_zero, List.set_cons_succ, List.getElem_toArray, List.getElem_cons_zero, List.getElem_cons_succ])
  refine wpAnyH_take (i := 38) (v := ?v38) rfl (by kernel_rfl) (by kernel_rfl) (by kernel_rfl) (fun _ _ _ h => h) (Or.inl ⟨by rfl, ?hy38⟩) (by assumption) ?rest38
  case hy38 => intro w hSw; (try dsimp only at hSw); go_simp; try with_reducible rfl
  (try simp only [Act.put, List.setIfInBounds_toArray, List.set_cons_zero, List.set_cons_succ, List.getElem_toArray, List.getElem_cons_zero, List.getElem_cons_succ])
  refine wpAnyH_done (by kernel_rfl) ?_ _
  have hfin : Hid (RGo S w r (G.catch i) wb) := hid (by
    rw [hcE.out, hlk.out]
    split <;> exact RGo.of_below hRA.out hbX.out)
  have hfb : Hid (G.catchB i = false) := hid (by rw [hcB.out, hlk.out]; exact decide_eq_false fun h => by cases h.2)
  go_wp2_with fail
  go_ret
  rw [hfb.out]
  exact ⟨rfl, hfin.out⟩
set_option maxRecDepth 100000 in
set_option maxHeartbeats 4000000 in
theorem rcatch_yes (i : Nat) (h : RAt S w r G) (hi : i < G.nds.length) (hpe0 : (G.lacks i).isSome) (hfu : G.mail.length + G.nds.length ≤ 4097) (hu : (G.nd i).up = true) (hl : G.mail.length ≤ 100000 ∧ G.nds.length ≤ 9) (hr : SRange G) (hf : SFew G) : Calls Try.prog 50 #[.pointer (some ⟨r, 0, none⟩), .int .i64 i] w fun e w' => e = .returned (.bool (G.catchB i)) ∧ RGo S w r (G.catch i) w' := by
  have hcB : Hid (G.catchB i = decide (G.mail.length + G.nds.length ≤ 4097 ∧ (G.lacks i).isSome)) := hid (by
    unfold Gr.catchB
    rw [Bool.eq_iff_iff]
    simp only [decide_eq_true_eq, Int.toNat_natCast, hu]
    exact ⟨fun h => h.2.2.2, fun h => ⟨by omega, by omega, trivial, h⟩⟩)
  have hcE : Hid (G.catch i = if G.mail.length + G.nds.length ≤ 4097 then (match G.lacks i with | none => G | some k => G.askTo i k G.nds.length) else G) := hid (by
    unfold Gr.catch
    by_cases h1 : G.mail.length + G.nds.length ≤ 4097
    · rw [if_pos ⟨by omega, by omega, by rw [Int.toNat_natCast]; exact hu, h1⟩, if_pos h1]
      cases G.lacks (i : Int) <;> rfl
    · rw [if_neg fun h => h1 h.2.2.2, if_neg h1])
  have hRA := hid h
  obtain ⟨An, cn, Am, cm, a, q⟩ := id h
  obtain ⟨n1, n2, _⟩ := q.nd i hi
  have xu : w.cell? ⟨a.nb i, 0, none⟩ = some (.bool true) := by have := n1.cell 0; rwa [hu] at this
  obtain ⟨pb, po, rfl, hpl, p0⟩ := q.ptr hi
  obtain ⟨c0, c1⟩ := q.cells
  have i1 : (i : Int) < (G.nds.length : Int) := by omega
  have i0 : (0 : Int) ≤ (i : Int) := by omega
  have hn9 : (G.nds.length : Int) ≤ 9 := by omega
  have hm9 : (G.mail.length : Int) ≤ 100000 := by omega
  have hw1 : IntKind.i64.wrap ((G.mail.length : Int) + G.nds.length) = (G.mail.length : Int) + G.nds.length := IntWalk.i64_in _ (by omega)
  have hw2 : IntKind.i64.wrap ((G.mail.length : Int) + G.nds.length - 1) = (G.mail.length : Int) + G.nds.length - 1 := IntWalk.i64_in _ (by omega)
  obtain ⟨p, hp0, hpl0, hpk0⟩ := log_len G i
  have hlog := hid (fun (w1 : World) (hb : Below w.heap.size w w1) => rlog_any (i : Int) (h.below hb) hr hf)
  have hth := hid (fun (w1 : World) (hb : Below w.heap.size w w1) => by
    have := there_any (i : Int) (q.below hb)
    rwa [decide_eq_true (⟨i0, i1⟩)] at this)
  have hkeep : Hid (∀ w' : World, Below w.heap.size w w' → w'.cell? ⟨r, 0, none⟩ = some (.slice (some ⟨pb, po, none⟩) G.nds.length cn) ∧ w'.cell? ⟨r, 1, none⟩ = some (.slice Am G.mail.length cm) ∧ w'.cell? ⟨pb, po + i, none⟩ = some (.pointer (some ⟨a.nb i, 0, none⟩)) ∧ w'.cell? ⟨a.nb i, 0, none⟩ = some (.bool true)) := hid fun w' hb => by
    have q' := q.below hb
    obtain ⟨n1', _⟩ := q'.nd i hi
    obtain ⟨c0', c1'⟩ := q'.cells
    obtain ⟨pb', po', e, _, p0'⟩ := q'.ptr hi
    injection e with e
    injection e with e1 e2
    subst e1 e2
    exact ⟨c0', c1', p0', by have := n1'.cell 0; rwa [hu] at this⟩
  have hpk := hid hpk0; have hp256 := hid hpl0
  rw [hp0] at hlog
  have hbX : Hid (Below w.heap.size w w.drew) := hid (Below.refl _ _).drew
  clear q n1 n2 hpl hp0 hpk0 hpl0 hu
  go_enter Try.func50, Try.ntmps50
  go_wp2_with fail
  have hpe : ¬ p = 256 := by
    rcases hpk.out with h | h
    · rw [h.2] at hpe0; cases hpe0
    · omega
  clear hpe0
  have hlk : Hid (G.lacks i = some p) := hid (by
    rcases hpk.out with h | h
    · exact absurd h.1 hpe
    · exact h.2)
  have hpi : (p : Int) ≤ 256 := by have := hp256.out; omega
  have tp : decide ((p : Int) = 256) = false := decide_eq_false (by omega)
  have tp2 : ((p : Int) == 256) = false := by simpa using (show ¬ (p : Int) = 256 by omega)
  have t1 : decide (4096 < (G.mail.length : Int) + G.nds.length - 1) = false := decide_eq_false (by omega)
  have hfb : Hid (G.catchB i = true) := hid (by rw [hcB.out, hlk.out]; exact decide_eq_true ⟨hfu, rfl⟩)
  have hfE : Hid (G.catch i = G.askTo i p G.nds.length) := hid (by rw [hcE.out, hlk.out, if_pos hfu])
  clear hfu hpe hl
  go_region_held3 (fun w' => w'.cell? ⟨r, 0, none⟩ = some (.slice (some ⟨pb, po, none⟩) G.nds.length cn) ∧ w'.cell? ⟨r, 1, none⟩ = some (.slice Am G.mail.length cm) ∧ w'.cell? ⟨pb, po + i, none⟩ = some (.pointer (some ⟨a.nb i, 0, none⟩)) ∧ w'.cell? ⟨a.nb i, 0, none⟩ = some (.bool true)) (first | exact hkeep.out _ hbX.out | exact hkeep.out _ (Below.refl _ _) | exact hkeep.out _ (Below.refl _ _).drew)
    (first
      | (go_at_call 54; refine (hlog.out _ hbX.out).mono ?_; rintro e wb ⟨v, rfl, hcl⟩; obtain ⟨A, c, rfl, _⟩ := own_form hcl.1; have hbX := hid (hbX.out.trans (hcl.2.mono hbX.out.size)); clear hcl)
      | (go_at_call 65; refine (hth.out _ hbX.out).mono ?_; rintro e wa ⟨rfl, rfl⟩))
  have hlg2 := hid (hlog.out wb hbX.out)
  have hbX2 := hid hbX.out
  go_wp2_with fail
  refine hlg2.out.mono ?_
  rintro e wc ⟨v, rfl, hcl⟩
  obtain ⟨A2, c2, rfl, _⟩ := own_form hcl.1
  have hbc := hid (hbX2.out.trans (hcl.2.mono hbX2.out.size))
  have hRc := hid (hRA.out.below hbc.out)
  clear hcl
  go_wp2_with fail
  go_loopw [6] (fun v wr => ∃ (k : Nat) (S' : Nat → Prop), v = .int .i64 k ∧ k ≤ G.nds.length ∧ RAt S' wr r (G.askTo i p k) ∧ (∀ k, S' k → S k ∨ w.heap.size ≤ k) ∧ Upd S w wr) (fun v _ => G.nds.length - (intOf v).toNat)
  case atStart => exact ⟨0, S, rfl, Nat.zero_le _, hRc.out, fun _ h => .inl h, .of_below' hbc.out _⟩
  case round =>
    obtain ⟨k, S', rfl, hk, q, hS0, hu0⟩ := hrel
    have hS := hid hS0
    have hu := hid hu0
    obtain ⟨An3, cn3, Am3, cm3, a3, q3⟩ := id q
    have d0 := q3.cells.1
    rw [askTo_nds] at d0
    clear hS0 hu0 q3
    by_cases hlt : k < G.nds.length
    · have j1 : (k : Int) < (G.nds.length : Int) := by omega
      by_cases hne : (k : Int) = (i : Int)
      · have t2 : decide ((k : Int) = (i : Int)) = true := decide_eq_true hne
        have hat : G.askTo i p (k + 1) = G.askTo i p k := by rw [Gr.askTo, if_pos hne]
        have q' := hid q
        clear q
        go_wp2_with fail
        go_roundw
        case rel => exact ⟨k + 1, S', by go_num, hlt, by rw [hat]; exact q'.out, hS.out, hu.out⟩
        case measure => simp [intOf]; omega
      · have t2 : decide ((k : Int) = (i : Int)) = false := decide_eq_false hne
        have hat : Hid (G.askTo i p (k + 1) = (G.askTo i p k).send ⟨6, i, (k : Int), p, bal0, bal0, ⟨#[]⟩⟩) := hid (by rw [Gr.askTo, if_neg hne])
        have hsd := hid (rsend_any ⟨6, i, (k : Int), p, bal0, bal0, ⟨#[]⟩⟩ q)
        clear q t2 hk
        go_wp2_with fail
        refine hsd.out.mono ?_
        rintro e w5 ⟨rfl, S3, h3, hS3, hu3⟩
        have hq5 : Hid (RAt S3 w5 r (G.askTo i p (k + 1)) ∧ (∀ k, S3 k → S k ∨ w.heap.size ≤ k) ∧ Upd S w w5) := hid (by
          refine ⟨by rw [hat.out]; exact h3, fun j hj => ?_, hu.out.trans hu3 fun j hj h => ?_⟩
          · rcases hS3 j hj with h | h
            · exact hS.out j h
            · have := hu.out.size; exact .inr (by omega)
          · rcases hS.out j h with h | h
            · exact h
            · omega)
        clear h3 hS3 hu3
        go_wp2_with fail
        go_roundw
        case rel => exact ⟨k + 1, S3, by go_num, hlt, hq5.out.1, hq5.out.2.1, hq5.out.2.2⟩
        case measure => simp [intOf]; omega
    · obtain rfl : k = G.nds.length := by omega
      have hfin : Hid (RGo S w r (G.catch i) wr) := hid (by rw [hfE.out]; exact ⟨S', q, hS.out, hu.out⟩)
      clear q
      go_wp2_with fail
      go_ret
      rw [hfb.out]
      exact ⟨rfl, hfin.out⟩
set_option maxRecDepth 100000 in
set_option maxHeartbeats 4000000 in
theorem rcatch_full (i : Nat) (h : RAt S w r G) (hi : i < G.nds.length) (hpe0 : (G.lacks i).isSome) (hfu : ¬ G.mail.length + G.nds.length ≤ 4097) (hu : (G.nd i).up = true) (hl : G.mail.length ≤ 100000 ∧ G.nds.length ≤ 9) (hr : SRange G) (hf : SFew G) : Calls Try.prog 50 #[.pointer (some ⟨r, 0, none⟩), .int .i64 i] w fun e w' => e = .returned (.bool (G.catchB i)) ∧ RGo S w r (G.catch i) w' := by
  have hcB : Hid (G.catchB i = decide (G.mail.length + G.nds.length ≤ 4097 ∧ (G.lacks i).isSome)) := hid (by
    unfold Gr.catchB
    rw [Bool.eq_iff_iff]
    simp only [decide_eq_true_eq, Int.toNat_natCast, hu]
    exact ⟨fun h => h.2.2.2, fun h => ⟨by omega, by omega, trivial, h⟩⟩)
  have hcE : Hid (G.catch i = if G.mail.length + G.nds.length ≤ 4097 then (match G.lacks i with | none => G | some k => G.askTo i k G.nds.length) else G) := hid (by
    unfold Gr.catch
    by_cases h1 : G.mail.length + G.nds.length ≤ 4097
    · rw [if_pos ⟨by omega, by omega, by rw [Int.toNat_natCast]; exact hu, h1⟩, if_pos h1]
      cases G.lacks (i : Int) <;> rfl
    · rw [if_neg fun h => h1 h.2.2.2, if_neg h1])
  have hRA := hid h
  obtain ⟨An, cn, Am, cm, a, q⟩ := id h
  obtain ⟨n1, n2, _⟩ := q.nd i hi
  have xu : w.cell? ⟨a.nb i, 0, none⟩ = some (.bool true) := by have := n1.cell 0; rwa [hu] at this
  obtain ⟨pb, po, rfl, hpl, p0⟩ := q.ptr hi
  obtain ⟨c0, c1⟩ := q.cells
  have i1 : (i : Int) < (G.nds.length : Int) := by omega
  have i0 : (0 : Int) ≤ (i : Int) := by omega
  have hn9 : (G.nds.length : Int) ≤ 9 := by omega
  have hm9 : (G.mail.length : Int) ≤ 100000 := by omega
  have hw1 : IntKind.i64.wrap ((G.mail.length : Int) + G.nds.length) = (G.mail.length : Int) + G.nds.length := IntWalk.i64_in _ (by omega)
  have hw2 : IntKind.i64.wrap ((G.mail.length : Int) + G.nds.length - 1) = (G.mail.length : Int) + G.nds.length - 1 := IntWalk.i64_in _ (by omega)
  obtain ⟨p, hp0, hpl0, hpk0⟩ := log_len G i
  have hlog := hid (fun (w1 : World) (hb : Below w.heap.size w w1) => rlog_any (i : Int) (h.below hb) hr hf)
  have hth := hid (fun (w1 : World) (hb : Below w.heap.size w w1) => by
    have := there_any (i : Int) (q.below hb)
    rwa [decide_eq_true (⟨i0, i1⟩)] at this)
  have hkeep : Hid (∀ w' : World, Below w.heap.size w w' → w'.cell? ⟨r, 0, none⟩ = some (.slice (some ⟨pb, po, none⟩) G.nds.length cn) ∧ w'.cell? ⟨r, 1, none⟩ = some (.slice Am G.mail.length cm) ∧ w'.cell? ⟨pb, po + i, none⟩ = some (.pointer (some ⟨a.nb i, 0, none⟩)) ∧ w'.cell? ⟨a.nb i, 0, none⟩ = some (.bool true)) := hid fun w' hb => by
    have q' := q.below hb
    obtain ⟨n1', _⟩ := q'.nd i hi
    obtain ⟨c0', c1'⟩ := q'.cells
    obtain ⟨pb', po', e, _, p0'⟩ := q'.ptr hi
    injection e with e
    injection e with e1 e2
    subst e1 e2
    exact ⟨c0', c1', p0', by have := n1'.cell 0; rwa [hu] at this⟩
  have hpk := hid hpk0; have hp256 := hid hpl0
  rw [hp0] at hlog
  have hbX : Hid (Below w.heap.size w w.drew) := hid (Below.refl _ _).drew
  clear q n1 n2 hpl hp0 hpk0 hpl0 hu
  go_enter Try.func50, Try.ntmps50
  go_wp2_with fail
  have hpe : ¬ p = 256 := by
    rcases hpk.out with h | h
    · rw [h.2] at hpe0; cases hpe0
    · omega
  clear hpe0
  have hlk : Hid (G.lacks i = some p) := hid (by
    rcases hpk.out with h | h
    · exact absurd h.1 hpe
    · exact h.2)
  have hpi : (p : Int) ≤ 256 := by have := hp256.out; omega
  have tp : decide ((p : Int) = 256) = false := decide_eq_false (by omega)
  have tp2 : ((p : Int) == 256) = false := by simpa using (show ¬ (p : Int) = 256 by omega)
  have t1 : decide (4096 < (G.mail.length : Int) + G.nds.length - 1) = true := decide_eq_true (by omega)
  have hfb : Hid (G.catchB i = false) := hid (by rw [hcB.out]; exact decide_eq_false fun h => hfu h.1)
  have hfE : Hid (G.catch i = G) := hid (by rw [hcE.out, if_neg hfu])
  clear hfu hpe hl
  go_region_held3 (fun w' => w'.cell? ⟨r, 0, none⟩ = some (.slice (some ⟨pb, po, none⟩) G.nds.length cn) ∧ w'.cell? ⟨r, 1, none⟩ = some (.slice Am G.mail.length cm) ∧ w'.cell? ⟨pb, po + i, none⟩ = some (.pointer (some ⟨a.nb i, 0, none⟩)) ∧ w'.cell? ⟨a.nb i, 0, none⟩ = some (.bool true)) (first | exact hkeep.out _ hbX.out | exact hkeep.out _ (Below.refl _ _) | exact hkeep.out _ (Below.refl _ _).drew)
    (first
      | (go_at_call 54; refine (hlog.out _ hbX.out).mono ?_; rintro e wb ⟨v, rfl, hcl⟩; obtain ⟨A, c, rfl, _⟩ := own_form hcl.1; have hbX := hid (hbX.out.trans (hcl.2.mono hbX.out.size)); clear hcl)
      | (go_at_call 65; refine (hth.out _ hbX.out).mono ?_; rintro e wa ⟨rfl, rfl⟩))
  have hfin : Hid (RGo S w r (G.catch i) wb) := hid (by rw [hfE.out]; exact RGo.of_below hRA.out hbX.out)
  go_wp2_with fail
  go_ret
  rw [hfb.out]
  exact ⟨rfl, hfin.out⟩
theorem rcatch_up (i : Nat) (h : RAt S w r G) (hi : i < G.nds.length) (hu : (G.nd i).up = true) (hl : G.mail.length ≤ 100000 ∧ G.nds.length ≤ 9) (hr : SRange G) (hf : SFew G) : Calls Try.prog 50 #[.pointer (some ⟨r, 0, none⟩), .int .i64 i] w fun e w' => e = .returned (.bool (G.catchB i)) ∧ RGo S w r (G.catch i) w' := by
  cases hk : G.lacks i with
  | none => exact rcatch_end i h hi hk hu hl hr hf
  | some p =>
    by_cases hfu : G.mail.length + G.nds.length ≤ 4097
    · exact rcatch_yes i h hi (by rw [hk]; rfl) hfu hu hl hr hf
    · exact rcatch_full i h hi (by rw [hk]; rfl) hfu hu hl hr hf
theorem rcatch_any (n : Int) (h : RAt S w r G) (hl : G.mail.length ≤ 100000 ∧ G.nds.length ≤ 9) (hr : SRange G) (hf : SFew G) : Calls Try.prog 50 #[.pointer (some ⟨r, 0, none⟩), .int .i64 n] w fun e w' => e = .returned (.bool (G.catchB n)) ∧ RGo S w r (G.catch n) w' := by
  by_cases h1 : 0 ≤ n ∧ n < G.nds.length
  · obtain ⟨i, rfl⟩ := Int.eq_ofNat_of_zero_le h1.1
    have hi : i < G.nds.length := by omega
    cases hu : (G.nd i).up with
    | true => exact rcatch_up i h hi hu hl hr hf
    | false =>
      have e1 : G.catchB i = false := by unfold Gr.catchB; exact decide_eq_false fun h => by have := h.2.2.1; rw [Int.toNat_natCast, hu] at this; cases this
      have e2 : G.catch i = G := by unfold Gr.catch; rw [if_neg fun h => by have := h.2.2.1; rw [Int.toNat_natCast, hu] at this; cases this]
      rw [e1, e2]
      exact (rcatch_down i h hi hu).mono fun e w' ⟨he, hw⟩ => ⟨he, RGo.of_below h hw⟩
  · have e1 : G.catchB n = false := by unfold Gr.catchB; exact decide_eq_false fun h => h1 ⟨h.1, h.2.1⟩
    have e2 : G.catch n = G := by unfold Gr.catch; rw [if_neg fun h => h1 ⟨h.1, h.2.1⟩]
    rw [e1, e2]
    exact (rcatch_far n h (by omega)).mono fun e w' ⟨he, hw⟩ => ⟨he, RGo.of_below h hw⟩
end

end Go.Proofs.Ytbgopicpdpkccaa


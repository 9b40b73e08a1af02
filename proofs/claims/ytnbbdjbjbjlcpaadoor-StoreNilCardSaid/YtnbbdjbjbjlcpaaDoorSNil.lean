/- store: StoreNil. -/
import Derived.Test.YtnbbdjbjbjlcpaaDoorSNilM
import Derived.Sort.QuietIn
namespace Go.Proofs.YtnbbdjbjbjlcpaaDoor
open Go.RowKit Go.Shelf Go.BigFrame
set_option linter.unusedVariables false
set_option linter.unusedSimpArgs false
attribute [local go_sem] Oper.semAt_some

theorem run_eqFunc (b : Array Value) (w : World) : (Go.binOp BinOp.eql 46 (.func (.func 36) #[] b) .nilFunc).run Tryd.prog w = .ok (.bool false) w := by kernel_rfl
set_option maxRecDepth 100000 in
set_option maxHeartbeats 4000000 in
theorem nil_walk (w : World) : Calls Tryd.prog 4 #[] w fun e w' => e = .returned (.bool true) ∧ Below w.heap.size w w' := by
  refine (callsIn_wide (n := 20)).1 ?_
  refine callsIn_of_wp_marks Tryd.func4 rfl trivial ?_ rfl
  simp only [Tryd.ntmps4, List.size_toArray, List.length_cons, List.length_nil, Nat.reduceAdd, Nat.reduceSub, Array.replicate_succ, Array.replicate_zero, List.push_toArray, List.append_toArray, List.nil_append, List.cons_append]
  have hfe := run_eqFunc
  gi_wp2
  refine ⟨trivial, (callsIn_wide.2 (each_any _ _)).mono ?_⟩
  rintro e wq ⟨rfl, rfl⟩
  gi_wp2
  refine ⟨trivial, (callsIn_wide.2 (each_any _ _)).mono ?_⟩
  rintro e wq ⟨rfl, rfl⟩
  gi_wp2
  clear hfe
  have k0 : Blk (((w.alloc (.cells #[.bool false] 4)).alloc (.cells #[.pointer none] 26)).alloc (.cells #[.pointer none] 26)) w.heap.size 4 #[.bool false] := ((Blk.new w _ _).alloc _).alloc _
  have kb : Blk (((w.alloc (.cells #[.bool false] 4)).alloc (.cells #[.pointer none] 26)).alloc (.cells #[.pointer none] 26)) (w.heap.size + 1 + 1) 26 #[.pointer none] := Blk.new' _ _ _ (by simp)
  have hB : Below w.heap.size w (((w.alloc (.cells #[.bool false] 4)).alloc (.cells #[.pointer none] 26)).alloc (.cells #[.pointer none] 26)) := (below_two _ _).alloc (by simp; omega) _
  have hsz : (((w.alloc (.cells #[.bool false] 4)).alloc (.cells #[.pointer none] 26)).alloc (.cells #[.pointer none] 26)).heap.size = w.heap.size + 1 + 1 + 1 := by simp
  generalize ((w.alloc (.cells #[.bool false] 4)).alloc (.cells #[.pointer none] 26)).alloc (.cells #[.pointer none] 26) = W0 at *
  refine wpIn_rangeFunc_ownH rfl (by decide) (gf := 36) (lb := #[.pointer (some ⟨w.heap.size + 1 + 1, 0, none⟩)]) rfl trivial (enters_of Tryd.func36 (by kernel_rfl) rfl)
    (nil_each_stops 19 (w.heap.size + 1 + 1) (by decide) W0 kb) (fun h k => h.trans k) kpI_b (Below.refl _ _) (fun _ => rfl)
    (fun _ W => Below w.heap.size w W ∧ Blk W w.heap.size 4 #[.bool false]) (fun _ _ _ => False)
    (OwnFrom.and (ownFrom_below (Nat.le_refl _) (by omega)) (Own.from (boxed_own _ _ (fun _ => Value.bool false)) _)) (fun _ _ _ _ _ h _ _ => h)
    ⟨hB, k0⟩ (fun _ _ _ => True) (fun _ _ _ _ _ _ _ _ _ => trivial) ?assign ?body ?done ?stop
  case assign =>
    intro l pre x W K hi hK
    gi_wp2
    exact hK _ _ (KeepsFrom.refl _ _) (KpI.refl _ _) hi trivial
  case body => intro l pre x a' W hl hr hi ha hlt; omega
  case done =>
    rintro D9 xs W hD9 hxs ⟨hb0, k0⟩ hK0
    have hB := hid hb0
    have k0 := hid k0
    have hK := hid hK0
    clear hb0 hK0
    gi_wp2
    refine ⟨trivial, (callsIn_wide.2 (live_any _)).mono ?_⟩
    rintro e W4 ⟨rfl, hb4⟩
    have hB4 := hid (hB.out.trans (hb4.mono hB.out.size))
    have k4 := hid (k0.out.below_all hb4)
    have hK4 := hid ((hb4.block D9 (Array.getElem?_eq_some_iff.1 hK.out).1).trans hK.out)
    clear hb4 hK hB k0
    gi_wp2
    refine ⟨trivial, (callsIn_wide.2 (nil_Parts _)).mono ?_⟩
    rintro e wq ⟨rfl, hwq⟩
    obtain rfl := hwq.symm
    gi_wp2
    refine ⟨trivial, (callsIn_wide.2 (nil_Room _)).mono ?_⟩
    rintro e wq ⟨rfl, hwq⟩
    obtain rfl := hwq.symm
    gi_wp2
    refine ⟨trivial, (callsIn_wide.2 (nil_Claims _)).mono ?_⟩
    rintro e wq ⟨rfl, hwq⟩
    obtain rfl := hwq.symm
    gi_wp2
    refine ⟨trivial, (callsIn_wide.2 (nil_Claimed _)).mono ?_⟩
    rintro e wq ⟨rfl, hwq⟩
    obtain rfl := hwq.symm
    gi_wp2
    refine ⟨trivial, (callsIn_wide.2 (nil_Get _)).mono ?_⟩
    rintro e wq ⟨rfl, hwq⟩
    subst hwq
    gi_wp2
    refine ⟨trivial, (callsIn_wide.2 (nil_Claim _ _ _ _)).mono ?_⟩
    rintro e wq ⟨rfl, hwq⟩
    obtain rfl := hwq.symm
    gi_wp2
    refine ⟨trivial, (callsIn_wide.2 (num_any _ _)).mono ?_⟩
    rintro e wq ⟨rfl, hwq⟩
    obtain rfl := hwq.symm
    gi_wp2
    refine ⟨trivial, (callsIn_wide.2 (nil_Apply _)).mono ?_⟩
    rintro e wq ⟨rfl, hwq⟩
    obtain rfl := hwq.symm
    gi_wp2
    refine ⟨trivial, (callsIn_wide.2 (num_any _ _)).mono ?_⟩
    rintro e wq ⟨rfl, hwq⟩
    obtain rfl := hwq.symm
    gi_wp2
    refine ⟨trivial, (callsIn_wide.2 (nil_View _)).mono ?_⟩
    rintro e wq ⟨rfl, hwq⟩
    obtain rfl := hwq.symm
    gi_wp2
    refine ⟨trivial, (callsIn_wide.2 (nil_Dump _)).mono ?_⟩
    rintro e wq ⟨rfl, hwq⟩
    obtain rfl := hwq.symm
    gi_wp2
    refine ⟨trivial, (callsIn_wide.2 (nil_Keys _)).mono ?_⟩
    rintro e wq ⟨rfl, hwq⟩
    obtain rfl := hwq.symm
    gi_wp2
    refine ⟨trivial, (callsIn_wide.2 (nil_Bytes _)).mono ?_⟩
    rintro e wq ⟨rfl, hwq⟩
    obtain rfl := hwq.symm
    gi_wp2
    refine ⟨trivial, (callsIn_wide.2 (nil_VGet _)).mono ?_⟩
    rintro e wq ⟨rfl, hwq⟩
    subst hwq
    gi_wp2
    obtain ⟨oV, hoV⟩ : ∃ o : Obj, o = .cells #[.int .i64 0, .int .i64 0, .string ⟨#[]⟩] 50 := ⟨_, rfl⟩
    obtain ⟨oS, hoS⟩ : ∃ o : Obj, o = .cells #[.string ⟨#[97]⟩] 9 := ⟨_, rfl⟩
    rw [← hoV, ← hoS]
    have h3 : Below W4.heap.size W4 (((W4.alloc oV).alloc oS).alloc oV) := (below_two _ _).alloc (by simp; omega) _
    have hB5 := hid (hB4.out.trans (h3.mono hB4.out.size))
    have k5 := hid (k4.out.below_all h3)
    have hK5 := hid ((h3.block D9 (Array.getElem?_eq_some_iff.1 hK4.out).1).trans hK4.out)
    clear h3 hB4 k4 hK4 hoV hoS
    generalize ((W4.alloc oV).alloc oS).alloc oV = W5 at *
    have c5 := k5.out.cell 0
    have f5 := k5.out.frozen 0
    refine ⟨trivial, (callsIn_wide.2 (nil_VDump _)).mono ?_⟩
    rintro e wq ⟨rfl, hwq⟩
    obtain rfl := hwq.symm
    gi_wp2
    have hK6 := (KeepsOthers.setCell W5 ⟨w.heap.size, 0, none⟩ (.bool true)).same D9 _ hK5.out rfl
    refine ⟨by simp, .inl ⟨_, _, rfl, run_takeDeferred hK6, ?_⟩⟩
    have hc6 := cell_kept ((k5.out.set_ 0 (.bool true)).cell 0) (grownBy_putObj' _ D9 (.deferred none)) (fun r e => by cases e; exact ⟨_, hK6, rfl⟩)
    refine ⟨.bool true, ?_, rfl, (hB5.out.setCell (p := ⟨w.heap.size, 0, none⟩) (Nat.le_refl _) _).trans (belowK_b (w := W0) (by omega) _ D9 _ _ hD9 hK6 rfl rfl)⟩
    simp [results, Tryd.f4, go_sem, hc6]
  case stop =>
    rintro D9 c pre W hD9 hf _ _
    exact hf.elim
end Go.Proofs.YtnbbdjbjbjlcpaaDoor

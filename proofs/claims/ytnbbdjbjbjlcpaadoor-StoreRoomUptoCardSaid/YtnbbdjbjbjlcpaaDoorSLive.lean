/- store: live. -/
import Derived.Test.YtnbbdjbjbjlcpaaDoorSEq
import Derived.Test.YtnbbdjbjbjlcpaaDoorSApply
namespace Go.Proofs.YtnbbdjbjbjlcpaaDoor
open Go.RowKit
set_option linter.unusedVariables false
set_option linter.unusedSimpArgs false

theorem num_any (n : Int) (w : World) : Calls Tryd.prog 7 #[.int .i64 n] w fun e w' => e = .returned (.int .i64 n) ∧ w' = w := by
  go_enter Tryd.func7, Tryd.ntmps7
  go_wp2_with fail
  go_ret
  exact ⟨rfl, rfl⟩
def ka : ByteArray := ⟨#[97]⟩
def kb : ByteArray := ⟨#[98]⟩
def five : Vl := ⟨1, 5, ⟨#[]⟩⟩
def wsA : List Wr := [⟨ka, false, five⟩]
def stA : St := ⟨2, 3, []⟩
def stB : St := claimS stA [ka, kb]
def stC : St := applyS stB wsA
theorem lv_e1 : applyE stA wsA = 41 := by decide +kernel
theorem lv_e2 : claimE stA [ka, kb] = 0 := by decide +kernel
theorem lv_e3 : applyE stB wsA = 0 := by decide +kernel
theorem lv_d : dumpL stC.L = [(ka, five)] := by decide +kernel
theorem lv_g : valK ka stC.L = five := by decide +kernel
theorem lv_v : valK ka stB.L = vl0 := by decide +kernel
theorem lv_h : hasK kb stC.L = true := by decide +kernel
section
variable {S : Nat → Prop} {w w' : World} {g : Nat} {s : St}
theorem live_apply (h : PAt S w g s) : Calls Tryd.prog 12 #[.pointer (some ⟨g, 0, none⟩), .slice (some ⟨w.heap.size, 0, none⟩) 1 1] (w.alloc (.cells #[.string ⟨#[97]⟩, .bool false, .int .i64 1, .int .i64 5, .string ⟨#[]⟩] 62)) fun e w' => e = .returned (.int .i64 (applyE s wsA)) ∧ PAt S w' g (applyS s wsA) ∧ Upd S w w' := by
  have hB : Below w.heap.size w (w.alloc (.cells #[.string ⟨#[97]⟩, .bool false, .int .i64 1, .int .i64 5, .string ⟨#[]⟩] 62)) := (Below.refl _ _).alloc (Nat.le_refl _) _
  have hr := Rd.new w 62 5 1 #[.string ⟨#[97]⟩, .bool false, .int .i64 1, .int .i64 5, .string ⟨#[]⟩] w.heap.size rfl rfl
  refine (apply_any (c := 1) wsA (h.below hB) hr (fun b hb hS => by have := h.lt _ hS; omega) (fun x hx => ?_) (by decide)).mono ?_
  · rw [List.mem_singleton.1 hx]; decide
  · rintro e w' ⟨rfl, h1, h2⟩
    exact ⟨rfl, h1, (Upd.of_below (M := S) hB fun k hk h => by omega).trans h2 fun _ _ h => h⟩
theorem live_claim (h : PAt S w g s) : Calls Tryd.prog 11 #[.pointer (some ⟨g, 0, none⟩), .slice (some ⟨w.heap.size, 0, none⟩) 2 2] (w.alloc (.cells #[.string ⟨#[97]⟩, .string ⟨#[98]⟩] 9)) fun e w' => e = .returned (.int .i64 (claimE s [ka, kb])) ∧ PAt S w' g (claimS s [ka, kb]) ∧ Upd S w w' := by
  have hB : Below w.heap.size w (w.alloc (.cells #[.string ⟨#[97]⟩, .string ⟨#[98]⟩] 9)) := (Below.refl _ _).alloc (Nat.le_refl _) _
  have hr := Rd.new w 9 1 2 #[.string ⟨#[97]⟩, .string ⟨#[98]⟩] w.heap.size rfl rfl
  refine (claim_any (c := 2) [ka, kb] (h.below hB) hr (fun b hb hS => by have := h.lt _ hS; omega) (fun x hx => ?_) (by decide)).mono ?_
  · simp only [List.mem_cons, List.not_mem_nil, or_false] at hx
    rcases hx with rfl | rfl <;> decide
  · rintro e w' ⟨rfl, h1, h2⟩
    exact ⟨rfl, h1, (Upd.of_below (M := S) hB fun k hk h => by omega).trans h2 fun _ _ h => h⟩
theorem live_new (w : World) : Calls Tryd.prog 6 #[.int .i64 2, .int .i64 3] w fun e w' => ∃ S g, e = .returned (.tuple #[.pointer (some ⟨g, 0, none⟩), .int .i64 0]) ∧ PAt S w' g stA ∧ (∀ j, S j → w.heap.size ≤ j) ∧ Below w.heap.size w w' := new_ok 2 3 w (by omega) (by omega)
set_option maxRecDepth 100000 in
set_option maxHeartbeats 4000000 in
theorem live_any (w : World) : Calls Tryd.prog 8 #[] w fun e w' => e = .returned (.bool true) ∧ Below w.heap.size w w' := by
  go_enter Tryd.func8, Tryd.ntmps8
  go_wp2_with fail
  refine (live_new w).mono ?_
  rintro e w1 ⟨S, g, rfl, hp0, hS0, hb0⟩
  have P1 := hid hp0; have hS := hid hS0; have B1 := hid hb0
  clear hp0 hS0 hb0
  go_wp2_with fail
  refine (num_any _ _).mono ?_
  rintro e wq ⟨rfl, hwq⟩
  obtain rfl := hwq.symm
  have ha := hid (live_apply P1.out)
  rw [lv_e1] at ha
  go_wp2_with fail
  refine ha.out.mono ?_
  rintro e w2 ⟨rfl, hp0, hu0⟩
  rw [applyS_no (by rw [lv_e1]; decide)] at hp0
  have P2 := hid hp0
  have B2 : Hid (Below w.heap.size w w2) := hid (B1.out.trans (hu0.below B1.out.size fun k hk h => by have := hS.out k h; omega))
  clear hp0 hu0 ha P1 B1
  have hc := hid (live_claim P2.out)
  rw [lv_e2] at hc
  go_wp2_with fail
  refine hc.out.mono ?_
  rintro e w3 ⟨rfl, hp0, hu0⟩
  have P3 : Hid (PAt S w3 g stB) := hid hp0
  have B3 : Hid (Below w.heap.size w w3) := hid (B2.out.trans (hu0.below B2.out.size fun k hk h => by have := hS.out k h; omega))
  clear hp0 hu0 hc P2 B2
  go_wp2_with fail
  refine (view_any P3.out).mono ?_
  rintro e w4 ⟨S', v, rfl, hv0, hs0, hb0⟩
  have V4 := hid hv0
  have P4 := hid (P3.out.below hb0)
  have B4 : Hid (Below w.heap.size w w4) := hid (B3.out.trans (hb0.mono B3.out.size))
  have hSS : Hid (∀ b, S' b → ¬ S b) := hid fun b h1 h2 => by have := hs0 b h1; have := P3.out.lt b h2; omega
  clear hv0 hs0 hb0 P3 B3
  have ha := hid (live_apply P4.out)
  rw [lv_e3] at ha
  go_wp2_with fail
  refine ha.out.mono ?_
  rintro e w5 ⟨rfl, hp0, hu0⟩
  have P5 : Hid (PAt S w5 g stC) := hid hp0
  have B5 : Hid (Below w.heap.size w w5) := hid (B4.out.trans (hu0.below B4.out.size fun k hk h => by have := hS.out k h; omega))
  have V5 := hid (V4.out.upd hu0 hSS.out)
  clear hp0 hu0 ha P4 B4 V4
  have hd0 := dumpM_any P5.out
  rw [lv_d] at hd0
  have hd := hid hd0
  clear hd0
  go_wp2_with fail
  refine hd.out.mono ?_
  rintro e w6 ⟨A, c, rfl, ho0, hb0⟩
  have P6 := hid (P5.out.below hb0)
  have V6 := hid (V5.out.below hb0)
  have B6 : Hid (Below w.heap.size w w6) := hid (B5.out.trans (hb0.mono B5.out.size))
  obtain ⟨b, o, hA, _, _, x0, x1, x2, x3⟩ := rd_kv (L := [(ka, five)]) (Rd.of_own ho0) (i := 0) (by decide)
  subst hA
  clear ho0 hb0 hd P5 V5 B5
  simp only [List.getElem_cons_zero, five, ka, Nat.zero_mul, Nat.add_zero] at x0 x1 x2 x3
  have heq : ∀ w, (Op.equalIn 10000 64 (.agg #[.string ⟨#[97]⟩, .int .i64 1, .int .i64 5, .string ⟨#[]⟩]) (.agg #[.string ⟨#[97]⟩, .int .i64 1, .int .i64 5, .string ⟨#[]⟩])).run Tryd.prog w = .ok true w := fun w => run_eqItem (ka, five) (ka, five) w
  have hgd : Tryd.prog.eqGuardType Tryd.prog.depth 64 = false := by kernel_rfl
  have hg0 := get_any ka P6.out
  rw [lv_g] at hg0
  simp only [five] at hg0
  have hf1 : ∀ w', (Instr.field 50 (.agg #[.int .i64 1, .int .i64 5, .string ⟨#[]⟩]) 1).run Tryd.prog w' = .ok (.int .i64 5) w' := fun _ => by kernel_rfl
  have hf0 : ∀ w', (Instr.field 50 (.agg #[.int .i64 0, .int .i64 0, .string ⟨#[]⟩]) 0).run Tryd.prog w' = .ok (.int .i64 0) w' := fun _ => by kernel_rfl
  have hg := hid hg0
  clear hg0
  go_wp2_with (go_at_call 7; refine (num_any _ _).mono ?_; rintro e wq ⟨rfl, hwq⟩; obtain rfl := hwq.symm)
  refine hg.out.mono ?_
  rintro e w7 ⟨rfl, hb0⟩
  have P7 := hid (P6.out.below hb0)
  have V7 := V6.out.below hb0
  have B7 : Hid (Below w.heap.size w w7) := hid (B6.out.trans (hb0.mono B6.out.size))
  have hv0 := vget_any ka V7 (claim_ok (st_ok (p := 2) (r := 3) (by omega) (by omega)) _)
  rw [lv_v] at hv0
  simp only [vl0] at hv0
  have hv := hid hv0
  clear hb0 hg P6 V6 B6 V7 hv0 x0 x1 x2 x3
  go_wp2_with fail
  refine hv.out.mono ?_
  rintro e w8 ⟨rfl, hb0⟩
  have P8 := hid (P7.out.below hb0)
  have B8 : Hid (Below w.heap.size w w8) := hid (B7.out.trans (hb0.mono B7.out.size))
  have hc0 := claimed_b kb P8.out (by decide)
  rw [lv_h] at hc0
  have hc := hid hc0
  clear hb0 hv P7 B7 hc0
  go_wp2_with fail
  refine hc.out.mono ?_
  rintro e w9 ⟨rfl, hb0⟩
  have B9 : Hid (Below w.heap.size w w9) := hid (B8.out.trans (hb0.mono B8.out.size))
  clear hb0 hc P8 B8
  go_wp2_with fail
  go_ret
  exact ⟨rfl, B9.out⟩
end
end Go.Proofs.YtnbbdjbjbjlcpaaDoor

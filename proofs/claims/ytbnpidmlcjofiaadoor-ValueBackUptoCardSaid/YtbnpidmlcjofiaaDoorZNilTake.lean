/- value: a nil reader; the document's Rest. -/
import Derived.Test.YtbnpidmlcjofiaaDoorJ12
namespace Go.Proofs.YtbnpidmlcjofiaaDoor
open Go.RowKit
set_option linter.unusedVariables false
set_option linter.unusedSimpArgs false

set_option maxRecDepth 100000 in
set_option maxHeartbeats 1000000 in
theorem nilread (f : Value) (w : World) : Calls Tryd.prog 76 #[.pointer none, f] w fun e w' => e = .returned (.int .u8 0) ∧ Below w.heap.size w w' := by
  have hmf : ∀ (fn : Fn) (first cap : Array Value) (w : World), (Instr.makeFunc fn first cap).run Tryd.prog w = .ok (.func fn first cap) w := fun _ _ _ _ => rfl
  obtain ⟨W, hW⟩ : ∃ W, W = ((w.alloc (.cells #[.pointer none] 36)).alloc (.cells #[.int .u8 0] 5)) := ⟨_, rfl⟩
  have hB0 : Hid (Below w.heap.size w W) := hid (by subst hW; exact ((Below.refl _ _).alloc (Nat.le_refl _) _).alloc (by simp) _)
  have kb : Hid (Blk W w.heap.size 36 #[.pointer none]) := hid (by subst hW; exact (Blk.new w _ _).alloc _)
  have kx : Hid (Blk W (w.heap.size + 1) 5 #[.int .u8 0]) := hid (by subst hW; exact Blk.new' _ _ _ (by simp))
  go_enter_defers Tryd.func76, Tryd.ntmps76
  go_upto_region 1 with fail
  rw [← hW]
  clear hW
  have b0 : W.cell? ⟨w.heap.size, 0, none⟩ = some (.pointer none) := kb.out.cell 0
  have x0 : W.cell? ⟨w.heap.size + 1, 0, none⟩ = some (.int .u8 0) := kx.out.cell 0
  have fx := fun q => kx.out.frozen q
  go_wp2_with fail
  have HX : (W.setCell ⟨w.heap.size + 1, 0, none⟩ (.int .u8 0)).cell? ⟨w.heap.size + 1, 0, none⟩ = some (.int .u8 0) := (kx.out.set_ 0 (.int .u8 0)).cell 0
  refine ⟨.int .u8 0, ?_, rfl, hB0.out.setCell (p := ⟨w.heap.size + 1, 0, none⟩) (Nat.le_succ _) _⟩
  simp [Go.results, Tryd.results76, asAddr, go_sem, HX]
theorem nilbyte (w : World) : Calls Tryd.prog 54 #[.pointer none] w fun e w' => e = .returned (.int .u8 0) ∧ Below w.heap.size w w' := by
  have hmf : ∀ (fn : Fn) (first cap : Array Value) (w : World), (Instr.makeFunc fn first cap).run Tryd.prog w = .ok (.func fn first cap) w := fun _ _ _ _ => rfl
  go_enter Tryd.func54, Tryd.ntmps54
  go_wp2_with fail
  refine (nilread _ w).mono ?_
  rintro e w2 ⟨rfl, hb⟩
  have hb := hid hb
  go_wp2_with fail
  go_ret
  exact ⟨rfl, hb.out⟩
theorem nilwhy (w : World) : Calls Tryd.prog 22 #[.pointer none] w fun e w' => e = .returned (.tuple #[.int .i64 0, .int .i64 0]) ∧ w' = w := by
  go_enter Tryd.func22, Tryd.ntmps22
  go_wp2_with fail
  go_ret2
  exact ⟨rfl, rfl⟩
set_option maxRecDepth 100000 in
set_option maxHeartbeats 1000000 in
theorem niltake (w : World) : Calls Tryd.prog 20 #[.pointer none] w fun e w' => e = .returned (.agg #[.int .i64 0, .int .i64 0, .string ⟨#[]⟩]) ∧ Below w.heap.size w w' := by
  obtain ⟨W, hW⟩ : ∃ W, W = (w.alloc (.cells #[.int .i64 0, .int .i64 0, .string ⟨#[]⟩] 24)).alloc (.cells #[.int .i64 0, .int .i64 0, .string ⟨#[]⟩] 24) := ⟨_, rfl⟩
  have hB0 : Hid (Below w.heap.size w W) := hid (by subst hW; exact ((Below.refl _ _).alloc (Nat.le_refl _) _).alloc (by simp) _)
  have k0 : Hid (Blk W w.heap.size 24 #[.int .i64 0, .int .i64 0, .string ⟨#[]⟩]) := hid (by subst hW; exact (Blk.new w _ _).alloc _)
  have k1 : Hid (Blk W (w.heap.size + 1) 24 #[.int .i64 0, .int .i64 0, .string ⟨#[]⟩]) := hid (by subst hW; exact Blk.new' _ _ _ (by simp))
  go_enter Tryd.func20, Tryd.ntmps20
  go_upto_region 2 with fail
  rw [← hW]
  clear hW
  go_wp2_with fail
  refine (nilbyte W).mono ?_
  rintro e w2 ⟨rfl, hb20⟩
  have k2 := hid (k0.out.below_all hb20)
  have k3 := hid (k1.out.below_all hb20)
  have hB2 := hid (hB0.out.trans (hb20.mono hB0.out.size))
  clear hb20 k0 k1 hB0
  go_wp2_with fail
  refine (nilwhy w2).mono ?_
  rintro e w3 ⟨rfl, hwq⟩
  obtain rfl := hwq.symm
  have x0 : w2.cell? ⟨w.heap.size, 0, none⟩ = some (.int .i64 0) := k2.out.cell 0
  have x1 : w2.cell? ⟨w.heap.size, 1, none⟩ = some (.int .i64 0) := k2.out.cell 1
  have x2 : w2.cell? ⟨w.heap.size, 2, none⟩ = some (.string ⟨#[]⟩) := k2.out.cell 2
  have y0 : w2.cell? ⟨w.heap.size + 1, 0, none⟩ = some (.int .i64 0) := k3.out.cell 0
  have y1 : w2.cell? ⟨w.heap.size + 1, 1, none⟩ = some (.int .i64 0) := k3.out.cell 1
  have y2 : w2.cell? ⟨w.heap.size + 1, 2, none⟩ = some (.string ⟨#[]⟩) := k3.out.cell 2
  have fz := fun q => k2.out.frozen q
  have hlt := k2.out.lt
  go_wp2_with fail
  refine bodyPost_ret (v := .agg #[.int .i64 0, .int .i64 0, .string ⟨#[]⟩]) ?_ rfl ⟨rfl, ?_⟩
  · exact results_cell_row (P := Tryd.prog) rfl _ _ w.heap.size 24 _ (0, 0) _ rfl (show Blk _ _ _ #[.int .i64 0, .int .i64 0, .string ⟨#[]⟩] from by simpa using ((k2.out.set_ 0 (.int .i64 0)).set_ 1 (.int .i64 0)).set_ 2 (.string ⟨#[]⟩)) Tryd.underlying24 rfl (by kernel_rfl)
  · exact ((hB2.out.setCell (p := ⟨w.heap.size, 0, none⟩) (Nat.le_refl _) _).setCell (p := ⟨w.heap.size, 1, none⟩) (Nat.le_refl _) _).setCell (p := ⟨w.heap.size, 2, none⟩) (Nat.le_refl _) _
set_option maxRecDepth 100000 in
theorem rRest_any {S : Nat → Prop} {w : World} {g : Nat} {A : Option Addr} {c : Nat} {r : Rr} (h : RrIn S w g A c r) : Calls Tryd.prog 24 #[.pointer (some ⟨g, 0, none⟩)] w fun en w' => en = .returned (.int .i64 (r.rest : Nat)) ∧ Upd (fun k => k = g) w w' ∧ RrIn S w' g A c r := by
  have H := hid h
  have kb := h.blk
  have x0 := kb.cell 0
  have x1 := kb.cell 1
  have x2 := kb.cell 2
  have x3 := kb.cell 3
  have x4 := kb.cell 4
  simp only [List.getElem?_toArray, List.getElem?_cons_zero, List.getElem?_cons_succ] at x0 x1 x2 x3 x4
  have fz := fun q => kb.frozen q
  have hlt := kb.lt
  by_cases he : r.e = 0
  · have t1 : (r.e != 0) = false := by simpa using he
    have hf : Hid (r.rest = r.b.length - r.at_) := hid (by unfold Rr.rest; rw [if_neg (by simp [he])])
    have f1 : IntKind.i64.wrap ((r.b.length : Int) - (r.at_ : Int)) = ((r.b.length - r.at_ : Nat) : Int) := by have := h.at_le; have := h.len; rw [IntKind.wrap_i64]; omega
    generalize hq : r.b.length - r.at_ = q at *
    clear h he kb hq
    go_enter Tryd.func24, Tryd.ntmps24
    go_upto_region 3 with fail
    go_quiet (fail)
    go_wp2_with fail
    go_ret
    rw [hf.out]
    exact ⟨rfl, (Upd.refl _ _).drewN _, H.out.drewN _⟩
  · have t1 : (r.e != 0) = true := by simpa using he
    have hf : Hid (r.rest = 0) := hid (by unfold Rr.rest; rw [if_pos he])
    clear h he kb
    go_enter Tryd.func24, Tryd.ntmps24
    go_wp2_with fail
    go_ret
    rw [hf.out]
    exact ⟨rfl, Upd.refl _ _, H.out⟩
theorem neq_vals (a b : Vl) (w : World) : (binOp .neq 24 (.agg #[.int .i64 a.k, .int .i64 a.n, .string a.s]) (.agg #[.int .i64 b.k, .int .i64 b.n, .string b.s])).run Tryd.prog w = .ok (.bool (!(decide (a = b)))) w := by
  have h := run_eqVal a b w
  rw [run_neq_struct, h]
  simp only [Result.andThen]
end Go.Proofs.YtbnpidmlcjofiaaDoor

/- Texts of the proof, joined: SLive, SRoom, SPlS, SPlF, SLoads, KOpenA, VOpenB, LawOf, SLaidL. -/
import Derived.Test.YtphglnenafdkaaaGreatDoorQ14
import Derived.Test.YtphglnenafdkaaaGreatDoorQ06
import Derived.Test.YtphglnenafdkaaaGreatDoorQ12
import Derived.Test.YtphglnenafdkaaaGreatDoorQ09
import Derived.Test.YtphglnenafdkaaaGreatDoorQ13
import Derived.Test.YtphglnenafdkaaaGreatDoorQ05
import Derived.Test.YtphglnenafdkaaaGreatDoorQ07
import Derived.Deep.Slices
import Derived.Lib.SmallJoins
import Derived.SizedLaws
import Derived.Test.YtphglnenafdkaaaGreatDoorQ01
import Derived.ProofKit
import Derived.OpenShut
import Derived.JoinedCond
import Derived.Test.YtphglnenafdkaaaGreatDoorQ10
import Derived.Test.YtphglnenafdkaaaGreatDoorRows
import Derived.Stop.LaidErr
import Derived.Lib.LaidTab
import Derived.LaidLaws
import Derived.Deep.DeepHandedRow
namespace Go.Proofs.YtphglnenafdkaaaGreatDoor
open Go.RowKit
set_option linter.unusedVariables false
set_option linter.unusedSimpArgs false

theorem num_any (n : Int) (w : World) : Calls Tryz.prog 11 #[.int .i64 n] w fun e w' => e = .returned (.int .i64 n) ∧ w' = w := by
  go_enter Tryz.func11, Tryz.ntmps11
  go_wp2_with fail
  go_ret
  exact ⟨rfl, rfl⟩
def ka : ByteArray := ⟨#[97]⟩
def kb : ByteArray := ⟨#[98]⟩
def five : Vl := ⟨1, 5, ⟨#[]⟩⟩
def wsA : List Wr := [⟨ka, false, five⟩]
def stA : St := ⟨2, 3, []⟩
def stB : St := claimS stA [ka, kb]
def stC : St := applyS stB wsA
theorem lv_e1 : applyE stA wsA = 41 := by decide +kernel
theorem lv_e2 : claimE stA [ka, kb] = 0 := by decide +kernel
theorem lv_e3 : applyE stB wsA = 0 := by decide +kernel
theorem lv_d : dumpL stC.L = [(ka, five)] := by decide +kernel
theorem lv_g : valK ka stC.L = five := by decide +kernel
theorem lv_v : valK ka stB.L = vl0 := by decide +kernel
theorem lv_h : hasK kb stC.L = true := by decide +kernel
section
variable {S : Nat → Prop} {w w' : World} {g : Nat} {s : St}
theorem live_apply (h : PAt S w g s) : Calls Tryz.prog 12 #[.pointer (some ⟨g, 0, none⟩), .slice (some ⟨w.heap.size, 0, none⟩) 1 1] (w.alloc (.cells #[.string ⟨#[97]⟩, .bool false, .int .i64 1, .int .i64 5, .string ⟨#[]⟩] 40)) fun e w' => e = .returned (.int .i64 (applyE s wsA)) ∧ PAt S w' g (applyS s wsA) ∧ Upd S w w' := by
  have hB : Below w.heap.size w (w.alloc (.cells #[.string ⟨#[97]⟩, .bool false, .int .i64 1, .int .i64 5, .string ⟨#[]⟩] 40)) := (Below.refl _ _).alloc (Nat.le_refl _) _
  have hr := Rd.new w 40 5 1 #[.string ⟨#[97]⟩, .bool false, .int .i64 1, .int .i64 5, .string ⟨#[]⟩] w.heap.size rfl rfl
  refine (apply_any (c := 1) wsA (h.below hB) hr (fun b hb hS => by have := h.lt _ hS; omega) (fun x hx => ?_) (by decide)).mono ?_
  · rw [List.mem_singleton.1 hx]; decide
  · rintro e w' ⟨rfl, h1, h2⟩
    exact ⟨rfl, h1, (Upd.of_below (M := S) hB fun k hk h => by omega).trans h2 fun _ _ h => h⟩
theorem live_claim (h : PAt S w g s) : Calls Tryz.prog 10 #[.pointer (some ⟨g, 0, none⟩), .slice (some ⟨w.heap.size, 0, none⟩) 2 2] (w.alloc (.cells #[.string ⟨#[97]⟩, .string ⟨#[98]⟩] 9)) fun e w' => e = .returned (.int .i64 (claimE s [ka, kb])) ∧ PAt S w' g (claimS s [ka, kb]) ∧ Upd S w w' := by
  have hB : Below w.heap.size w (w.alloc (.cells #[.string ⟨#[97]⟩, .string ⟨#[98]⟩] 9)) := (Below.refl _ _).alloc (Nat.le_refl _) _
  have hr := Rd.new w 9 1 2 #[.string ⟨#[97]⟩, .string ⟨#[98]⟩] w.heap.size rfl rfl
  refine (claim_any (c := 2) [ka, kb] (h.below hB) hr (fun b hb hS => by have := h.lt _ hS; omega) (fun x hx => ?_) (by decide)).mono ?_
  · simp only [List.mem_cons, List.not_mem_nil, or_false] at hx
    rcases hx with rfl | rfl <;> decide
  · rintro e w' ⟨rfl, h1, h2⟩
    exact ⟨rfl, h1, (Upd.of_below (M := S) hB fun k hk h => by omega).trans h2 fun _ _ h => h⟩
theorem live_new (w : World) : Calls Tryz.prog 14 #[.int .i64 2, .int .i64 3] w fun e w' => ∃ S g, e = .returned (.tuple #[.pointer (some ⟨g, 0, none⟩), .int .i64 0]) ∧ PAt S w' g stA ∧ (∀ j, S j → w.heap.size ≤ j) ∧ Below w.heap.size w w' := new_ok 2 3 w (by omega) (by omega)
set_option maxRecDepth 100000 in
set_option maxHeartbeats 4000000 in
theorem live_any (w : World) : Calls Tryz.prog 9 #[] w fun e w' => e = .returned (.bool true) ∧ Below w.heap.size w w' := by
  go_enter Tryz.func9, Tryz.ntmps9
  go_wp2_with fail
  refine (live_new w).mono ?_
  rintro e w1 ⟨S, g, rfl, hp0, hS0, hb0⟩
  have P1 := hid hp0; have hS := hid hS0; have B1 := hid hb0
  clear hp0 hS0 hb0
  go_wp2_with fail
  refine (num_any _ _).mono ?_
  rintro e wq ⟨rfl, hwq⟩
  obtain rfl := hwq.symm
  have ha := hid (live_apply P1.out)
  rw [lv_e1] at ha
  go_wp2_with fail
  refine ha.out.mono ?_
  rintro e w2 ⟨rfl, hp0, hu0⟩
  rw [applyS_no (by rw [lv_e1]; decide)] at hp0
  have P2 := hid hp0
  have B2 : Hid (Below w.heap.size w w2) := hid (B1.out.trans (hu0.below B1.out.size fun k hk h => by have := hS.out k h; omega))
  clear hp0 hu0 ha P1 B1
  have hc := hid (live_claim P2.out)
  rw [lv_e2] at hc
  go_wp2_with fail
  refine hc.out.mono ?_
  rintro e w3 ⟨rfl, hp0, hu0⟩
  have P3 : Hid (PAt S w3 g stB) := hid hp0
  have B3 : Hid (Below w.heap.size w w3) := hid (B2.out.trans (hu0.below B2.out.size fun k hk h => by have := hS.out k h; omega))
  clear hp0 hu0 hc P2 B2
  go_wp2_with fail
  refine (view_any P3.out).mono ?_
  rintro e w4 ⟨S', v, rfl, hv0, hs0, hb0⟩
  have V4 := hid hv0
  have P4 := hid (P3.out.below hb0)
  have B4 : Hid (Below w.heap.size w w4) := hid (B3.out.trans (hb0.mono B3.out.size))
  have hSS : Hid (∀ b, S' b → ¬ S b) := hid fun b h1 h2 => by have := hs0 b h1; have := P3.out.lt b h2; omega
  clear hv0 hs0 hb0 P3 B3
  have ha := hid (live_apply P4.out)
  rw [lv_e3] at ha
  go_wp2_with fail
  refine ha.out.mono ?_
  rintro e w5 ⟨rfl, hp0, hu0⟩
  have P5 : Hid (PAt S w5 g stC) := hid hp0
  have B5 : Hid (Below w.heap.size w w5) := hid (B4.out.trans (hu0.below B4.out.size fun k hk h => by have := hS.out k h; omega))
  have V5 := hid (V4.out.upd hu0 hSS.out)
  clear hp0 hu0 ha P4 B4 V4
  have hd0 := dumpM_any P5.out
  rw [lv_d] at hd0
  have hd := hid hd0
  clear hd0
  go_wp2_with fail
  refine hd.out.mono ?_
  rintro e w6 ⟨A, c, rfl, ho0, hb0⟩
  have P6 := hid (P5.out.below hb0)
  have V6 := hid (V5.out.below hb0)
  have B6 : Hid (Below w.heap.size w w6) := hid (B5.out.trans (hb0.mono B5.out.size))
  obtain ⟨b, o, hA, _, _, x0, x1, x2, x3⟩ := rd_kv (L := [(ka, five)]) (Rd.of_own ho0) (i := 0) (by decide)
  subst hA
  clear ho0 hb0 hd P5 V5 B5
  simp only [List.getElem_cons_zero, five, ka, Nat.zero_mul, Nat.add_zero] at x0 x1 x2 x3
  have heq : ∀ w, (Op.equalIn 10000 70 (.agg #[.string ⟨#[97]⟩, .int .i64 1, .int .i64 5, .string ⟨#[]⟩]) (.agg #[.string ⟨#[97]⟩, .int .i64 1, .int .i64 5, .string ⟨#[]⟩])).run Tryz.prog w = .ok true w := fun w => run_eqItem (ka, five) (ka, five) w
  have hgd : Tryz.prog.eqGuardType Tryz.prog.depth 70 = false := by kernel_rfl
  have hg0 := get_any ka P6.out
  rw [lv_g] at hg0
  simp only [five] at hg0
  have hf1 : ∀ w', (Instr.field 38 (.agg #[.int .i64 1, .int .i64 5, .string ⟨#[]⟩]) 1).run Tryz.prog w' = .ok (.int .i64 5) w' := fun _ => by kernel_rfl
  have hf0 : ∀ w', (Instr.field 38 (.agg #[.int .i64 0, .int .i64 0, .string ⟨#[]⟩]) 0).run Tryz.prog w' = .ok (.int .i64 0) w' := fun _ => by kernel_rfl
  have hg := hid hg0
  clear hg0
  go_wp2_with (go_at_call 11; refine (num_any _ _).mono ?_; rintro e wq ⟨rfl, hwq⟩; obtain rfl := hwq.symm)
  refine hg.out.mono ?_
  rintro e w7 ⟨rfl, hb0⟩
  have P7 := hid (P6.out.below hb0)
  have V7 := V6.out.below hb0
  have B7 : Hid (Below w.heap.size w w7) := hid (B6.out.trans (hb0.mono B6.out.size))
  have hv0 := vget_any ka V7 (claim_ok (st_ok (p := 2) (r := 3) (by omega) (by omega)) _)
  rw [lv_v] at hv0
  simp only [vl0] at hv0
  have hv := hid hv0
  clear hb0 hg P6 V6 B6 V7 hv0 x0 x1 x2 x3
  go_wp2_with fail
  refine hv.out.mono ?_
  rintro e w8 ⟨rfl, hb0⟩
  have P8 := hid (P7.out.below hb0)
  have B8 : Hid (Below w.heap.size w w8) := hid (B7.out.trans (hb0.mono B7.out.size))
  have hc0 := claimed_b kb P8.out (by decide)
  rw [lv_h] at hc0
  have hc := hid hc0
  clear hb0 hv P7 B7 hc0
  go_wp2_with fail
  refine hc.out.mono ?_
  rintro e w9 ⟨rfl, hb0⟩
  have B9 : Hid (Below w.heap.size w w9) := hid (B8.out.trans (hb0.mono B8.out.size))
  clear hb0 hc P8 B8
  go_wp2_with fail
  go_ret
  exact ⟨rfl, B9.out⟩
end
end Go.Proofs.YtphglnenafdkaaaGreatDoor

namespace Go.Proofs.YtphglnenafdkaaaGreatDoor
open Go.RowKit
set_option linter.unusedVariables false
set_option linter.unusedSimpArgs false

theorem long_no {us : List SA} (h : longB us = false) : us.length ≤ 200 ∧ ∀ a ∈ us, a.ks.length ≤ 6000 ∧ a.ws.length ≤ 6000 := by
  unfold longB at h
  simp at h
  refine ⟨by omega, fun a ha => ?_⟩
  have := partsA_mem ha
  unfold partA at this
  omega
theorem good_pr {p r : Int} (h : goodPR p r = true) : ∃ p' r' : Nat, p = p' ∧ r = r' ∧ (1 ≤ p' ∧ p' ≤ 64) ∧ (1 ≤ r' ∧ r' ≤ 4096) := by
  unfold goodPR at h
  simp at h
  exact ⟨p.toNat, r.toNat, by omega, by omega, by omega, by omega⟩
/-- a store's bytes as a text -/
def btS (s : St) : ByteArray := bt ((bytesS s).map UInt8.toNat)
theorem bcells_bytes (l : List UInt8) : Lib.byteCells l = bcells (l.map UInt8.toNat) := by
  unfold Lib.byteCells bcells
  rw [List.map_map]; rfl
theorem bytes_text {S : Nat → Prop} {w : World} {g : Nat} {s : St} (h : PAt S w g s) (he : Env w) (hr : RngL s.L) : Calls Tryz.prog 13 #[.pointer (some ⟨g, 0, none⟩)] w fun e w' => ∃ A n c, e = .returned (.slice A n c) ∧ (convert 41 9 (.slice A n c)).run Tryz.prog w' = .ok (.string (btS s)) w' ∧ Below w.heap.size w w' := by
  refine (bytes_any h he hr).mono ?_
  rintro e w' ⟨v, rfl, ho, hb⟩
  obtain ⟨A, c, rfl, _⟩ := own_form ho
  rw [bcells_bytes] at ho
  exact ⟨A, _, c, rfl, convB (Rd.of_own ho) (by simp), hb⟩
/-- the store, within a round -/
structure RoomRel (g : Nat) (p r : Nat) (w1 wr : World) : Prop where
  st : ∃ S s, PAt S wr g s ∧ (∀ j, S j → w1.heap.size ≤ j) ∧ RngL s.L ∧ s.parts = p ∧ s.room = r
  bel : Below w1.heap.size w1 wr
theorem claimS_pr (s : St) (ks : List ByteArray) : (claimS s ks).parts = s.parts ∧ (claimS s ks).room = s.room := by unfold claimS; split <;> exact ⟨rfl, rfl⟩
theorem applyS_pr (s : St) (ws : List Wr) : (applyS s ws).parts = s.parts ∧ (applyS s ws).room = s.room := by unfold applyS; split <;> exact ⟨rfl, rfl⟩
theorem applyE_ne5 (s : St) (ws : List Wr) : applyE s ws ≠ 5 := by
  have key : ∀ n i, (scan (wrE s ws) n i).1 ≠ 5 := by
    intro n
    induction n with
    | zero => intro i; simp [scan]
    | succ n ih =>
      intro i
      unfold scan
      split
      · exact ih _
      · exact wrE_ne5 s ws i
  exact key _ _
section
variable {w w' : World}
end
end Go.Proofs.YtphglnenafdkaaaGreatDoor

namespace Go.Proofs.YtphglnenafdkaaaGreatDoor
open Go.RowKit
set_option linter.unusedVariables false
set_option linter.unusedSimpArgs false

theorem btS_eq (s : St) : btS s = ⟨(bytesS s).toArray⟩ := by
  unfold btS bt
  congr 1
  rw [List.map_map]
  congr 1
  conv => rhs; rw [← List.map_id (bytesS s)]
  apply List.map_congr_left
  intro c _
  simp
theorem beq_text (t : ByteArray) : (t.toList == t.toList) = true := by simp
theorem neqValF (v : Vl) (w : World) : (binOp .neq 38 (.agg #[.int .i64 v.k, .int .i64 v.n, .string v.s]) (.agg #[.int .i64 v.k, .int .i64 v.n, .string v.s])).run Tryz.prog w = .ok (.bool false) w := by
  rw [run_neq_struct, run_eqVal]; simp [Result.andThen]
theorem bytes_textP {S : Nat → Prop} {w : World} {g : Nat} {s : St} (h : PAt S w g s) (he : Env w) (hr : RngL s.L) : Calls Tryz.prog 13 #[.pointer (some ⟨g, 0, none⟩)] w fun e w' => ∃ A n c, e = .returned (.slice A n c) ∧ (∀ w'', Below w'.heap.size w' w'' → (convert 41 9 (.slice A n c)).run Tryz.prog w'' = .ok (.string (btS s)) w'') ∧ Below w.heap.size w w' := by
  refine (bytes_any h he hr).mono ?_
  rintro e w' ⟨v, rfl, ho, hb⟩
  obtain ⟨A, c, rfl, _⟩ := own_form ho
  rw [bcells_bytes] at ho
  exact ⟨A, _, c, rfl, fun w'' h => convB ((Rd.of_own ho).below_all h) (by simp), hb⟩
section
variable {S S2 : Nat → Prop} {w w' : World} {g r : Nat} {s : St}
theorem rbytes_text (h : RAt S w r s) (hr : RngL s.L) : Calls Tryz.prog 52 #[.pointer (some ⟨r, 0, none⟩)] w fun e w' => e = .returned (.string (btS s)) ∧ Below w.heap.size w w' := by
  rw [btS_eq]; exact rbytes_any h hr
set_option maxRecDepth 100000 in
set_option maxHeartbeats 4000000 in
theorem items_eq {S1 S2 : Nat → Prop} {A B : Option Addr} {c d : Nat} (M : List Kv) (h1 : Rd S1 w 4 A M.length (kvCells M)) (h2 : Rd S2 w 4 B M.length (kvCells M)) (hn : M.length ≤ 1000000) :
    Calls Tryz.prog 26 #[.slice A M.length c, .slice B M.length d] w fun e w' => e = .returned (.bool true) ∧ Below w.heap.size w w' := by
  have ha := hid h1
  have hb := hid h2
  have hn9 : (M.length : Int) ≤ 1000000 := by omega
  clear h1 h2 hn
  go_enter Tryz.func26, Tryz.ntmps26
  go_wp2_with fail
  go_loopw [5] (fun v wr => ∃ i : Nat, v = .int .i64 i ∧ i ≤ M.length ∧ Below w.heap.size w wr) (fun v _ => M.length - (intOf v).toNat)
  case atStart => exact ⟨0, rfl, Nat.zero_le _, Below.refl _ _⟩
  case round =>
    obtain ⟨i, rfl, hi, hB0⟩ := hrel
    have hB := hid hB0
    clear hB0
    by_cases hlt : i < M.length
    · have i1 : (i : Int) < (M.length : Int) := by omega
      have i2 : IntKind.i64.wrap ((i : Int) + 1) = (i : Int) + 1 := by rw [IntKind.wrap_i64]; omega
      obtain ⟨b1, o1, hA9, _, _, x0, x1, x2, x3⟩ := rd_kv (ha.out.below_all hB.out) hlt
      obtain ⟨b2, o2, hB9, _, _, y0, y1, y2, y3⟩ := rd_kv (hb.out.below_all hB.out) hlt
      subst hA9 hB9
      generalize M[i] = x at *
      have hlt9 := hid hlt
      clear hlt
      go_wp2_with fail
      go_quiet (fail)
      go_wp2_with fail
      go_roundw
      case rel => exact ⟨i + 1, by go_num, hlt9.out, below_drewN hB.out _⟩
      case measure => simp [intOf]; have := hlt9.out; omega
    · obtain rfl : i = M.length := by omega
      go_wp2_with fail
      go_ret
      exact ⟨rfl, hB.out⟩
set_option maxRecDepth 100000 in
set_option maxHeartbeats 4000000 in
theorem keysL_eq {S1 S2 : Nat → Prop} {A B : Option Addr} {c d : Nat} (M : List Kv) (h1 : Rd S1 w 1 A M.length (strs (M.map (·.1)))) (h2 : Rd S2 w 4 B M.length (kvCells M)) (hn : M.length ≤ 1000000) :
    Calls Tryz.prog 51 #[.slice A M.length c, .slice B M.length d] w fun e w' => e = .returned (.bool true) ∧ Below w.heap.size w w' := by
  have ha := hid h1
  have hb := hid h2
  have hn9 : (M.length : Int) ≤ 1000000 := by omega
  clear h1 h2 hn
  go_enter Tryz.func51, Tryz.ntmps51
  go_wp2_with fail
  go_loopw [5] (fun v wr => ∃ i : Nat, v = .int .i64 i ∧ i ≤ M.length ∧ Below w.heap.size w wr) (fun v _ => M.length - (intOf v).toNat)
  case atStart => exact ⟨0, rfl, Nat.zero_le _, Below.refl _ _⟩
  case round =>
    obtain ⟨i, rfl, hi, hB0⟩ := hrel
    have hB := hid hB0
    clear hB0
    by_cases hlt : i < M.length
    · have i1 : (i : Int) < (M.length : Int) := by omega
      have i2 : IntKind.i64.wrap ((i : Int) + 1) = (i : Int) + 1 := by rw [IntKind.wrap_i64]; omega
      obtain ⟨b1, o1, hA9, _, _, x0⟩ := rd_strs (ks := M.map (·.1)) (by rw [List.length_map]; exact ha.out.below_all hB.out) (i := i) (by rw [List.length_map]; exact hlt)
      rw [show (M.map (·.1))[i]'(by rw [List.length_map]; exact hlt) = M[i].1 by simp] at x0
      obtain ⟨b2, o2, hB9, _, _, y0, -⟩ := rd_kv (hb.out.below_all hB.out) hlt
      subst hA9 hB9
      generalize (M[i]).1 = x at *
      have hlt9 := hid hlt
      clear hlt
      go_wp2_with fail
      go_quiet (fail)
      go_wp2_with fail
      go_roundw
      case rel => exact ⟨i + 1, by go_num, hlt9.out, below_drewN hB.out _⟩
      case measure => simp [intOf]; have := hlt9.out; omega
    · obtain rfl : i = M.length := by omega
      go_wp2_with fail
      go_ret
      exact ⟨rfl, hB.out⟩
set_option maxRecDepth 100000 in
set_option maxHeartbeats 4000000 in
theorem stands_any (h1 : PAt S w g s) (h2 : RAt S2 w r s) (he : Env w) (hr : RngL s.L) : Calls Tryz.prog 21 #[.pointer (some ⟨g, 0, none⟩), .pointer (some ⟨r, 0, none⟩)] w fun e w' => e = .returned (.bool true) ∧ Below w.heap.size w w' := by
  have hll0 := h1.ok.len
  have hok := hid h1.ok
  have hdl := hid (show (dumpL s.L).length ≤ 1000000 from Nat.le_trans (List.length_filter_le _ _) (by omega))
  have hll := hid (show s.L.length ≤ 1000000 by omega)
  have hpr := hid (show (s.parts : Int) ≤ 64 by have := h1.ok.parts; omega)
  have hRng := hid hr
  clear hll0 hr
  go_enter Tryz.func21, Tryz.ntmps21
  go_upto_region 1 with fail
  obtain ⟨RA, rc, hin⟩ := h2
  have hX := hid (fun W (hW : Below w.heap.size w W) => (hin.below hW).cells)
  have hRd := hid hin.rd.all
  have h2 : RAt S2 w r s := ⟨RA, rc, hin⟩
  clear hin
  refine wp_region_held_drew (S := fun w' => Below w.heap.size w w') (by kernel_rfl) ?_ (fun hHeld => ?_)
  · exact (Below.refl _ _).drew
  have hbd := hid ((Below.refl w.heap.size w).drew)
  have hP := hid (h1.below hbd.out)
  have hR := hid (h2.below hbd.out)
  have hE := hid (he.below hbd.out)
  generalize World.drew w = wd at *
  clear h1 h2 he
  refine wpAnyH_take (i := 0) (v := ?v1) rfl (by kernel_rfl) (by kernel_rfl) (by kernel_rfl) (fun _ _ _ h => h) (Or.inl ⟨by rfl, ?hy1⟩) (by assumption) ?rest1
  case hy1 => intro w' hSw; (try dsimp only at hSw); go_simp; try with_reducible rfl
  (try simp only [Act.put, List.setIfInBounds_toArray, List.set_cons_zero, List.set_cons_succ, List.getElem_toArray, List.getElem_cons_zero, List.getElem_cons_succ])
  refine wpAnyH_take (i := 2) (v := ?v2) rfl (by kernel_rfl) (by kernel_rfl) (by kernel_rfl) (fun _ _ _ h => h) (Or.inl ⟨by rfl, ?hy2⟩) (by assumption) ?rest2
  case hy2 => intro w' hSw; obtain ⟨q0, q1, q2⟩ := hX.out w' hSw; (try dsimp only at hSw); go_simp; try with_reducible rfl
  (try simp only [Act.put, List.setIfInBounds_toArray, List.set_cons_zero, List.set_cons_succ, List.getElem_toArray, List.getElem_cons_zero, List.getElem_cons_succ])
  refine wpAnyH_take (i := 3) (v := ?v3) rfl (by kernel_rfl) (by kernel_rfl) (by kernel_rfl) (fun _ _ _ h => h) (Or.inl ⟨by rfl, ?hy3⟩) (by assumption) ?rest3
  case hy3 => intro w' hSw; obtain ⟨q0, q1, q2⟩ := hX.out w' hSw; (try dsimp only at hSw); go_simp; try with_reducible rfl
  (try simp only [Act.put, List.setIfInBounds_toArray, List.set_cons_zero, List.set_cons_succ, List.getElem_toArray, List.getElem_cons_zero, List.getElem_cons_succ])
  refine wpAnyH_take (i := 4) (v := ?v4) rfl (by kernel_rfl) (by kernel_rfl) (by kernel_rfl) (fun _ _ _ h => h) (Or.inl ⟨by rfl, ?hy4⟩) (by assumption) ?rest4
  case hy4 => intro w' hSw; obtain ⟨q0, q1, q2⟩ := hX.out w' hSw; (try dsimp only at hSw); go_simp; try with_reducible rfl
  (try simp only [Act.put, List.setIfInBounds_toArray, List.set_cons_zero, List.set_cons_succ, List.getElem_toArray, List.getElem_cons_zero, List.getElem_cons_succ])
  refine wpAnyH_take (i := 5) (v := ?v5) rfl (by kernel_rfl) (by kernel_rfl) (by kernel_rfl) (fun _ _ _ h => h) (Or.inl ⟨by rfl, ?hy5⟩) (by assumption) ?rest5
  case hy5 => intro w' hSw; obtain ⟨q0, q1, q2⟩ := hX.out w' hSw; (try dsimp only at hSw); go_simp; try with_reducible rfl
  (try simp only [Act.put, List.setIfInBounds_toArray, List.set_cons_zero, List.set_cons_succ, List.getElem_toArray, List.getElem_cons_zero, List.getElem_cons_succ])
  refine wpAnyH_ready (rs := [1]) (by kernel_rfl) (by simp) ?_
  refine AllReadyH.cons rfl (fun K hK => ?_) AllReadyH.nil
  go_simp
  refine (parts_any hP.out).mono ?_
  rintro e wq ⟨rfl, hwq⟩
  obtain rfl := hwq.symm
  refine hK.out _ _ ?_ (fun hHeld => ?_)
  · exact hbd.out
  clear hK K
  (try simp only [Act.put, List.setIfInBounds_toArray, List.set_cons_zero, List.set_cons_succ, List.getElem_toArray, List.getElem_cons_zero, List.getElem_cons_succ])
  refine wpAnyH_take (i := 6) (v := ?v6) rfl (by kernel_rfl) (by kernel_rfl) (by kernel_rfl) (fun _ _ _ h => h) (Or.inl ⟨by rfl, ?hy6⟩) (by assumption) ?rest6
  case hy6 => intro w' hSw; (try dsimp only at hSw); go_simp; try with_reducible rfl
  (try simp only [Act.put, List.setIfInBounds_toArray, List.set_cons_zero, List.set_cons_succ, List.getElem_toArray, List.getElem_cons_zero, List.getElem_cons_succ])
  refine wpAnyH_take (i := 7) (v := ?v7) rfl (by kernel_rfl) (by kernel_rfl) (by kernel_rfl) (fun _ _ _ h => h) (Or.inl ⟨by rfl, ?hy7⟩) (by assumption) ?rest7
  case hy7 => intro w' hSw; (try dsimp only at hSw); go_simp; try with_reducible rfl
  (try simp only [Act.put, List.setIfInBounds_toArray, List.set_cons_zero, List.set_cons_succ, List.getElem_toArray, List.getElem_cons_zero, List.getElem_cons_succ])
  refine wpAnyH_take (i := 8) (v := ?v8) rfl (by kernel_rfl) (by kernel_rfl) (by kernel_rfl) (fun _ _ _ h => h) (Or.inl ⟨by rfl, ?hy8⟩) (by assumption) ?rest8
  case hy8 => intro w' hSw; (try dsimp only at hSw); go_simp; try with_reducible rfl
  (try simp only [Act.put, List.setIfInBounds_toArray, List.set_cons_zero, List.set_cons_succ, List.getElem_toArray, List.getElem_cons_zero, List.getElem_cons_succ])
  refine wpAnyH_take (i := 10) (v := ?v9) rfl (by kernel_rfl) (by kernel_rfl) (by kernel_rfl) (fun _ _ _ h => h) (Or.inl ⟨by rfl, ?hy9⟩) (by assumption) ?rest9
  case hy9 => intro w' hSw; (try dsimp only at hSw); go_simp; try with_reducible rfl
  (try simp only [Act.put, List.setIfInBounds_toArray, List.set_cons_zero, List.set_cons_succ, List.getElem_toArray, List.getElem_cons_zero, List.getElem_cons_succ])
  refine wpAnyH_take (i := 11) (v := ?v10) rfl (by kernel_rfl) (by kernel_rfl) (by kernel_rfl) (fun _ _ _ h => h) (Or.inl ⟨by rfl, ?hy10⟩) (by assumption) ?rest10
  case hy10 => intro w' hSw; obtain ⟨q0, q1, q2⟩ := hX.out w' hSw; (try dsimp only at hSw); go_simp; try with_reducible rfl
  (try simp only [Act.put, List.setIfInBounds_toArray, List.set_cons_zero, List.set_cons_succ, List.getElem_toArray, List.getElem_cons_zero, List.getElem_cons_succ])
  refine wpAnyH_take (i := 12) (v := ?v11) rfl (by kernel_rfl) (by kernel_rfl) (by kernel_rfl) (fun _ _ _ h => h) (Or.inl ⟨by rfl, ?hy11⟩) (by assumption) ?rest11
  case hy11 => intro w' hSw; obtain ⟨q0, q1, q2⟩ := hX.out w' hSw; (try dsimp only at hSw); go_simp; try with_reducible rfl
  (try simp only [Act.put, List.setIfInBounds_toArray, List.set_cons_zero, List.set_cons_succ, List.getElem_toArray, List.getElem_cons_zero, List.getElem_cons_succ])
  refine wpAnyH_take (i := 13) (v := ?v12) rfl (by kernel_rfl) (by kernel_rfl) (by kernel_rfl) (fun _ _ _ h => h) (Or.inl ⟨by rfl, ?hy12⟩) (by assumption) ?rest12
  case hy12 => intro w' hSw; obtain ⟨q0, q1, q2⟩ := hX.out w' hSw; (try dsimp only at hSw); go_simp; try with_reducible rfl
  (try simp only [Act.put, List.setIfInBounds_toArray, List.set_cons_zero, List.set_cons_succ, List.getElem_toArray, List.getElem_cons_zero, List.getElem_cons_succ])
  refine wpAnyH_ready (rs := [9]) (by kernel_rfl) (by simp) ?_
  refine AllReadyH.cons rfl (fun K hK => ?_) AllReadyH.nil
  rw [if_pos (by rfl)]
  go_simp
  refine (sroom_any hP.out).mono ?_
  rintro e wq ⟨rfl, hwq⟩
  obtain rfl := hwq.symm
  refine hK.out _ _ ?_ (fun hHeld => ?_)
  · exact hbd.out
  clear hK K
  (try simp only [Act.put, List.setIfInBounds_toArray, List.set_cons_zero, List.set_cons_succ, List.getElem_toArray, List.getElem_cons_zero, List.getElem_cons_succ])
  refine wpAnyH_take (i := 14) (v := ?v13) rfl (by kernel_rfl) (by kernel_rfl) (by kernel_rfl) (fun _ _ _ h => h) (Or.inl ⟨by rfl, ?hy13⟩) (by assumption) ?rest13
  case hy13 => intro w' hSw; (try dsimp only at hSw); go_simp; try with_reducible rfl
  (try simp only [Act.put, List.setIfInBounds_toArray, List.set_cons_zero, List.set_cons_succ, List.getElem_toArray, List.getElem_cons_zero, List.getElem_cons_succ])
  refine wpAnyH_take (i := 15) (v := ?v14) rfl (by kernel_rfl) (by kernel_rfl) (by kernel_rfl) (fun _ _ _ h => h) (Or.inl ⟨by rfl, ?hy14⟩) (by assumption) ?rest14
  case hy14 => intro w' hSw; (try dsimp only at hSw); go_simp; try with_reducible rfl
  (try simp only [Act.put, List.setIfInBounds_toArray, List.set_cons_zero, List.set_cons_succ, List.getElem_toArray, List.getElem_cons_zero, List.getElem_cons_succ])
  refine wpAnyH_take (i := 16) (v := ?v15) rfl (by kernel_rfl) (by kernel_rfl) (by kernel_rfl) (fun _ _ _ h => h) (Or.inl ⟨by rfl, ?hy15⟩) (by assumption) ?rest15
  case hy15 => intro w' hSw; (try dsimp only at hSw); go_simp; try with_reducible rfl
  (try simp only [Act.put, List.setIfInBounds_toArray, List.set_cons_zero, List.set_cons_succ, List.getElem_toArray, List.getElem_cons_zero, List.getElem_cons_succ])
  refine wpAnyH_take (i := 17) (v := ?v16) rfl (by kernel_rfl) (by kernel_rfl) (by kernel_rfl) (fun _ _ _ h => h) (Or.inl ⟨by rfl, ?hy16⟩) (by assumption) ?rest16
  case hy16 => intro w' hSw; (try dsimp only at hSw); go_simp; try with_reducible rfl
  (try simp only [Act.put, List.setIfInBounds_toArray, List.set_cons_zero, List.set_cons_succ, List.getElem_toArray, List.getElem_cons_zero, List.getElem_cons_succ])
  refine wpAnyH_take (i := 19) (v := ?v17) rfl (by kernel_rfl) (by kernel_rfl) (by kernel_rfl) (fun _ _ _ h => h) (Or.inl ⟨by rfl, ?hy17⟩) (by assumption) ?rest17
  case hy17 => intro w' hSw; (try dsimp only at hSw); go_simp; try with_reducible rfl
  (try simp only [Act.put, List.setIfInBounds_toArray, List.set_cons_zero, List.set_cons_succ, List.getElem_toArray, List.getElem_cons_zero, List.getElem_cons_succ])
  refine wpAnyH_ready (rs := [18]) (by kernel_rfl) (by simp) ?_
  refine AllReadyH.cons rfl (fun K hK => ?_) AllReadyH.nil
  rw [if_pos (by rfl)]
  go_simp
  refine (dumpM_any hP.out).mono ?_
  rintro e w1 ⟨A1, c1, rfl, ho10, hb10⟩
  have ho1 := hid ho10
  have hb1 := hid hb10
  clear ho10 hb10
  refine hK.out _ _ ?_ (fun hHeld => ?_)
  · exact hbd.out.trans (hb1.out.mono hbd.out.size)
  clear hK K
  (try simp only [Act.put, List.setIfInBounds_toArray, List.set_cons_zero, List.set_cons_succ, List.getElem_toArray, List.getElem_cons_zero, List.getElem_cons_succ])
  refine wpAnyH_ready (rs := [20]) (by kernel_rfl) (by simp) ?_
  refine AllReadyH.cons rfl (fun K hK => ?_) AllReadyH.nil
  rw [if_pos (by rfl)]
  go_simp
  refine (rdump_any (hR.out.below hb1.out)).mono ?_
  rintro e w2 ⟨A2, c2, rfl, ho20, hb20⟩
  have ho2 := hid ho20
  have ho1 := hid (own_below ho1.out hb20)
  have hb2 := hid (hb1.out.trans (hb20.mono hb1.out.size))
  clear ho20 hb20 hb1
  refine hK.out _ _ ?_ (fun hHeld => ?_)
  · exact hbd.out.trans (hb2.out.mono hbd.out.size)
  clear hK K
  (try simp only [Act.put, List.setIfInBounds_toArray, List.set_cons_zero, List.set_cons_succ, List.getElem_toArray, List.getElem_cons_zero, List.getElem_cons_succ])
  refine wpAnyH_ready (rs := [21]) (by kernel_rfl) (by simp) ?_
  refine AllReadyH.cons rfl (fun K hK => ?_) AllReadyH.nil
  rw [if_pos (by rfl)]
  go_simp
  refine (items_eq (c := c1) (d := c2) (dumpL s.L) (Rd.of_own' ho1.out) (Rd.of_own' ho2.out) hdl.out).mono ?_
  rintro e w3 ⟨rfl, hb30⟩
  have hb3 := hid (hb2.out.trans (hb30.mono hb2.out.size))
  clear hb30 hb2 ho1 ho2
  refine hK.out _ _ ?_ (fun hHeld => ?_)
  · exact hbd.out.trans (hb3.out.mono hbd.out.size)
  clear hK K
  (try simp only [Act.put, List.setIfInBounds_toArray, List.set_cons_zero, List.set_cons_succ, List.getElem_toArray, List.getElem_cons_zero, List.getElem_cons_succ])
  refine wpAnyH_take (i := 22) (v := ?v18) rfl (by kernel_rfl) (by kernel_rfl) (by kernel_rfl) (fun _ _ _ h => h) (Or.inl ⟨by rfl, ?hy18⟩) (by assumption) ?rest18
  case hy18 => intro w' hSw; (try dsimp only at hSw); go_simp; try with_reducible rfl
  (try simp only [Act.put, List.setIfInBounds_toArray, List.set_cons_zero, List.set_cons_succ, List.getElem_toArray, List.getElem_cons_zero, List.getElem_cons_succ])
  refine wpAnyH_take (i := 23) (v := ?v19) rfl (by kernel_rfl) (by kernel_rfl) (by kernel_rfl) (fun _ _ _ h => h) (Or.inl ⟨by rfl, ?hy19⟩) (by assumption) ?rest19
  case hy19 => intro w' hSw; (try dsimp only at hSw); go_simp; try with_reducible rfl
  (try simp only [Act.put, List.setIfInBounds_toArray, List.set_cons_zero, List.set_cons_succ, List.getElem_toArray, List.getElem_cons_zero, List.getElem_cons_succ])
  refine wpAnyH_take (i := 24) (v := ?v20) rfl (by kernel_rfl) (by kernel_rfl) (by kernel_rfl) (fun _ _ _ h => h) (Or.inl ⟨by rfl, ?hy20⟩) (by assumption) ?rest20
  case hy20 => intro w' hSw; (try dsimp only at hSw); go_simp; try with_reducible rfl
  (try simp only [Act.put, List.setIfInBounds_toArray, List.set_cons_zero, List.set_cons_succ, List.getElem_toArray, List.getElem_cons_zero, List.getElem_cons_succ])
  refine wpAnyH_take (i := 25) (v := ?v21) rfl (by kernel_rfl) (by kernel_rfl) (by kernel_rfl) (fun _ _ _ h => h) (Or.inl ⟨by rfl, ?hy21⟩) (by assumption) ?rest21
  case hy21 => intro w' hSw; (try dsimp only at hSw); go_simp; try with_reducible rfl
  (try simp only [Act.put, List.setIfInBounds_toArray, List.set_cons_zero, List.set_cons_succ, List.getElem_toArray, List.getElem_cons_zero, List.getElem_cons_succ])
  refine wpAnyH_take (i := 27) (v := ?v22) rfl (by kernel_rfl) (by kernel_rfl) (by kernel_rfl) (fun _ _ _ h => h) (Or.inl ⟨by rfl, ?hy22⟩) (by assumption) ?rest22
  case hy22 => intro w' hSw; (try dsimp only at hSw); go_simp; try with_reducible rfl
  (try simp only [Act.put, List.setIfInBounds_toArray, List.set_cons_zero, List.set_cons_succ, List.getElem_toArray, List.getElem_cons_zero, List.getElem_cons_succ])
  refine wpAnyH_take (i := 28) (v := ?v23) rfl (by kernel_rfl) (by kernel_rfl) (by kernel_rfl) (fun _ _ _ h => h) (Or.inl ⟨by rfl, ?hy23⟩) (by assumption) ?rest23
  case hy23 => intro w' hSw; obtain ⟨q0, q1, q2⟩ := hX.out w' hSw; (try dsimp only at hSw); go_simp; try with_reducible rfl
  (try simp only [Act.put, List.setIfInBounds_toArray, List.set_cons_zero, List.set_cons_succ, List.getElem_toArray, List.getElem_cons_zero, List.getElem_cons_succ])
  refine wpAnyH_take (i := 29) (v := ?v24) rfl (by kernel_rfl) (by kernel_rfl) (by kernel_rfl) (fun _ _ _ h => h) (Or.inl ⟨by rfl, ?hy24⟩) (by assumption) ?rest24
  case hy24 => intro w' hSw; obtain ⟨q0, q1, q2⟩ := hX.out w' hSw; (try dsimp only at hSw); go_simp; try with_reducible rfl
  (try simp only [Act.put, List.setIfInBounds_toArray, List.set_cons_zero, List.set_cons_succ, List.getElem_toArray, List.getElem_cons_zero, List.getElem_cons_succ])
  refine wpAnyH_take (i := 30) (v := ?v25) rfl (by kernel_rfl) (by kernel_rfl) (by kernel_rfl) (fun _ _ _ h => h) (Or.inl ⟨by rfl, ?hy25⟩) (by assumption) ?rest25
  case hy25 => intro w' hSw; obtain ⟨q0, q1, q2⟩ := hX.out w' hSw; (try dsimp only at hSw); go_simp; try with_reducible rfl
  (try simp only [Act.put, List.setIfInBounds_toArray, List.set_cons_zero, List.set_cons_succ, List.getElem_toArray, List.getElem_cons_zero, List.getElem_cons_succ])
  refine wpAnyH_ready (rs := [26]) (by kernel_rfl) (by simp) ?_
  refine AllReadyH.cons rfl (fun K hK => ?_) AllReadyH.nil
  rw [if_pos (by rfl)]
  go_simp
  refine (keys_any (hP.out.below hb3.out)).mono ?_
  rintro e w4 ⟨A4, c4, rfl, ho40, hb40⟩
  have ho4 := hid ho40
  have hb4 := hid (hb3.out.trans (hb40.mono hb3.out.size))
  clear ho40 hb40 hb3
  refine hK.out _ _ ?_ (fun hHeld => ?_)
  · exact hbd.out.trans (hb4.out.mono hbd.out.size)
  clear hK K
  (try simp only [Act.put, List.setIfInBounds_toArray, List.set_cons_zero, List.set_cons_succ, List.getElem_toArray, List.getElem_cons_zero, List.getElem_cons_succ])
  refine wpAnyH_ready (rs := [31]) (by kernel_rfl) (by simp) ?_
  refine AllReadyH.cons rfl (fun K hK => ?_) AllReadyH.nil
  rw [if_pos (by rfl)]
  go_simp
  refine (keysL_eq (c := c4) (d := rc) s.L (Rd.of_own' ho4.out) (hRd.out.below_all (hbd.out.trans (hb4.out.mono hbd.out.size))) hll.out).mono ?_
  rintro e w5 ⟨rfl, hb50⟩
  have hb5 := hid (hb4.out.trans (hb50.mono hb4.out.size))
  clear hb50 hb4 ho4
  refine hK.out _ _ ?_ (fun hHeld => ?_)
  · exact hbd.out.trans (hb5.out.mono hbd.out.size)
  clear hK K
  (try simp only [Act.put, List.setIfInBounds_toArray, List.set_cons_zero, List.set_cons_succ, List.getElem_toArray, List.getElem_cons_zero, List.getElem_cons_succ])
  refine wpAnyH_take (i := 32) (v := ?v26) rfl (by kernel_rfl) (by kernel_rfl) (by kernel_rfl) (fun _ _ _ h => h) (Or.inl ⟨by rfl, ?hy26⟩) (by assumption) ?rest26
  case hy26 => intro w' hSw; (try dsimp only at hSw); go_simp; try with_reducible rfl
  (try simp only [Act.put, List.setIfInBounds_toArray, List.set_cons_zero, List.set_cons_succ, List.getElem_toArray, List.getElem_cons_zero, List.getElem_cons_succ])
  refine wpAnyH_take (i := 33) (v := ?v27) rfl (by kernel_rfl) (by kernel_rfl) (by kernel_rfl) (fun _ _ _ h => h) (Or.inl ⟨by rfl, ?hy27⟩) (by assumption) ?rest27
  case hy27 => intro w' hSw; (try dsimp only at hSw); go_simp; try with_reducible rfl
  (try simp only [Act.put, List.setIfInBounds_toArray, List.set_cons_zero, List.set_cons_succ, List.getElem_toArray, List.getElem_cons_zero, List.getElem_cons_succ])
  refine wpAnyH_take (i := 34) (v := ?v28) rfl (by kernel_rfl) (by kernel_rfl) (by kernel_rfl) (fun _ _ _ h => h) (Or.inl ⟨by rfl, ?hy28⟩) (by assumption) ?rest28
  case hy28 => intro w' hSw; (try dsimp only at hSw); go_simp; try with_reducible rfl
  (try simp only [Act.put, List.setIfInBounds_toArray, List.set_cons_zero, List.set_cons_succ, List.getElem_toArray, List.getElem_cons_zero, List.getElem_cons_succ])
  refine wpAnyH_take (i := 35) (v := ?v29) rfl (by kernel_rfl) (by kernel_rfl) (by kernel_rfl) (fun _ _ _ h => h) (Or.inl ⟨by rfl, ?hy29⟩) (by assumption) ?rest29
  case hy29 => intro w' hSw; (try dsimp only at hSw); go_simp; try with_reducible rfl
  (try simp only [Act.put, List.setIfInBounds_toArray, List.set_cons_zero, List.set_cons_succ, List.getElem_toArray, List.getElem_cons_zero, List.getElem_cons_succ])
  refine wpAnyH_take (i := 38) (v := ?v30) rfl (by kernel_rfl) (by kernel_rfl) (by kernel_rfl) (fun _ _ _ h => h) (Or.inl ⟨by rfl, ?hy30⟩) (by assumption) ?rest30
  case hy30 => intro w' hSw; (try dsimp only at hSw); go_simp; try with_reducible rfl
  (try simp only [Act.put, List.setIfInBounds_toArray, List.set_cons_zero, List.set_cons_succ, List.getElem_toArray, List.getElem_cons_zero, List.getElem_cons_succ])
  refine wpAnyH_ready (rs := [36]) (by kernel_rfl) (by simp) ?_
  refine AllReadyH.cons rfl (fun K hK => ?_) AllReadyH.nil
  rw [if_pos (by rfl)]
  go_simp
  refine (bytes_textP (hP.out.below hb5.out) (hE.out.below hb5.out) hRng.out).mono ?_
  rintro e w6 ⟨A6, n6, c6, rfl, hcv0, hb60⟩
  have hcv := hid hcv0
  have hb6 := hid (hb5.out.trans (hb60.mono hb5.out.size))
  clear hcv0 hb60 hb5
  refine hK.out _ _ ?_ (fun hHeld => ?_)
  · exact hbd.out.trans (hb6.out.mono hbd.out.size)
  clear hK K
  (try simp only [Act.put, List.setIfInBounds_toArray, List.set_cons_zero, List.set_cons_succ, List.getElem_toArray, List.getElem_cons_zero, List.getElem_cons_succ])
  refine wpAnyH_more (S' := fun w'' => Below w6.heap.size w6 w'') (fun w h => (hbd.out.trans (hb6.out.mono hbd.out.size)).trans (Below.mono h (by have := hbd.out.size; have := hb6.out.size; omega))) _ _ _ _ ?_
  have hHeld := Below.refl w6.heap.size w6
  refine wpAnyH_take (i := 37) (v := ?v31) rfl (by kernel_rfl) (by kernel_rfl) (by kernel_rfl) (fun _ _ _ h => h) (Or.inl ⟨by rfl, ?hy31⟩) (by assumption) ?rest31
  case hy31 => intro w' hSw; have hq := hcv.out w' hSw; (try dsimp only at hSw); go_simp; try with_reducible rfl
  (try simp only [Act.put, List.setIfInBounds_toArray, List.set_cons_zero, List.set_cons_succ, List.getElem_toArray, List.getElem_cons_zero, List.getElem_cons_succ])
  refine wpAnyH_ready (rs := [39]) (by kernel_rfl) (by simp) ?_
  refine AllReadyH.cons rfl (fun K hK => ?_) AllReadyH.nil
  rw [if_pos (by rfl)]
  go_simp
  refine (rbytes_text (hR.out.below hb6.out) hRng.out).mono ?_
  rintro e w7 ⟨rfl, hb70⟩
  have hb7 := hid hb70
  have hb8 := hid (hb6.out.trans (hb70.mono hb6.out.size))
  clear hb70 hb6 hcv
  refine hK.out _ _ ?_ (fun hHeld => ?_)
  · exact hb7.out
  clear hK K
  (try simp only [Act.put, List.setIfInBounds_toArray, List.set_cons_zero, List.set_cons_succ, List.getElem_toArray, List.getElem_cons_zero, List.getElem_cons_succ])
  have heq := beq_text (btS s)
  generalize btS s = tx at *
  refine wpAnyH_take (i := 40) (v := ?v32) rfl (by kernel_rfl) (by kernel_rfl) (by kernel_rfl) (fun _ _ _ h => h) (Or.inl ⟨by rfl, ?hy32⟩) (by assumption) ?rest32
  case hy32 => intro w' hSw; have hq := heq; (try dsimp only at hSw); go_simp; try with_reducible rfl
  (try simp only [Act.put, List.setIfInBounds_toArray, List.set_cons_zero, List.set_cons_succ, List.getElem_toArray, List.getElem_cons_zero, List.getElem_cons_succ])
  refine wpAnyH_take (i := 41) (v := ?v33) rfl (by kernel_rfl) (by kernel_rfl) (by kernel_rfl) (fun _ _ _ h => h) (Or.inl ⟨by rfl, ?hy33⟩) (by assumption) ?rest33
  case hy33 => intro w' hSw; have hq := heq; (try dsimp only at hSw); go_simp; try with_reducible rfl
  (try simp only [Act.put, List.setIfInBounds_toArray, List.set_cons_zero, List.set_cons_succ, List.getElem_toArray, List.getElem_cons_zero, List.getElem_cons_succ])
  refine wpAnyH_done (by kernel_rfl) ?_ _
  go_wp2_with fail
  have hB8 := hid (hbd.out.trans (hb8.out.mono hbd.out.size))
  have hP8 := hid (hP.out.below hb8.out)
  have hR8 := hid (hR.out.below hb8.out)
  clear hb8 hb7 hHeld hX hRd hP hR hE hbd heq
  go_wp2_with fail
  go_loopw [5] (fun v wr => ∃ i : Int, v = .int .i64 i ∧ -1 ≤ i ∧ i ≤ (s.parts : Int) + 1 ∧ Below w7.heap.size w7 wr) (fun v _ => ((s.parts : Int) + 1 - intOf v).toNat)
  case atStart => exact ⟨-1, rfl, by omega, by omega, Below.refl _ _⟩
  case round =>
    obtain ⟨i, rfl, hi0, hi1, hb0⟩ := hrel
    have hb := hid hb0
    clear hb0
    have hPr := hid (hP8.out.below hb.out)
    have hRr := hid (hR8.out.below hb.out)
    obtain ⟨RA, rc, hin⟩ := hRr.out
    obtain ⟨d0, d1, d2⟩ := hin.cells
    clear hin
    by_cases hle : i ≤ (s.parts : Int)
    · have i2 : IntKind.i64.wrap (i + 1) = i + 1 := by rw [IntKind.wrap_i64]; have := hpr.out; omega
      have i3 := hid (And.intro hi0 hle)
      clear hi0 hi1 d1 d2
      go_wp2_with fail
      refine (claimsI_any hPr.out i).mono ?_
      rintro e wq ⟨rfl, hwq⟩
      obtain rfl := hwq.symm
      go_wp2_with fail
      refine (rclaims_any hRr.out i).mono ?_
      rintro e w9 ⟨rfl, hb9⟩
      have hb9 := hid (hb.out.trans (hb9.mono hb.out.size))
      generalize cntI s.parts i s.L = n at *
      go_wp2_with fail
      go_roundw
      case rel => exact ⟨i + 1, rfl, by have := i3.out; omega, by have := i3.out; omega, hb9.out⟩
      case measure => simp [intOf]; have := i3.out; omega
    · clear hi0 hi1 d1 d2 hPr hRr
      go_wp2_with fail
      have hB9 := hid (hB8.out.trans (hb.out.mono hB8.out.size))
      have hP9 := hid (hP8.out.below hb.out)
      have hR9 := hid (hR8.out.below hb.out)
      clear hb hP8 hR8 hB8 hle d0
      rename World => w9
      go_loopw [6] (fun v wr => ∃ i : Nat, v = .int .i64 i ∧ i ≤ s.L.length ∧ Below w9.heap.size w9 wr) (fun v _ => s.L.length - (intOf v).toNat)
      case atStart => exact ⟨0, rfl, Nat.zero_le _, Below.refl _ _⟩
      case round =>
        obtain ⟨i, rfl, hi, hb0⟩ := hrel
        have hb := hid hb0
        clear hb0
        have hPr0 := hP9.out.below hb.out
        have hRr0 := hR9.out.below hb.out
        obtain ⟨RA, rc, hin⟩ := hRr0
        obtain ⟨d0, d1, d2⟩ := hin.cells
        have hl9 : (s.L.length : Int) ≤ 1000000 := by have := hll.out; omega
        by_cases hlt : i < s.L.length
        · have i1 : (i : Int) < (s.L.length : Int) := by omega
          have i2 : IntKind.i64.wrap ((i : Int) + 1) = (i : Int) + 1 := by rw [IntKind.wrap_i64]; omega
          clear d0 d1
          go_upto_region 11 with fail
          obtain ⟨b9, o9, hA9, -⟩ := rd_kv hin.rd hlt
          obtain ⟨x, hx⟩ : ∃ x, x = s.L[i] := ⟨_, rfl⟩
          have hY := hid (fun W (hW : Below wr.heap.size wr W) => (show W.cell? ⟨r, 2, none⟩ = some (.slice (some ⟨b9, o9, none⟩) s.L.length rc) ∧ (i : Int) < (s.L.length : Int) ∧ W.cell? ⟨b9, o9 + i * 4, none⟩ = some (.string x.1) ∧ W.cell? ⟨b9, o9 + i * 4 + 1, none⟩ = some (.int .i64 x.2.k) ∧ W.cell? ⟨b9, o9 + i * 4 + 2, none⟩ = some (.int .i64 x.2.n) ∧ W.cell? ⟨b9, o9 + i * 4 + 3, none⟩ = some (.string x.2.s) from by
            have hw := hin.below hW
            obtain ⟨b', o', e', _, _, z0, z1, z2, z3⟩ := rd_kv hw.rd hlt
            rw [hA9] at e'
            injection e' with e'
            injection e' with e1 e2
            subst e1 e2
            rw [hx]
            exact ⟨by rw [← hA9]; exact hw.cells.2.2, by omega, z0, z1, z2, z3⟩))
          have hmem : x ∈ s.L := by rw [hx]; exact List.getElem_mem hlt
          have hval := hid (valK_mem hok.out.asc hmem)
          have hhas := hid (hasK_mem.2 ⟨x, hmem, rfl⟩)
          have hks := hid (show x.1.size ≤ 9223372036854775806 by have := hok.out.key x hmem; unfold validK at this; simp at this; omega)
          have hlt9 := hid hlt
          have hPr0 := hid hPr0
          clear hx hmem hlt hi hin d2
          refine wp_region_held_drew (S := fun w' => Below wr.heap.size wr w') (by kernel_rfl) ?_ (fun hHeld => ?_)
          · exact (Below.refl _ _).drew
          have hbd := hid ((Below.refl wr.heap.size wr).drew)
          have hPr := hid (hPr0.out.below hbd.out)
          generalize World.drew wr = wv at *
          refine wpAnyH_take (i := 0) (v := ?v34) rfl (by kernel_rfl) (by kernel_rfl) (by kernel_rfl) (fun _ _ _ h => h) (Or.inl ⟨by rfl, ?hy34⟩) (by assumption) ?rest34
          case hy34 => intro w' hSw; (try dsimp only at hSw); go_simp; try with_reducible rfl
          (try simp only [Act.put, List.setIfInBounds_toArray, List.set_cons_zero, List.set_cons_succ, List.getElem_toArray, List.getElem_cons_zero, List.getElem_cons_succ])
          refine wpAnyH_take (i := 1) (v := ?v35) rfl (by kernel_rfl) (by kernel_rfl) (by kernel_rfl) (fun _ _ _ h => h) (Or.inl ⟨by rfl, ?hy35⟩) (by assumption) ?rest35
          case hy35 => intro w' hSw; (try dsimp only at hSw); go_simp; try with_reducible rfl
          (try simp only [Act.put, List.setIfInBounds_toArray, List.set_cons_zero, List.set_cons_succ, List.getElem_toArray, List.getElem_cons_zero, List.getElem_cons_succ])
          refine wpAnyH_take (i := 5) (v := ?v36) rfl (by kernel_rfl) (by kernel_rfl) (by kernel_rfl) (fun _ _ _ h => h) (Or.inl ⟨by rfl, ?hy36⟩) (by assumption) ?rest36
          case hy36 => intro w' hSw; (try dsimp only at hSw); go_simp; try with_reducible rfl
          (try simp only [Act.put, List.setIfInBounds_toArray, List.set_cons_zero, List.set_cons_succ, List.getElem_toArray, List.getElem_cons_zero, List.getElem_cons_succ])
          refine wpAnyH_take (i := 10) (v := ?v37) rfl (by kernel_rfl) (by kernel_rfl) (by kernel_rfl) (fun _ _ _ h => h) (Or.inl ⟨by rfl, ?hy37⟩) (by assumption) ?rest37
          case hy37 => intro w' hSw; (try dsimp only at hSw); go_simp; try with_reducible rfl
          (try simp only [Act.put, List.setIfInBounds_toArray, List.set_cons_zero, List.set_cons_succ, List.getElem_toArray, List.getElem_cons_zero, List.getElem_cons_succ])
          refine wpAnyH_take (i := 14) (v := ?v38) rfl (by kernel_rfl) (by kernel_rfl) (by kernel_rfl) (fun _ _ _ h => h) (Or.inl ⟨by rfl, ?hy38⟩) (by assumption) ?rest38
          case hy38 => intro w' hSw; (try dsimp only at hSw); go_simp; try with_reducible rfl
          (try simp only [Act.put, List.setIfInBounds_toArray, List.set_cons_zero, List.set_cons_succ, List.getElem_toArray, List.getElem_cons_zero, List.getElem_cons_succ])
          refine wpAnyH_take (i := 2) (v := ?v39) rfl (by kernel_rfl) (by kernel_rfl) (by kernel_rfl) (fun _ _ _ h => h) (Or.inl ⟨by rfl, ?hy39⟩) (by assumption) ?rest39
          case hy39 => intro w' hSw; obtain ⟨q0, q1, y0, y1, y2, y3⟩ := hY.out w' hSw; (try dsimp only at hSw); go_simp; try with_reducible rfl
          (try simp only [Act.put, List.setIfInBounds_toArray, List.set_cons_zero, List.set_cons_succ, List.getElem_toArray, List.getElem_cons_zero, List.getElem_cons_succ])
          refine wpAnyH_take (i := 3) (v := ?v40) rfl (by kernel_rfl) (by kernel_rfl) (by kernel_rfl) (fun _ _ _ h => h) (Or.inl ⟨by rfl, ?hy40⟩) (by assumption) ?rest40
          case hy40 => intro w' hSw; obtain ⟨q0, q1, y0, y1, y2, y3⟩ := hY.out w' hSw; (try dsimp only at hSw); go_simp; try with_reducible rfl
          (try simp only [Act.put, List.setIfInBounds_toArray, List.set_cons_zero, List.set_cons_succ, List.getElem_toArray, List.getElem_cons_zero, List.getElem_cons_succ])
          refine wpAnyH_take (i := 4) (v := ?v41) rfl (by kernel_rfl) (by kernel_rfl) (by kernel_rfl) (fun _ _ _ h => h) (Or.inl ⟨by rfl, ?hy41⟩) (by assumption) ?rest41
          case hy41 => intro w' hSw; obtain ⟨q0, q1, y0, y1, y2, y3⟩ := hY.out w' hSw; (try dsimp only at hSw); go_simp; try with_reducible rfl
          (try simp only [Act.put, List.setIfInBounds_toArray, List.set_cons_zero, List.set_cons_succ, List.getElem_toArray, List.getElem_cons_zero, List.getElem_cons_succ])
          refine wpAnyH_take (i := 6) (v := ?v42) rfl (by kernel_rfl) (by kernel_rfl) (by kernel_rfl) (fun _ _ _ h => h) (Or.inl ⟨by rfl, ?hy42⟩) (by assumption) ?rest42
          case hy42 => intro w' hSw; obtain ⟨q0, q1, y0, y1, y2, y3⟩ := hY.out w' hSw; (try dsimp only at hSw); go_simp; try with_reducible rfl
          (try simp only [Act.put, List.setIfInBounds_toArray, List.set_cons_zero, List.set_cons_succ, List.getElem_toArray, List.getElem_cons_zero, List.getElem_cons_succ])
          refine wpAnyH_take (i := 7) (v := ?v43) rfl (by kernel_rfl) (by kernel_rfl) (by kernel_rfl) (fun _ _ _ h => h) (Or.inl ⟨by rfl, ?hy43⟩) (by assumption) ?rest43
          case hy43 => intro w' hSw; obtain ⟨q0, q1, y0, y1, y2, y3⟩ := hY.out w' hSw; (try dsimp only at hSw); go_simp; try with_reducible rfl
          (try simp only [Act.put, List.setIfInBounds_toArray, List.set_cons_zero, List.set_cons_succ, List.getElem_toArray, List.getElem_cons_zero, List.getElem_cons_succ])
          refine wpAnyH_take (i := 8) (v := ?v44) rfl (by kernel_rfl) (by kernel_rfl) (by kernel_rfl) (fun _ _ _ h => h) (Or.inl ⟨by rfl, ?hy44⟩) (by assumption) ?rest44
          case hy44 => intro w' hSw; obtain ⟨q0, q1, y0, y1, y2, y3⟩ := hY.out w' hSw; (try dsimp only at hSw); go_simp; try with_reducible rfl
          (try simp only [Act.put, List.setIfInBounds_toArray, List.set_cons_zero, List.set_cons_succ, List.getElem_toArray, List.getElem_cons_zero, List.getElem_cons_succ])
          refine wpAnyH_take (i := 11) (v := ?v45) rfl (by kernel_rfl) (by kernel_rfl) (by kernel_rfl) (fun _ _ _ h => h) (Or.inl ⟨by rfl, ?hy45⟩) (by assumption) ?rest45
          case hy45 => intro w' hSw; obtain ⟨q0, q1, y0, y1, y2, y3⟩ := hY.out w' hSw; (try dsimp only at hSw); go_simp; try with_reducible rfl
          (try simp only [Act.put, List.setIfInBounds_toArray, List.set_cons_zero, List.set_cons_succ, List.getElem_toArray, List.getElem_cons_zero, List.getElem_cons_succ])
          refine wpAnyH_take (i := 12) (v := ?v46) rfl (by kernel_rfl) (by kernel_rfl) (by kernel_rfl) (fun _ _ _ h => h) (Or.inl ⟨by rfl, ?hy46⟩) (by assumption) ?rest46
          case hy46 => intro w' hSw; obtain ⟨q0, q1, y0, y1, y2, y3⟩ := hY.out w' hSw; (try dsimp only at hSw); go_simp; try with_reducible rfl
          (try simp only [Act.put, List.setIfInBounds_toArray, List.set_cons_zero, List.set_cons_succ, List.getElem_toArray, List.getElem_cons_zero, List.getElem_cons_succ])
          refine wpAnyH_take (i := 13) (v := ?v47) rfl (by kernel_rfl) (by kernel_rfl) (by kernel_rfl) (fun _ _ _ h => h) (Or.inl ⟨by rfl, ?hy47⟩) (by assumption) ?rest47
          case hy47 => intro w' hSw; obtain ⟨q0, q1, y0, y1, y2, y3⟩ := hY.out w' hSw; (try dsimp only at hSw); go_simp; try with_reducible rfl
          (try simp only [Act.put, List.setIfInBounds_toArray, List.set_cons_zero, List.set_cons_succ, List.getElem_toArray, List.getElem_cons_zero, List.getElem_cons_succ])
          refine wpAnyH_take (i := 15) (v := ?v48) rfl (by kernel_rfl) (by kernel_rfl) (by kernel_rfl) (fun _ _ _ h => h) (Or.inl ⟨by rfl, ?hy48⟩) (by assumption) ?rest48
          case hy48 => intro w' hSw; obtain ⟨q0, q1, y0, y1, y2, y3⟩ := hY.out w' hSw; (try dsimp only at hSw); go_simp; try with_reducible rfl
          (try simp only [Act.put, List.setIfInBounds_toArray, List.set_cons_zero, List.set_cons_succ, List.getElem_toArray, List.getElem_cons_zero, List.getElem_cons_succ])
          refine wpAnyH_take (i := 16) (v := ?v49) rfl (by kernel_rfl) (by kernel_rfl) (by kernel_rfl) (fun _ _ _ h => h) (Or.inl ⟨by rfl, ?hy49⟩) (by assumption) ?rest49
          case hy49 => intro w' hSw; obtain ⟨q0, q1, y0, y1, y2, y3⟩ := hY.out w' hSw; (try dsimp only at hSw); go_simp; try with_reducible rfl
          (try simp only [Act.put, List.setIfInBounds_toArray, List.set_cons_zero, List.set_cons_succ, List.getElem_toArray, List.getElem_cons_zero, List.getElem_cons_succ])
          refine wpAnyH_take (i := 17) (v := ?v50) rfl (by kernel_rfl) (by kernel_rfl) (by kernel_rfl) (fun _ _ _ h => h) (Or.inl ⟨by rfl, ?hy50⟩) (by assumption) ?rest50
          case hy50 => intro w' hSw; obtain ⟨q0, q1, y0, y1, y2, y3⟩ := hY.out w' hSw; (try dsimp only at hSw); go_simp; try with_reducible rfl
          (try simp only [Act.put, List.setIfInBounds_toArray, List.set_cons_zero, List.set_cons_succ, List.getElem_toArray, List.getElem_cons_zero, List.getElem_cons_succ])
          refine wpAnyH_ready (rs := [9]) (by kernel_rfl) (by simp) ?_
          refine AllReadyH.cons rfl (fun K hK => ?_) AllReadyH.nil
          go_simp
          refine (get_any x.1 hPr.out).mono ?_
          rintro e w1 ⟨rfl, hb10⟩
          rw [hval.out]
          have hb1 := hid hb10
          clear hb10
          refine hK.out _ _ ?_ (fun hHeld => ?_)
          · exact hbd.out.trans (hb1.out.mono hbd.out.size)
          clear hK K
          (try simp only [Act.put, List.setIfInBounds_toArray, List.set_cons_zero, List.set_cons_succ, List.getElem_toArray, List.getElem_cons_zero, List.getElem_cons_succ])
          refine wpAnyH_take (i := 18) (v := ?v51) rfl (by kernel_rfl) (by kernel_rfl) (by kernel_rfl) (fun _ _ _ h => h) (Or.inl ⟨by rfl, ?hy51⟩) (by assumption) ?rest51
          case hy51 => intro w' hSw; have hq := neqValF x.2; (try dsimp only at hSw); go_simp; try with_reducible rfl
          (try simp only [Act.put, List.setIfInBounds_toArray, List.set_cons_zero, List.set_cons_succ, List.getElem_toArray, List.getElem_cons_zero, List.getElem_cons_succ])
          refine wpAnyH_take (i := 19) (v := ?v52) rfl (by kernel_rfl) (by kernel_rfl) (by kernel_rfl) (fun _ _ _ h => h) (Or.inl ⟨by rfl, ?hy52⟩) (by assumption) ?rest52
          case hy52 => intro w' hSw; (try dsimp only at hSw); go_simp; try with_reducible rfl
          (try simp only [Act.put, List.setIfInBounds_toArray, List.set_cons_zero, List.set_cons_succ, List.getElem_toArray, List.getElem_cons_zero, List.getElem_cons_succ])
          refine wpAnyH_take (i := 20) (v := ?v53) rfl (by kernel_rfl) (by kernel_rfl) (by kernel_rfl) (fun _ _ _ h => h) (Or.inl ⟨by rfl, ?hy53⟩) (by assumption) ?rest53
          case hy53 => intro w' hSw; (try dsimp only at hSw); go_simp; try with_reducible rfl
          (try simp only [Act.put, List.setIfInBounds_toArray, List.set_cons_zero, List.set_cons_succ, List.getElem_toArray, List.getElem_cons_zero, List.getElem_cons_succ])
          refine wpAnyH_take (i := 21) (v := ?v54) rfl (by kernel_rfl) (by kernel_rfl) (by kernel_rfl) (fun _ _ _ h => h) (Or.inl ⟨by rfl, ?hy54⟩) (by assumption) ?rest54
          case hy54 => intro w' hSw; (try dsimp only at hSw); go_simp; try with_reducible rfl
          (try simp only [Act.put, List.setIfInBounds_toArray, List.set_cons_zero, List.set_cons_succ, List.getElem_toArray, List.getElem_cons_zero, List.getElem_cons_succ])
          refine wpAnyH_take (i := 25) (v := ?v55) rfl (by kernel_rfl) (by kernel_rfl) (by kernel_rfl) (fun _ _ _ h => h) (Or.inl ⟨by rfl, ?hy55⟩) (by assumption) ?rest55
          case hy55 => intro w' hSw; (try dsimp only at hSw); go_simp; try with_reducible rfl
          (try simp only [Act.put, List.setIfInBounds_toArray, List.set_cons_zero, List.set_cons_succ, List.getElem_toArray, List.getElem_cons_zero, List.getElem_cons_succ])
          refine wpAnyH_take (i := 22) (v := ?v56) rfl (by kernel_rfl) (by kernel_rfl) (by kernel_rfl) (fun _ _ _ h => h) (Or.inl ⟨by rfl, ?hy56⟩) (by assumption) ?rest56
          case hy56 => intro w' hSw; obtain ⟨q0, q1, y0, y1, y2, y3⟩ := hY.out w' hSw; (try dsimp only at hSw); go_simp; try with_reducible rfl
          (try simp only [Act.put, List.setIfInBounds_toArray, List.set_cons_zero, List.set_cons_succ, List.getElem_toArray, List.getElem_cons_zero, List.getElem_cons_succ])
          refine wpAnyH_take (i := 23) (v := ?v57) rfl (by kernel_rfl) (by kernel_rfl) (by kernel_rfl) (fun _ _ _ h => h) (Or.inl ⟨by rfl, ?hy57⟩) (by assumption) ?rest57
          case hy57 => intro w' hSw; obtain ⟨q0, q1, y0, y1, y2, y3⟩ := hY.out w' hSw; (try dsimp only at hSw); go_simp; try with_reducible rfl
          (try simp only [Act.put, List.setIfInBounds_toArray, List.set_cons_zero, List.set_cons_succ, List.getElem_toArray, List.getElem_cons_zero, List.getElem_cons_succ])
          refine wpAnyH_take (i := 24) (v := ?v58) rfl (by kernel_rfl) (by kernel_rfl) (by kernel_rfl) (fun _ _ _ h => h) (Or.inl ⟨by rfl, ?hy58⟩) (by assumption) ?rest58
          case hy58 => intro w' hSw; obtain ⟨q0, q1, y0, y1, y2, y3⟩ := hY.out w' hSw; (try dsimp only at hSw); go_simp; try with_reducible rfl
          (try simp only [Act.put, List.setIfInBounds_toArray, List.set_cons_zero, List.set_cons_succ, List.getElem_toArray, List.getElem_cons_zero, List.getElem_cons_succ])
          refine wpAnyH_take (i := 26) (v := ?v59) rfl (by kernel_rfl) (by kernel_rfl) (by kernel_rfl) (fun _ _ _ h => h) (Or.inl ⟨by rfl, ?hy59⟩) (by assumption) ?rest59
          case hy59 => intro w' hSw; obtain ⟨q0, q1, y0, y1, y2, y3⟩ := hY.out w' hSw; (try dsimp only at hSw); go_simp; try with_reducible rfl
          (try simp only [Act.put, List.setIfInBounds_toArray, List.set_cons_zero, List.set_cons_succ, List.getElem_toArray, List.getElem_cons_zero, List.getElem_cons_succ])
          refine wpAnyH_take (i := 27) (v := ?v60) rfl (by kernel_rfl) (by kernel_rfl) (by kernel_rfl) (fun _ _ _ h => h) (Or.inl ⟨by rfl, ?hy60⟩) (by assumption) ?rest60
          case hy60 => intro w' hSw; obtain ⟨q0, q1, y0, y1, y2, y3⟩ := hY.out w' hSw; (try dsimp only at hSw); go_simp; try with_reducible rfl
          (try simp only [Act.put, List.setIfInBounds_toArray, List.set_cons_zero, List.set_cons_succ, List.getElem_toArray, List.getElem_cons_zero, List.getElem_cons_succ])
          refine wpAnyH_take (i := 28) (v := ?v61) rfl (by kernel_rfl) (by kernel_rfl) (by kernel_rfl) (fun _ _ _ h => h) (Or.inl ⟨by rfl, ?hy61⟩) (by assumption) ?rest61
          case hy61 => intro w' hSw; obtain ⟨q0, q1, y0, y1, y2, y3⟩ := hY.out w' hSw; (try dsimp only at hSw); go_simp; try with_reducible rfl
          (try simp only [Act.put, List.setIfInBounds_toArray, List.set_cons_zero, List.set_cons_succ, List.getElem_toArray, List.getElem_cons_zero, List.getElem_cons_succ])
          refine wpAnyH_ready (rs := [29]) (by kernel_rfl) (by simp) ?_
          refine AllReadyH.cons rfl (fun K hK => ?_) AllReadyH.nil
          rw [if_pos (by rfl)]
          go_simp
          refine (claimed_any x.1 (hPr.out.below hb1.out) hks.out).mono ?_
          rintro e wq ⟨rfl, n1, hwq⟩
          rw [hhas.out]
          have hb2 : Hid (Below wv.heap.size wv wq) := hid (by rw [hwq]; exact below_drewN hb1.out _)
          clear hwq hb1
          refine hK.out _ _ ?_ (fun hHeld => ?_)
          · exact hbd.out.trans (hb2.out.mono hbd.out.size)
          clear hK K
          (try simp only [Act.put, List.setIfInBounds_toArray, List.set_cons_zero, List.set_cons_succ, List.getElem_toArray, List.getElem_cons_zero, List.getElem_cons_succ])
          refine wpAnyH_take (i := 30) (v := ?v62) rfl (by kernel_rfl) (by kernel_rfl) (by kernel_rfl) (fun _ _ _ h => h) (Or.inl ⟨by rfl, ?hy62⟩) (by assumption) ?rest62
          case hy62 => intro w' hSw; (try dsimp only at hSw); go_simp; try with_reducible rfl
          (try simp only [Act.put, List.setIfInBounds_toArray, List.set_cons_zero, List.set_cons_succ, List.getElem_toArray, List.getElem_cons_zero, List.getElem_cons_succ])
          refine wpAnyH_take (i := 31) (v := ?v63) rfl (by kernel_rfl) (by kernel_rfl) (by kernel_rfl) (fun _ _ _ h => h) (Or.inl ⟨by rfl, ?hy63⟩) (by assumption) ?rest63
          case hy63 => intro w' hSw; (try dsimp only at hSw); go_simp; try with_reducible rfl
          (try simp only [Act.put, List.setIfInBounds_toArray, List.set_cons_zero, List.set_cons_succ, List.getElem_toArray, List.getElem_cons_zero, List.getElem_cons_succ])
          refine wpAnyH_done (by kernel_rfl) ?_ _
          go_wp2_with fail
          go_roundw
          case rel => exact ⟨i + 1, by go_num, hlt9.out, hb.out.trans ((hbd.out.trans (hb2.out.mono hbd.out.size)).mono hb.out.size)⟩
          case measure => simp [intOf]; have := hlt9.out; omega
        · obtain rfl : i = s.L.length := by omega
          have hfin := hid (hB9.out.trans (hb.out.mono hB9.out.size))
          clear hPr0 hin hlt d0 d1
          go_wp2_with fail
          go_ret
          exact ⟨rfl, hfin.out⟩
end
end Go.Proofs.YtphglnenafdkaaaGreatDoor

namespace Go.Proofs.YtphglnenafdkaaaGreatDoor
open Go.RowKit
set_option linter.unusedVariables false
set_option linter.unusedSimpArgs false

/-- a row in a block of its own, from a base on -/
def RowB (base : Nat) (w : World) (e : TypeId) (size : Nat) (A : Option Addr) (n : Nat) : Prop := 0 < n → ∃ b cs, A = some ⟨b, 0, none⟩ ∧ base ≤ b ∧ Blk w b e cs ∧ n * size ≤ cs.size
section
variable {w w' : World} {base : Nat} {e : TypeId} {size n : Nat} {A : Option Addr}
theorem RowB.of_own {c : Nat} {xs : List Value} (h : w.ownsRow base e size (.slice A n c) n xs) : RowB base w e size A n := fun hn => by
  rcases h.2 with ⟨h0, h1⟩ | ⟨g', cap', cur, hv', hb, hh, hc', _, hs', _⟩
  · injection h0 with _ h0; omega
  · injection hv' with h1
    exact ⟨g', cur, h1, hb, hh, by rw [hs']; exact Nat.mul_le_mul_right _ hc'⟩
theorem RowB.mono (h : RowB base w e size A n) {b : Nat} (hb : b ≤ base) : RowB b w e size A n := fun hn => by
  obtain ⟨g, cs, h1, h2, h3⟩ := h hn
  exact ⟨g, cs, h1, Nat.le_trans hb h2, h3⟩
theorem RowB.below (h : RowB base w e size A n) (hb : Below w.heap.size w w') : RowB base w' e size A n := fun hn => by
  obtain ⟨g, cs, h1, h2, h3, h4⟩ := h hn
  exact ⟨g, cs, h1, h2, h3.below_all hb, h4⟩
theorem RowB.updT {b : Nat} {t : TypeId} {cs : Array Value} (h : RowB base w e size A n) (hu : Upd (fun q => q = b) w w') (hb : Blk w b t cs) (hne : e ≠ t) : RowB base w' e size A n := fun hn => by
  obtain ⟨g, cs', h1, h2, h3, h4⟩ := h hn
  exact ⟨g, cs', h1, h2, h3.upd hu (h3.ne_ hb hne), h4⟩
end
section
variable {S S2 : Nat → Prop} {w w' : World} {g r : Nat} {s : St}
set_option maxRecDepth 100000 in
set_option maxHeartbeats 8000000 in
theorem fresh_any (h1 : PAt S w g s) (h2 : RAt S2 w r s) (he : Env w) (hr : RngL s.L) : Calls Tryz.prog 30 #[.pointer (some ⟨g, 0, none⟩), .pointer (some ⟨r, 0, none⟩)] w fun e w' => e = .returned (.bool true) ∧ Below w.heap.size w w' := by
  have hP := hid h1
  have hR := hid h2
  have hE := hid he
  have hRng := hid hr
  have hll := hid h1.ok.len
  have hpp := hid h1.ok.parts
  have hrr := hid h1.ok.room
  clear h1 h2 he hr
  go_enter Tryz.func30, Tryz.ntmps30
  go_wp2_with fail
  refine (dumpM_any hP.out).mono ?_
  rintro e w1 ⟨A1, c1, rfl, ho1, hb1⟩
  have r1 := hid (RowB.of_own ho1)
  have hB1 := hid hb1
  clear ho1 hb1
  go_wp2_with fail
  refine (keys_any (hP.out.below hB1.out)).mono ?_
  rintro e w2 ⟨A2, c2, rfl, ho2, hb2⟩
  have r1 := hid (r1.out.below hb2)
  have r2 := hid (RowB.of_own ho2)
  have hB2 := hid (hB1.out.trans (hb2.mono hB1.out.size))
  clear ho2 hb2
  go_wp2_with fail
  have hln := hid (bytesTo_len (s := s) (fun x hx => line_len (hP.out.ok.key x hx) (hP.out.ok.val x hx) (hRng.out x hx)) (head_len (by have := hpp.out; omega) (by have := hrr.out; omega)) hll.out)
  have hbl : Hid ((bytesS s).length ≤ 100000000) := hid (by rw [← bytesTo_all]; exact hln.out _)
  clear hln
  refine (bytes_any (hP.out.below hB2.out) (hE.out.below hB2.out) hRng.out).mono ?_
  rintro e w3 ⟨v3, rfl, ho3, hb3⟩
  obtain ⟨A3, c3, rfl, _⟩ := own_form ho3
  have r1 := hid ((r1.out.below hb3).mono (b := w.heap.size) (by omega))
  have r2 := hid ((r2.out.below hb3).mono (b := w.heap.size) hB1.out.size)
  have r3 := hid ((RowB.of_own ho3).mono (b := w.heap.size) hB2.out.size)
  have hB := hid (hB2.out.trans (hb3.mono hB2.out.size))
  have hd1 : (dumpL s.L).length ≤ s.L.length := List.length_filter_le _ _
  have hmr1 := hid (show (dumpL s.L).length ≤ 262144 by have := hll.out; omega)
  have hmr2 := hid (show s.L.length ≤ 262144 from hll.out)
  have hmr3 := hbl
  clear hB1 hB2 ho3 hb3 hd1 hll hpp hrr hbl
  generalize (dumpL s.L).length = n1 at *
  generalize hl2 : s.L.length = n2 at *
  generalize (bytesS s).length = n3 at *
  clear hl2
  go_wp2_with fail
  go_loopw [8] (fun v wr => ∃ k : Nat, v = .int .i64 k ∧ k ≤ n1 ∧ Below w.heap.size w wr ∧ RowB w.heap.size wr 70 4 A1 n1 ∧ RowB w.heap.size wr 9 1 A2 n2 ∧ RowB w.heap.size wr 5 1 A3 n3) (fun v _ => n1 - (intOf v).toNat)
  case atStart => exact ⟨0, rfl, Nat.zero_le _, hB.out, r1.out, r2.out, r3.out⟩
  case round =>
    clear r1 r2 r3 hB
    obtain ⟨k, rfl, hk, hB0, r10, r20, r30⟩ := hrel
    have hB := hid hB0
    have r1 := hid r10
    have r2 := hid r20
    have r3 := hid r30
    clear hB0 r10 r20 r30
    by_cases hlt : k < n1
    · obtain ⟨b, cs, hAe, hbb, hbk0, hsz0⟩ := r1.out (by omega)
      have hbk := hid hbk0
      have hs9 := hid hsz0
      have hb9 := hid hbb
      have i1 : (k : Int) < (n1 : Int) := by omega
      have i2 : IntKind.i64.wrap ((k : Int) + 1) = (k : Int) + 1 := by rw [IntKind.wrap_i64]; have := hmr1.out; omega
      obtain ⟨u0, hu_0⟩ : ∃ u, cs[k * 4]? = some u := ⟨_, Array.getElem?_eq_getElem (by omega)⟩
      obtain ⟨u1, hu_1⟩ : ∃ u, cs[k * 4 + 1]? = some u := ⟨_, Array.getElem?_eq_getElem (by omega)⟩
      obtain ⟨u2, hu_2⟩ : ∃ u, cs[k * 4 + 2]? = some u := ⟨_, Array.getElem?_eq_getElem (by omega)⟩
      obtain ⟨u3, hu_3⟩ : ∃ u, cs[k * 4 + 3]? = some u := ⟨_, Array.getElem?_eq_getElem (by omega)⟩
      have y0 : wr.cell? ⟨b, k * 4, none⟩ = some u0 := (hbk.out.cell (k * 4)).trans hu_0
      have y1 : wr.cell? ⟨b, k * 4 + 1, none⟩ = some u1 := (hbk.out.cell (k * 4 + 1)).trans hu_1
      have y2 : wr.cell? ⟨b, k * 4 + 2, none⟩ = some u2 := (hbk.out.cell (k * 4 + 2)).trans hu_2
      have y3 : wr.cell? ⟨b, k * 4 + 3, none⟩ = some u3 := (hbk.out.cell (k * 4 + 3)).trans hu_3
      have fz := fun q => hbk.out.frozen q
      rw [hAe]
      have hAe := hid hAe
      have hlH := hid hlt
      clear hbk0 hsz0 hbb hu_0 hu_1 hu_2 hu_3 hk hlt
      go_wp2_with fail
      go_roundw
      case rel =>
        have hu := (((((Upd.refl (fun q => q = b) wr).setCell (p := ⟨b, k * 4, none⟩) (fun _ => rfl) (.string ⟨#[115, 112, 111, 105, 108, 116]⟩)).setCell (p := ⟨b, k * 4 + 1, none⟩) (fun _ => rfl) (.int .i64 0)).setCell (p := ⟨b, k * 4 + 2, none⟩) (fun _ => rfl) (.int .i64 0)).setCell (p := ⟨b, k * 4 + 3, none⟩) (fun _ => rfl) (.string ⟨#[]⟩))
        exact ⟨k + 1, rfl, by have := hlH.out; omega, hB.out.trans (hu.below hB.out.size fun q hq e => by have := hb9.out; omega), fun _ => ⟨b, _, (by first | rfl | exact hAe.out), hb9.out, ((((hbk.out.set_ (k * 4) _).set_ (k * 4 + 1) _).set_ (k * 4 + 2) _).set_ (k * 4 + 3) _), by have := hs9.out; simpa using this⟩, r2.out.updT hu hbk.out (by decide), r3.out.updT hu hbk.out (by decide)⟩
      case measure => simp [intOf]; have := hlH.out; omega
    · have i1 : ¬ ((k : Int) < (n1 : Int)) := by omega
      clear hlt hk r1
      go_wp2_with fail
      rename World => w7
      go_loopw [9] (fun v wr => ∃ k : Nat, v = .int .i64 k ∧ k ≤ n2 ∧ Below w.heap.size w wr ∧ RowB w.heap.size wr 9 1 A2 n2 ∧ RowB w.heap.size wr 5 1 A3 n3) (fun v _ => n2 - (intOf v).toNat)
      case atStart => exact ⟨0, rfl, Nat.zero_le _, hB.out, r2.out, r3.out⟩
      case round =>
        clear r2 r3 hB
        obtain ⟨k, rfl, hk, hB0, r20, r30⟩ := hrel
        have hB := hid hB0
        have r2 := hid r20
        have r3 := hid r30
        clear hB0 r20 r30
        by_cases hlt : k < n2
        · obtain ⟨b, cs, hAe, hbb, hbk0, hsz0⟩ := r2.out (by omega)
          have hbk := hid hbk0
          have hs9 := hid hsz0
          have hb9 := hid hbb
          have i1 : (k : Int) < (n2 : Int) := by omega
          have i2 : IntKind.i64.wrap ((k : Int) + 1) = (k : Int) + 1 := by rw [IntKind.wrap_i64]; have := hmr2.out; omega
          obtain ⟨u0, hu_0⟩ : ∃ u, cs[k]? = some u := ⟨_, Array.getElem?_eq_getElem (by omega)⟩
          have y0 : wr.cell? ⟨b, k, none⟩ = some u0 := (hbk.out.cell (k)).trans hu_0
          have fz := fun q => hbk.out.frozen q
          rw [hAe]
          have hAe := hid hAe
          have hlH := hid hlt
          clear hbk0 hsz0 hbb hu_0 hk hlt
          go_wp2_with fail
          go_roundw
          case rel =>
            have hu := ((Upd.refl (fun q => q = b) wr).setCell (p := ⟨b, k, none⟩) (fun _ => rfl) (.string ⟨#[115, 112, 111, 105, 108, 116]⟩))
            exact ⟨k + 1, rfl, by have := hlH.out; omega, hB.out.trans (hu.below hB.out.size fun q hq e => by have := hb9.out; omega), fun _ => ⟨b, _, (by first | rfl | exact hAe.out), hb9.out, (hbk.out.set_ (k) _), by have := hs9.out; simpa using this⟩, r3.out.updT hu hbk.out (by decide)⟩
          case measure => simp [intOf]; have := hlH.out; omega
        · have i1 : ¬ ((k : Int) < (n2 : Int)) := by omega
          clear hlt hk r2
          go_wp2_with fail
          rename World => w8
          go_loopw [10] (fun v wr => ∃ k : Nat, v = .int .i64 k ∧ k ≤ n3 ∧ Below w.heap.size w wr ∧ RowB w.heap.size wr 5 1 A3 n3) (fun v _ => n3 - (intOf v).toNat)
          case atStart => exact ⟨0, rfl, Nat.zero_le _, hB.out, r3.out⟩
          case round =>
            clear r3 hB
            obtain ⟨k, rfl, hk, hB0, r30⟩ := hrel
            have hB := hid hB0
            have r3 := hid r30
            clear hB0 r30
            by_cases hlt : k < n3
            · obtain ⟨b, cs, hAe, hbb, hbk0, hsz0⟩ := r3.out (by omega)
              have hbk := hid hbk0
              have hs9 := hid hsz0
              have hb9 := hid hbb
              have i1 : (k : Int) < (n3 : Int) := by omega
              have i2 : IntKind.i64.wrap ((k : Int) + 1) = (k : Int) + 1 := by rw [IntKind.wrap_i64]; have := hmr3.out; omega
              obtain ⟨u0, hu_0⟩ : ∃ u, cs[k]? = some u := ⟨_, Array.getElem?_eq_getElem (by omega)⟩
              have y0 : wr.cell? ⟨b, k, none⟩ = some u0 := (hbk.out.cell (k)).trans hu_0
              have fz := fun q => hbk.out.frozen q
              rw [hAe]
              have hAe := hid hAe
              have hlH := hid hlt
              clear hbk0 hsz0 hbb hu_0 hk hlt
              go_wp2_with fail
              go_roundw
              case rel =>
                have hu := ((Upd.refl (fun q => q = b) wr).setCell (p := ⟨b, k, none⟩) (fun _ => rfl) (.int .u8 120))
                exact ⟨k + 1, rfl, by have := hlH.out; omega, hB.out.trans (hu.below hB.out.size fun q hq e => by have := hb9.out; omega), fun _ => ⟨b, _, (by first | rfl | exact hAe.out), hb9.out, (hbk.out.set_ (k) _), by have := hs9.out; simpa using this⟩⟩
              case measure => simp [intOf]; have := hlH.out; omega
            · have i1 : ¬ ((k : Int) < (n3 : Int)) := by omega
              clear hlt hk r3
              have hPf := hid (hP.out.below hB.out)
              have hRf := hid (hR.out.below hB.out)
              have hEf := hid (hE.out.below hB.out)
              go_wp2_with fail
              refine (stands_any hPf.out hRf.out hEf.out hRng.out).mono ?_
              rintro e wf ⟨rfl, hbf⟩
              have hfin := hid (hB.out.trans (hbf.mono hB.out.size))
              clear hbf
              go_wp2_with fail
              go_ret
              exact ⟨rfl, hfin.out⟩
end
end Go.Proofs.YtphglnenafdkaaaGreatDoor

namespace Go.Proofs.YtphglnenafdkaaaGreatDoor
open Go.RowKit
set_option linter.unusedVariables false
set_option linter.unusedSimpArgs false

theorem split_sum : ∀ l : List UInt8, ((splitL l).map fun a => a.length + 1).sum = l.length + 1
  | [] => rfl
  | c :: r => by
    have ih := split_sum r
    obtain ⟨b, m, e⟩ : ∃ b m, splitL r = b :: m := by
      cases h : splitL r with
      | nil => exact absurd h (splitL_ne r)
      | cons b m => exact ⟨b, m, rfl⟩
    rw [splitL_eq]
    rw [e] at ih ⊢
    split
    · simp only [List.map_cons, List.sum_cons, List.length_nil, List.length_cons] at ih ⊢
      omega
    · simp only [List.headD_cons, List.tail_cons, List.map_cons, List.sum_cons, List.length_cons] at ih ⊢
      omega
theorem sum_sub {α : Type} (f : α → Nat) : ∀ {l m : List α}, l.Sublist m → (l.map f).sum ≤ (m.map f).sum := by
  intro l m h
  induction h with
  | slnil => exact Nat.le_refl _
  | cons a _ ih => simp only [List.map_cons, List.sum_cons]; omega
  | cons_cons a _ ih => simp only [List.map_cons, List.sum_cons]; omega
theorem item_len {a : List UInt8} {x : Kv} (h : itemP a = some x) : 2 ≤ a.length := by
  unfold itemP at h
  split at h
  · rename_i he
    rcases sp_cases a with h1 | ⟨b, r, h1, h2⟩
    · rw [cutL_none h1] at he
      exact absurd he (show ¬ (parseL []).e = 0 by decide)
    · rw [h2, cutL_some r h1] at he
      rw [h2]
      cases r with
      | nil => exact absurd he (show ¬ (parseL []).e = 0 by decide)
      | cons c r => simp; omega
  · cases h
theorem parP_sum : ∀ {M : List (List UInt8)} {X : List Kv}, parP M = some X → 3 * X.length ≤ (M.map fun a => a.length + 1).sum
  | [], X, h => by injection h with h; rw [← h]; exact Nat.le_refl _
  | a :: M, X, h => by
    unfold parP at h
    cases hi : itemP a with
    | none => rw [hi] at h; cases h
    | some y =>
      rw [hi] at h
      simp only at h
      cases hp : parP M with
      | none => rw [hp] at h; cases h
      | some Y =>
        rw [hp] at h; injection h with h
        have h1 := item_len hi
        have h2 := parP_sum hp
        rw [← h]
        simp only [List.map_cons, List.sum_cons, List.length_cons]
        omega
theorem load_max {l : List UInt8} (hl : l.length ≤ 2000000) : ∀ i X, parP ((((splitL l).drop 2).dropLast).take i) = some X → X.length ≤ 1000000 := fun i X h => by
  have h1 := parP_sum h
  have h2 := sum_sub (fun a : List UInt8 => a.length + 1) ((List.take_sublist i _).trans ((List.dropLast_sublist _).trans (List.drop_sublist 2 (splitL l))))
  rw [split_sum] at h2
  omega
theorem load_good {l : List UInt8} {s : St} (h : loadL l = some s) : RngL s.L := by
  unfold loadL at h
  cases h1 : numH l with
  | none => rw [h1] at h; cases h
  | some x =>
    obtain ⟨p, r⟩ := x
    rw [h1] at h
    simp only at h
    cases h2 : numH r with
    | none => rw [h2] at h; cases h
    | some y =>
      obtain ⟨q, rest⟩ := y
      rw [h2] at h
      simp only at h
      split at h
      · cases h3 : docL p q [] rest with
        | none => rw [h3] at h; cases h
        | some L =>
          rw [h3] at h
          injection h with h
          have h4 := docL_ok (by have := numH_rng h1; omega) h3
          rw [← h]
          exact fun x hx => (h4.2 x hx).2
      · cases h
section
variable {w : World}
set_option maxRecDepth 100000 in
set_option maxHeartbeats 8000000 in
theorem loads_any {Sx : Nat → Prop} {A : Option Addr} {c : Nat} (l : List UInt8) (h : Rd Sx w 1 A l.length (Lib.byteCells l)) (hs : l.length ≤ 2000000) (he : EnvL w) : Calls Tryz.prog 6 #[.slice A l.length c] w fun e w' => e = .returned (.bool true) ∧ Below w.heap.size w w' := by
  have hrd := hid h
  have hll := hid hs
  have hE := hid he
  obtain ⟨ib, hib, hb0, hb1, hb2⟩ := info_parts info_u8
  clear h hs he
  go_enter Tryz.func6, Tryz.ntmps6
  go_wp2_with (at_builtin; go_loud (refine wpList_copy_rd w rfl (.tmp 9) (.tmp 10) 41 rfl 5 ib _ 1 1 Tryz.underlying41 hib hb0 hb1 hb2 rfl (by omega) w.heap.size rfl rfl Sx A l.length c (Lib.byteCells l) rfl hrd.out (byteCells_one l) (by have := hll.out; simp only [maxLen]; omega) (by have := hll.out; omega) ?_); intro A5 c5 w5 hown5 hbel5; have hO := hid hown5; have hB5 := hid hbel5; clear hown5 hbel5)
  have hE5 := hid (hE.out.below hB5.out)
  have hcvG := hid (fun (W : World) (hW : Below w5.heap.size w5 W) => (show (convert 41 9 (.slice A5 l.length c5)).run Tryz.prog W = .ok (.string ⟨l.toArray⟩) W by
    rw [← bt_bytes]
    refine convB (S := fun b => w.heap.size ≤ b) ?_ (by simp)
    rw [← byteCells_eq]; exact (Rd.of_own' hO.out).below_all hW))
  have hcvB := hid (fun (W : World) (hW : Below w.heap.size w W) => (show (convert 41 9 (.slice A l.length c)).run Tryz.prog W = .ok (.string ⟨l.toArray⟩) W by
    rw [← bt_bytes]
    refine convB (S := Sx) ?_ (by simp)
    rw [← byteCells_eq]; exact hrd.out.below_all hW))
  have hld := hid (load_any (c := c5) l (Rd.of_own' hO.out) (by have := hll.out; omega) (load_max hll.out) hE5.out)
  have hgd := hid (fun s (e : loadL l = some s) => load_good e)
  rw [prog_doc] at hld
  have hlt : (⟨l.toArray⟩ : ByteArray).data.toList = l := by simp
  have hrl := hid (fun W (hW : EnvL W) => (show Calls Tryz.prog 33 #[.string ⟨l.toArray⟩] W (loadR W (loadL l)) by
    have := rload_any ⟨l.toArray⟩ W (by simp only [ByteArray.size, List.size_toArray]; have := hll.out; omega) hW.env
    rw [hlt] at this
    exact this))
  clear hlt
  generalize (⟨l.toArray⟩ : ByteArray) = tx at *
  generalize loadL l = R at *
  cases R with
  | none =>
    clear hgd
    go_wp2_with fail
    refine hld.out.mono ?_
    rintro e w6 ⟨rfl, hb6⟩
    have hB6 := hid (hB5.out.trans (hb6.mono hB5.out.size))
    have hb56 := hid hb6
    have hE6 := hid (hE5.out.below hb6)
    have hO6 := hid (own_below hO.out hb6)
    have cv1 := hcvB.out w6 hB6.out
    clear hb6
    go_wp2_with fail
    refine (hrl.out _ hE6.out).mono ?_
    rintro e w7 ⟨rfl, hb7⟩
    have hB7 := hid (hB6.out.trans (hb7.mono hB6.out.size))
    have hb57 := hid (hb56.out.trans (hb7.mono hb56.out.size))
    have hO7 := hid (own_below hO6.out hb7)
    have cv2 := hcvB.out w7 hB7.out
    have cv3 := hcvG.out w7 hb57.out
    clear hb7 cv1 hrl hld hO6 hO
    go_wp2_with fail
    refine (num_any _ _).mono ?_
    rintro e wq ⟨rfl, hwq⟩
    obtain rfl := hwq.symm
    go_wp2_with fail
    refine (live_any _).mono ?_
    rintro e w8 ⟨rfl, hb8⟩
    have hB8 := hid (hB7.out.trans (hb8.mono hB7.out.size))
    have hO := hid (own_below hO7.out hb8)
    clear hb8 hO7 cv2 cv3 hb57 hb56 hcvG hcvB
    go_wp2_with fail
    have hrow := hid (RowB.of_own hO.out)
    go_loopw [8] (fun v wr => ∃ k : Nat, v = .int .i64 k ∧ k ≤ l.length ∧ Upd (fun q => (Value.slice A5 l.length c5).ownBlock = some q) w8 wr ∧ RowB w.heap.size wr 5 1 A5 l.length) (fun v _ => l.length - (intOf v).toNat)
    case atStart => exact ⟨0, rfl, Nat.zero_le _, Upd.refl _ _, hrow.out⟩
    case round =>
      clear hrow
      obtain ⟨k, rfl, hk, hu0, hr0⟩ := hrel
      have hU := hid hu0
      have hrw := hid hr0
      clear hu0 hr0
      by_cases hlt : k < l.length
      · obtain ⟨b, cs, hAe, hbb, hbk0, hsz0⟩ := hrw.out (by omega)
        have hbk := hid hbk0
        have hs9 := hid hsz0
        have hb9 := hid hbb
        have i1 : (k : Int) < (l.length : Int) := by omega
        have i2 : IntKind.i64.wrap ((k : Int) + 1) = (k : Int) + 1 := by rw [IntKind.wrap_i64]; have := hll.out; omega
        obtain ⟨u0, hu_0⟩ : ∃ u, cs[k]? = some u := ⟨_, Array.getElem?_eq_getElem (by omega)⟩
        have y0 : wr.cell? ⟨b, k, none⟩ = some u0 := (hbk.out.cell k).trans hu_0
        have fz := fun q => hbk.out.frozen q
        have hAe9 := hid hAe
        rw [hAe]
        have hlH := hid hlt
        clear hbk0 hsz0 hbb hu_0 hk hlt hAe
        go_wp2_with fail
        go_roundw
        case rel =>
          have hu := (Upd.refl (fun q => q = b) wr).setCell (p := ⟨b, k, none⟩) (fun _ => rfl) (.int .u8 120)
          refine ⟨k + 1, rfl, by have := hlH.out; omega, ?_, fun _ => ⟨b, _, (by first | rfl | exact hAe9.out), hb9.out, (hbk.out.set_ (k) _), by have := hs9.out; simpa using this⟩⟩
          first
            | exact hU.out.trans hu fun q _ e => by rw [hAe9.out]; rw [e]; rfl
            | (rw [← hAe9.out]; exact hU.out.trans hu fun q _ e => by rw [hAe9.out]; rw [e]; rfl)
        case measure => simp [intOf]; have := hlH.out; omega
      · have i1 : ¬ ((k : Int) < (l.length : Int)) := by omega
        clear hlt hk hrw
        go_wp2_with fail
        go_ret
        exact ⟨rfl, hB8.out.trans (hU.out.below (B := w.heap.size) hB8.out.size fun q hq e => by have := (hO.out.lt q e).1; omega)⟩
  | some s =>
    have hRng := hid (hgd.out s rfl)
    clear hgd
    go_wp2_with fail
    refine hld.out.mono ?_
    rintro e w6 ⟨S, g, rfl, hP60, hge0, hb6⟩
    have hP6 := hid hP60
    have hge := hid hge0
    have hB6 := hid (hB5.out.trans (hb6.mono hB5.out.size))
    have hb56 := hid hb6
    have hE6 := hid (hE5.out.below hb6)
    have hO6 := hid (own_below hO.out hb6)
    have hol := hid (fun q (e : (Value.slice A5 l.length c5).ownBlock = some q) => (hO.out.lt q e).2)
    have hs56 := hid hb6.size
    have cv1 := hcvB.out w6 hB6.out
    clear hb6 hP60 hge0
    go_wp2_with fail
    refine (hrl.out _ hE6.out).mono ?_
    rintro e w7 ⟨S2, r, rfl, hP70, hge70, hb7⟩
    have hP7 := hid hP70
    have hge7 := hid hge70
    have hPA7 := hid (hP6.out.below hb7)
    have hB7 := hid (hB6.out.trans (hb7.mono hB6.out.size))
    have hb57 := hid (hb56.out.trans (hb7.mono hb56.out.size))
    have hO7 := hid (own_below hO6.out hb7)
    have cv2 := hcvB.out w7 hB7.out
    have cv3 := hcvG.out w7 hb57.out
    clear hb7 cv1 hrl hld hO6 hO hP70 hge70
    go_wp2_with fail
    refine (num_any _ _).mono ?_
    rintro e wq ⟨rfl, hwq⟩
    obtain rfl := hwq.symm
    go_wp2_with fail
    refine (live_any _).mono ?_
    rintro e w8 ⟨rfl, hb8⟩
    have hB8 := hid (hB7.out.trans (hb8.mono hB7.out.size))
    have hO := hid (own_below hO7.out hb8)
    have hP8 := hid (hPA7.out.below hb8)
    have hR8 := hid (hP7.out.below hb8)
    clear hb8 hO7 cv2 cv3 hb57 hb56 hcvG hcvB hPA7 hP7 hP6
    go_wp2_with fail
    have hrow := hid (RowB.of_own hO.out)
    go_loopw [8] (fun v wr => ∃ k : Nat, v = .int .i64 k ∧ k ≤ l.length ∧ Upd (fun q => (Value.slice A5 l.length c5).ownBlock = some q) w8 wr ∧ RowB w.heap.size wr 5 1 A5 l.length) (fun v _ => l.length - (intOf v).toNat)
    case atStart => exact ⟨0, rfl, Nat.zero_le _, Upd.refl _ _, hrow.out⟩
    case round =>
      clear hrow
      obtain ⟨k, rfl, hk, hu0, hr0⟩ := hrel
      have hU := hid hu0
      have hrw := hid hr0
      clear hu0 hr0
      by_cases hlt : k < l.length
      · obtain ⟨b, cs, hAe, hbb, hbk0, hsz0⟩ := hrw.out (by omega)
        have hbk := hid hbk0
        have hs9 := hid hsz0
        have hb9 := hid hbb
        have i1 : (k : Int) < (l.length : Int) := by omega
        have i2 : IntKind.i64.wrap ((k : Int) + 1) = (k : Int) + 1 := by rw [IntKind.wrap_i64]; have := hll.out; omega
        obtain ⟨u0, hu_0⟩ : ∃ u, cs[k]? = some u := ⟨_, Array.getElem?_eq_getElem (by omega)⟩
        have y0 : wr.cell? ⟨b, k, none⟩ = some u0 := (hbk.out.cell k).trans hu_0
        have fz := fun q => hbk.out.frozen q
        have hAe9 := hid hAe
        rw [hAe]
        have hlH := hid hlt
        clear hbk0 hsz0 hbb hu_0 hk hlt hAe
        go_wp2_with fail
        go_roundw
        case rel =>
          have hu := (Upd.refl (fun q => q = b) wr).setCell (p := ⟨b, k, none⟩) (fun _ => rfl) (.int .u8 120)
          refine ⟨k + 1, rfl, by have := hlH.out; omega, ?_, fun _ => ⟨b, _, (by first | rfl | exact hAe9.out), hb9.out, (hbk.out.set_ (k) _), by have := hs9.out; simpa using this⟩⟩
          first
            | exact hU.out.trans hu fun q _ e => by rw [hAe9.out]; rw [e]; rfl
            | (rw [← hAe9.out]; exact hU.out.trans hu fun q _ e => by rw [hAe9.out]; rw [e]; rfl)
        case measure => simp [intOf]; have := hlH.out; omega
      · have i1 : ¬ ((k : Int) < (l.length : Int)) := by omega
        clear hlt hk hrw
        have hPf := hid (hP8.out.upd hU.out fun q hq e => by have := hge.out q hq; have := hol.out q e; omega)
        have hRf := hid (hR8.out.upd hU.out fun q hq e => by have := hge7.out q hq; have := hol.out q e; have := hs56.out; omega)
        have hBf := hid (hB8.out.trans (hU.out.below (B := w.heap.size) hB8.out.size fun q hq e => by have := (hO.out.lt q e).1; omega))
        have hEf := hid (hE.out.below hBf.out)
        clear hU
        go_wp2_with fail
        refine (stands_any hPf.out hRf.out hEf.out.env hRng.out).mono ?_
        rintro e wf ⟨rfl, hbf⟩
        have hfin := hid (hBf.out.trans (hbf.mono hBf.out.size))
        clear hbf
        go_wp2_with fail
        go_ret
        exact ⟨rfl, hfin.out⟩
end
end Go.Proofs.YtphglnenafdkaaaGreatDoor

namespace Go.Proofs.YtphglnenafdkaaaGreatDoor
open Go.RowKit Go.Deep Go.ChangeShapes
set_option linter.unusedVariables false
set_option linter.unusedSimpArgs false
set_option maxRecDepth 10000

theorem list3 {α : Type} {l : List α} (h : l.length = 3) : ∃ a b c, l = [a, b, c] := by
  match l, h with
  | [a, b, c], _ => exact ⟨a, b, c, rfl⟩
theorem list2 {α : Type} {l : List α} (h : l.length = 2) : ∃ a b, l = [a, b] := by
  match l, h with
  | [a, b], _ => exact ⟨a, b, rfl⟩
def big : Nat := 140737488351232
def WB (l : List Nat) : Prop := ∀ n ∈ l, n ≤ big
theorem WB.app {l m : List Nat} (h : WB (l ++ m)) : WB l ∧ WB m := ⟨fun n hn => h n (List.mem_append_left _ hn), fun n hn => h n (List.mem_append_right _ hn)⟩
theorem WB.cons {a : Nat} {m : List Nat} (h : WB (a :: m)) : a ≤ big ∧ WB m := ⟨h a List.mem_cons_self, fun n hn => h n (List.mem_cons_of_mem _ hn)⟩
theorem WB.of_all {l : List Nat} (h : l.all (· ≤ reachBytes) = true) : WB l := fun n hn => by
  exact (of_decide_eq_true (List.all_eq_true.1 h n hn) : n ≤ reachBytes)
theorem cell_lt {w : World} {a : Addr} {v : Value} (h : w.cell? a = some v) : a.block < w.heap.size := by
  by_cases hl : a.block < w.heap.size
  · exact hl
  · exfalso
    have : w.heap[a.block]? = none := by simp; omega
    unfold World.cell? at h
    split at h <;> simp_all
theorem add_plain (b o j : Nat) : (⟨b, o, none⟩ : Addr).add j = ⟨b, o + j, none⟩ := by
  unfold Addr.add; split <;> simp_all
theorem pickS {α : Type} (R : Nat → α → Prop) : ∀ len : Nat, (∀ i, i < len → ∃ a, R i a) → ∃ us : List α, us.length = len ∧ ∀ i (h : i < us.length), R i us[i] := by
  intro len
  induction len with
  | zero => intro _; exact ⟨[], rfl, fun i h => absurd h (by simp)⟩
  | succ n ih =>
    intro h
    obtain ⟨us, hl, hR⟩ := ih fun i hi => h i (by omega)
    obtain ⟨a, ha⟩ := h n (by omega)
    refine ⟨us ++ [a], by simp [hl], fun i hi => ?_⟩
    by_cases hin : i < us.length
    · rw [List.getElem_append_left hin]; exact hR i hin
    · have : i = us.length := by simp at hi; omega
      subst this
      rw [List.getElem_append_right (by omega)]
      simpa [hl] using ha
theorem weightsAll_mem {H : Type} {P : Program} {e : TypeId} {d : DataW H} : ∀ {l : List (DataW H)}, d ∈ l → ∀ n ∈ d.weights P e, n ∈ DataW.weightsAll P e l := by
  intro l
  induction l with
  | nil => intro h; cases h
  | cons x l ih =>
    intro h n hn
    simp only [DataW.weightsAll, List.mem_append]
    rcases List.mem_cons.1 h with rfl | h
    · exact .inl hn
    · exact .inr (ih h n hn)
/-- a slice's cells, element by element; no part is greater than a machine can hold -/
theorem open_rowsS {α H : Type} {enc : TypeId × Value → H} {w : World} {base : Nat} {spare : Nat → Bool} {held : Bool} {t e : TypeId} {fuel : Nat} {cs : List Value} {x : DataW H × List MemPlace}
    (cf : α → List Value) (ok : α → Prop) (sz : Nat) (hsz : 0 < sz) (hcf : ∀ a, (cf a).length = sz) (ht : Tryz.prog.underlying t = some (.slice e)) (hce : Tryz.prog.cellsOf e = sz)
    (hE : ∀ n cs' y, DataW.trod enc Tryz.prog w base spare held n e cs' = some y → WB (y.1.weights Tryz.prog e) → ∃ a, cs' = cf a ∧ ok a)
    (h : DataW.trod enc Tryz.prog w base spare held fuel t cs = some x) (hw : WB (x.1.weights Tryz.prog t)) :
    ∃ (A : Option Addr) (us : List α) (c : Nat), cs = [.slice A us.length c] ∧ Rd (fun b => b < w.heap.size) w sz A us.length (us.flatMap cf) ∧ (∀ a ∈ us, ok a) ∧ us.length * Tryz.prog.bytesOf e ≤ big := by
  rcases open_slice ht h with ⟨rfl, rfl⟩ | ⟨a, len, cap, m, n, D, Pl, rfl, hb, hl, hm, hmm, rfl, hx⟩
  · exact ⟨none, [], 0, rfl, Rd.nil_, by simp, by simp⟩
  · have hlm : len ≤ m := by rw [hmm]; split <;> omega
    simp only [DataW.weights, ht] at hw
    obtain ⟨hw1, hw2⟩ := hw.cons
    obtain ⟨hw3, _⟩ := hw2.app
    obtain ⟨us, hal, hR⟩ := pickS (fun i r => ok r ∧ ∃ cs', cs' = cf r ∧ w.cells? base (a.add (i * sz)) sz = some cs') len (fun i hi => by
      obtain ⟨cs', h1, h2⟩ := hx i (by omega)
      rw [hce] at h1
      obtain ⟨r, e1, e2⟩ := hE _ _ _ h2 (fun u hu => hw3 u (weightsAll_mem (List.mem_map.2 ⟨i, List.mem_range.2 hi, rfl⟩) u hu))
      exact ⟨r, e2, cs', e1, h1⟩)
    refine ⟨some a, us, cap, by rw [hal], ⟨?_, fun h0 => ?_⟩, fun r hr => ?_, ?_⟩
    · exact flat_length cf sz hcf us
    · obtain ⟨_, cs0, e1, e2⟩ := hR 0 h0
      obtain ⟨_, h3, h4⟩ := World.cells?_some e2
      have h5 := h4 0 hsz
      rw [List.getElem?_eq_getElem (by omega)] at h5
      simp at h5
      obtain ⟨b, o, sp⟩ := a
      have h8 : sp = none := by have := World.cell?_spot h5; simpa [Addr.add] using this
      have h9 : b < w.heap.size := by have := cell_lt h5; simpa [Addr.add] using this
      subst h8
      refine ⟨b, o, rfl, h9, h9, fun j u hu => ?_⟩
      have hj : j / sz < us.length := by
        have h1 := (List.getElem?_eq_some_iff.1 hu).1
        rw [flat_length cf sz hcf] at h1
        exact Nat.div_lt_of_lt_mul (by rw [Nat.mul_comm]; exact h1)
      have hjm := Nat.mod_lt j hsz
      have hdm : j / sz * sz + j % sz = j := by rw [Nat.mul_comm]; exact Nat.div_add_mod j sz
      obtain ⟨_, cs1, f1, f2⟩ := hR _ hj
      obtain ⟨_, f3, f4⟩ := World.cells?_some f2
      have f5 := f4 _ hjm
      rw [add_plain, add_plain, Nat.add_assoc, hdm] at f5
      rw [← hdm, flat_at cf sz hcf us _ _ hj hjm, ← f1, ← f5] at hu
      exact hu
    · obtain ⟨i, hi, rfl⟩ := List.mem_iff_getElem.1 hr
      exact (hR i hi).1
    · simp only [List.length_map, List.length_range] at hw1
      rw [hal]
      exact Nat.le_trans (Nat.mul_le_mul_right _ (Nat.le_add_right _ _)) hw1
section
variable {H : Type} {enc : TypeId × Value → H} {w : World} {base : Nat} {spare : Nat → Bool} {held : Bool} {fuel : Nat} {cs : List Value} {x : DataW H × List MemPlace}
theorem fieldAt {fs : Array Field} {xs : List (DataW H × List MemPlace)} {n : Nat} (hf : ∀ (i : Nat) (f : Field), fs[i]? = some f → DataW.trod enc Tryz.prog w base spare held n f.type ((cs.drop f.offset).take (Tryz.prog.cellsOf f.type)) = xs[i]?) (i : Nat) {f : Field} (T : TypeId) (o k : Nat) {y : DataW H × List MemPlace}
    (hi : fs[i]? = some f) (hT : f.type = T) (ho : f.offset = o) (hc : Tryz.prog.cellsOf T = k) (hx : xs[i]? = some y) : DataW.trod enc Tryz.prog w base spare held n T ((cs.drop o).take k) = some y := by
  have := hf i f hi
  rw [hT, ho, hc, hx] at this
  exact this
theorem cof_int : Tryz.prog.cellsOf 3 = 1 := by kernel_rfl
theorem cof_i64 : Tryz.prog.cellsOf 2 = 1 := by kernel_rfl
theorem cof_str : Tryz.prog.cellsOf 9 = 1 := by kernel_rfl
theorem cof_val : Tryz.prog.cellsOf 38 = 3 := by kernel_rfl
theorem byt_val : Tryz.prog.bytesOf 38 = 32 := by kernel_rfl
theorem wf_i64 {n : Int} (h : (Lit.int .i64 n).wf = true) : -9223372036854775808 ≤ n ∧ n ≤ 9223372036854775807 := by
  simpa [Lit.wf, IntKind.min, IntKind.max, IntKind.bits, IntKind.signed] using h
theorem str_len (s : ByteArray) : s.data.toList.length = s.size := by rw [Array.length_toList]; rfl
theorem open_vl (h : DataW.trod enc Tryz.prog w base spare held fuel 38 cs = some x) (hw : WB (x.1.weights Tryz.prog 38)) : ∃ v : Vl, cs = v.cells ∧ v.rng ∧ v.s.size ≤ big := by
  obtain ⟨xs, n, _, rfl, hl, hlen, hf⟩ := DataW.trod_struct Tryz.underlying38 h
  rw [cof_val] at hl
  obtain ⟨c0, c1, c2, rfl⟩ := list3 hl
  obtain ⟨y0, y1, y2, rfl⟩ := list3 hlen
  have h0 := fieldAt hf 0 3 0 1 (y := y0) rfl rfl rfl cof_int rfl
  have h1 := fieldAt hf 1 2 1 1 (y := y1) rfl rfl rfl cof_i64 rfl
  have h2 := fieldAt hf 2 9 2 1 (y := y2) rfl rfl rfl cof_str rfl
  obtain ⟨k, e0, r0, _⟩ := DataW.trod_int Tryz.underlying3 (x := y0) h0
  obtain ⟨i, e1, r1, w1⟩ := DataW.trod_int Tryz.underlying2 (x := y1) h1
  obtain ⟨s, e2, r2, _⟩ := DataW.trod_string Tryz.underlying9 (x := y2) h2
  simp at e0 e1 e2
  subst e0 e1 e2 r0 r1 r2
  refine ⟨⟨k, i, s⟩, rfl, wf_i64 w1, ?_⟩
  have := hw s.data.toList.length (by simp [DataW.weights, DataW.weightsEach, Tryz.underlying38])
  rw [str_len] at this
  exact this
end
end Go.Proofs.YtphglnenafdkaaaGreatDoor

namespace Go.Proofs.YtphglnenafdkaaaGreatDoor
open Go.RowKit Go.Deep Go.ChangeShapes
set_option linter.unusedVariables false
set_option linter.unusedSimpArgs false
set_option maxRecDepth 10000

section
variable {H : Type} {enc : TypeId × Value → H} {w : World} {base : Nat} {spare : Nat → Bool} {held : Bool} {fuel : Nat} {cs : List Value} {x : DataW H × List MemPlace}
theorem cof_u8 : Tryz.prog.cellsOf 5 = 1 := by kernel_rfl
theorem byt_u8 : Tryz.prog.bytesOf 5 = 1 := by kernel_rfl
theorem wf_u8 {n : Int} (h : (Lit.int .u8 n).wf = true) : 0 ≤ n ∧ n ≤ 255 := by
  simpa [Lit.wf, IntKind.min, IntKind.max, IntKind.bits, IntKind.signed] using h
theorem flat_b (l : List Nat) : l.flatMap (fun n : Nat => [Value.int .u8 (n : Int)]) = bcells l := by
  unfold bcells
  induction l with
  | nil => rfl
  | cons a t ih => rw [List.flatMap_cons, List.map_cons, ih]; rfl
theorem open_bytes (h : DataW.trod enc Tryz.prog w base spare held fuel 41 cs = some x) (hw : WB (x.1.weights Tryz.prog 41)) :
    ∃ (A : Option Addr) (l : List Nat) (c : Nat), cs = [.slice A l.length c] ∧ Rd (fun b => b < w.heap.size) w 1 A l.length (bcells l) ∧ l.length ≤ 140737488351232 ∧ ∀ b ∈ l, b < 256 := by
  obtain ⟨A, l, c, e, hr, ho, hb⟩ := open_rowsS (fun n : Nat => [.int .u8 (n : Int)]) (fun n => n < 256) 1 (by omega) (fun _ => rfl) Tryz.underlying41 cof_u8 (fun n cs' y hy _ => by
    obtain ⟨k, e0, r0, w0⟩ := DataW.trod_int Tryz.underlying5 hy
    have h2 := wf_u8 w0
    exact ⟨k.toNat, by rw [e0, Int.toNat_of_nonneg h2.1], by omega⟩) h hw
  rw [flat_b] at hr
  rw [byt_u8] at hb
  exact ⟨A, l, c, e, hr, by unfold big at hb; omega, ho⟩
end
end Go.Proofs.YtphglnenafdkaaaGreatDoor

namespace Go.Proofs.YtphglnenafdkaaaGreatDoor
open Go.ChangeShapes Go.WideShapes Go.ChangeAt Go.RowKit

theorem trodAll_below {H : Type} {enc : TypeId × Value → H} {P : Program} (hl : laidOutB P = true) {W W' : World} (hb : Below W.heap.size W W') :
    ∀ {ts : List TypeId} {vs : List Value} {ds : List (DataW H)} {ps : List MemPlace}, ts.all (fun t => P.readableRec t && decide (t < P.types.size)) = true → (∀ x ∈ ps, x.block < W.heap.size) →
      DataW.TrodAll enc P W 0 (fun _ => true) true ts vs ds ps → DataW.TrodAll enc P W' 0 (fun b => decide (b < W.heap.size)) true ts vs ds ps := by
  intro ts
  induction ts with
  | nil =>
    intro vs ds ps _ _ h
    obtain ⟨rfl, rfl, rfl⟩ := trodAll_nil h
    exact trodAll_mk0
  | cons t ts ih =>
    intro vs ds ps hr hlt h
    obtain ⟨v, vs', d, ds', p, q, rfl, rfl, rfl, h0, h1⟩ := trodAll_cons h
    simp only [List.all_cons, Bool.and_eq_true, decide_eq_true_eq] at hr
    exact trodAll_cons_mk (Below.trod hl hr.1.1 hr.1.2 h0 hb fun x hx => hlt x (List.mem_append_left _ hx)) (ih hr.2 (fun x hx => hlt x (List.mem_append_right _ hx)) h1)

theorem law_post {H : Type} {enc : TypeId × Value → H} {P : Program} {f : Func} {s : ChangeSpec} {W W' : World} {args : Array Value} {ds gs : List (DataW H)} {before : List MemPlace} {tb : TypeId}
    (hl : laidOutB P = true) (hrow : f.params.toList.all (fun t => P.readableRec t && decide (t < P.types.size)) = true) (hres : f.resultTypes = #[tb]) (htb : P.underlying tb = some .bool)
    (hv : s.vars = []) (hW : DataW.Whole enc P f.params.toList s.vars false W args.toList ds gs before)
    (hs : (s.fn H (ds ++ gs)).results = [.lit (.bool true)]) (ha : (s.fn H (ds ++ gs)).args = ds) (hvs : (s.fn H (ds ++ gs)).vars = []) (hb : Below W.heap.size W W') :
    s.post enc P f false true false false W args (.bool true) W' := by
  have hlt : ∀ p ∈ before, p.block < W.heap.size := fun p hp => hW.lt p hp
  have hW' := hW
  obtain ⟨p, q, hA, hV, rfl, _, _⟩ := hW
  rw [hv] at hV
  obtain ⟨rfl, rfl⟩ := trodVars_none hV
  refine ⟨ds, [], _, [], p, [], hW', ?_, ?_, ?_, World.keptBut_mono (fun x hx => ?_) (hb.frame (· ∈ p)), fun h => by cases h⟩
  · rw [hs, hres]
    exact trodAll_cons_mk (shut_bool htb _) trodAll_mk0
  · rw [ha]
    exact trodAll_below hl hb hrow (fun x hx => hlt x (List.mem_append_left _ hx)) hA
  · rw [hv, hvs]; rfl
  · exact ⟨by simpa using hx, .inr (.inl hx)⟩

end Go.Proofs.YtphglnenafdkaaaGreatDoor

namespace Go.Proofs.YtphglnenafdkaaaGreatDoor
open Go.RowKit Go.ChangeShapes
set_option linter.unusedVariables false
set_option linter.unusedSimpArgs false
set_option maxRecDepth 100000

def lst : List (String × DataW Unit) := [("math/bits.deBruijn32tab", Rows.laid_math_bits_deBruijn32tab), ("math/bits.deBruijn64tab", Rows.laid_math_bits_deBruijn64tab), ("internal/strconv.uint64pow10", Rows.laid_internal_strconv_uint64pow10), ("unicode/utf8.acceptRanges", Rows.laid_unicode_utf8_acceptRanges), ("strconv.ErrRange", Rows.laid_strconv_ErrRange), ("strconv.ErrSyntax", Rows.laid_strconv_ErrSyntax), ("bytes.ErrTooLarge", Rows.laid_bytes_ErrTooLarge), ("unicode/utf8.first", Rows.laid_unicode_utf8_first)]
theorem ty_pow : (Tryz.prog.globals[2]?).map (·.type) = some 171 := by kernel_rfl
theorem ty_rng : (Tryz.prog.globals[6]?).map (·.type) = some 85 := by kernel_rfl
theorem co_pow : Tryz.prog.cellsOf 171 = 20 := by kernel_rfl
theorem co_u64 : Tryz.prog.cellsOf 118 = 1 := by kernel_rfl
theorem co_es : Tryz.prog.cellsOf 208 = 1 := by kernel_rfl
theorem co_st : Tryz.prog.cellsOf 9 = 1 := by kernel_rfl
theorem star : "*" ++ "errors.errorString" = "*errors.errorString" := by decide
theorem row_es (u : TypeId) (h : Tryz.prog.typeName? 3 u = some "*errors.errorString") : u = 206 :=
  typeName_ptr_named (nm := "errors.errorString") (by rw [star]; kernel_rfl) (by kernel_rfl) (by decide) u (by rw [star]; exact h)
theorem pow_data : (Rows.laid_internal_strconv_uint64pow10 : DataW Unit) = Lib.tabData .u64 Lib.pow10Tab := by kernel_rfl
theorem lt_of_var {W : World} {n : String} {g : Nat} {x : Array Value} (e : Tryz.prog.globalNamed n = some g) (hvar : W.var? Tryz.prog n = some x) : g < W.heap.size := by
  unfold World.var? at hvar
  rw [e] at hvar
  simp only [Option.bind_some] at hvar
  cases ho : W.heap[g]? with
  | none => rw [ho] at hvar; cases hvar
  | some o => exact (Array.getElem?_eq_some_iff.1 ho).1
theorem env_of_laid {W : World} (h : laidMet Tryz.prog lst W) : Env W := by
  have h3 : laidMet Tryz.prog (("internal/strconv.uint64pow10", Lib.tabData .u64 Lib.pow10Tab) :: ("unicode/utf8.acceptRanges", Rows.laid_unicode_utf8_acceptRanges) :: ("strconv.ErrRange", Rows.laid_strconv_ErrRange) :: ("strconv.ErrSyntax", Rows.laid_strconv_ErrSyntax) :: ("bytes.ErrTooLarge", Rows.laid_bytes_ErrTooLarge) :: [("unicode/utf8.first", Rows.laid_unicode_utf8_first)]) W := by
    have := h.tail.tail
    rw [pow_data] at this
    exact this
  obtain ⟨a, s, hv, _⟩ := laid_sentinel h3.tail.tail gRng ty_rng Tryz.underlying85 row_es Tryz.underlying206 Tryz.underlying208 rfl rfl Tryz.underlying9 co_es co_st
  refine ⟨Lib.tabIs_of_head gPow ty_pow Tryz.underlying171 Tryz.underlying118 co_u64 co_pow h3, ⟨_, _, hv⟩, ?_⟩
  have h1 := lt_of_var gRng hv
  obtain ⟨ps, ⟨g', t', cs, fuel, p, q, hg', ht', hvar, _⟩, _⟩ := h.tail
  have e : Tryz.prog.globalNamed "math/bits.deBruijn64tab" = some 8 := by kernel_rfl
  have h2 := lt_of_var e hvar
  omega
/-- so many blocks has the settled world -/
noncomputable def low : Nat := (World.holding Tryz.prog default ⟨#[], #[], []⟩).heap.size
def u8s (l : List Int) : Array Value := (l.map fun n => Value.int .u8 n).toArray
noncomputable def laidWorld (os : Os) : World :=
  let w0 := World.holding Tryz.prog os ⟨#[.cells #[.string ⟨#[118, 97, 108, 117, 101, 32, 111, 117, 116, 32, 111, 102, 32, 114, 97, 110, 103, 101]⟩] 208, .cells #[.string ⟨#[105, 110, 118, 97, 108, 105, 100, 32, 115, 121, 110, 116, 97, 120]⟩] 208, .cells #[.string ⟨#[98, 121, 116, 101, 115, 46, 66, 117, 102, 102, 101, 114, 58, 32, 116, 111, 111, 32, 108, 97, 114, 103, 101]⟩] 208], #[], []⟩
  { w0 with heap := (((((((w0.heap.modify 6 fun
      | .cells _ t frozen => .cells #[.iface 206 (.pointer (some ⟨low, 0, none⟩))] t frozen
      | o => o).modify 5 fun
      | .cells _ t frozen => .cells #[.iface 206 (.pointer (some ⟨low + 1, 0, none⟩))] t frozen
      | o => o).modify 2 fun
      | .cells _ t frozen => .cells (Lib.pow10Tab.map fun z => Value.int .u64 z).toArray t frozen
      | o => o).modify 7 fun
      | .cells _ t frozen => .cells (u8s [0, 1, 28, 2, 29, 14, 24, 3, 30, 22, 20, 15, 25, 17, 4, 8, 31, 27, 13, 23, 21, 19, 16, 7, 26, 12, 18, 6, 11, 5, 10, 9]) t frozen
      | o => o).modify 8 fun
      | .cells _ t frozen => .cells (u8s [0, 1, 56, 2, 57, 49, 28, 3, 61, 58, 42, 50, 38, 29, 17, 4, 62, 47, 59, 36, 45, 43, 51, 22, 53, 39, 33, 30, 24, 18, 12, 5, 63, 55, 48, 27, 60, 41, 37, 16, 46, 35, 44, 21, 52, 32, 23, 11, 54, 26, 40, 15, 34, 20, 31, 10, 25, 14, 19, 9, 13, 8, 7, 6]) t frozen
      | o => o).modify 0 fun
      | .cells _ t frozen => .cells #[.iface 206 (.pointer (some ⟨low + 2, 0, none⟩))] t frozen
      | o => o).modify 4 fun
      | .cells _ t frozen => .cells (u8s [128, 191, 160, 191, 128, 159, 144, 191, 128, 143, 0, 0, 0, 0, 0, 0, 0, 0, 0, 0, 0, 0, 0, 0, 0, 0, 0, 0, 0, 0, 0, 0]) t frozen
      | o => o).modify 3 fun
      | .cells _ t frozen => .cells (Pinned.utf8FirstZ.map fun n : Nat => Value.int .u8 (Int.ofNat n)).toArray t frozen
      | o => o }
theorem laid_met (os : Os) (args : Array Value) : laidMet Tryz.prog lst ((laidWorld os).forCall (fun _ _ => 0) ⟨#[], args, []⟩).memory :=
  laidMet_of_run' 8 (by kernel_rfl) (by kernel_rfl)
end Go.Proofs.YtphglnenafdkaaaGreatDoor


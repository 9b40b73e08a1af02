/- Texts of the proof, joined: IRun, KForm2, KNext, KLook, KFind, KFind2, KCheck. -/
import Derived.Test.YtdmogoaaecdbaaaGreatDoorJ15
import Derived.Defers
import Derived.Recover
import Derived.Test.YtdmogoaaecdbaaaGreatDoorJ05
import Derived.Test.YtdmogoaaecdbaaaGreatDoorJ03
import Derived.Test.YtdmogoaaecdbaaaGreatDoorJ04
namespace Go.Proofs.YtdmogoaaecdbaaaGreatDoor
open Go.RowKit
set_option linter.unusedVariables false
set_option linter.unusedSimpArgs false

theorem two_fuel {op : Int} {m m' : Mc} {a b : Vl} {r : List Vl} (h : twoP op m a b r = .ok m') : m'.fuel = m.fuel := by
  have wr : ∀ {n n' : Mc} {x : Wr}, n.write x = .ok n' → n'.fuel = n.fuel := fun {n n' x} hw => by
    unfold Mc.write at hw
    split at hw
    · cases hw
    · split at hw <;> cases hw
      rfl
  unfold twoP at h
  by_cases o1 : op = 13
  · rw [if_pos o1] at h; cases h; rfl
  rw [if_neg o1] at h
  by_cases o2 : op = 14
  · rw [if_pos o2] at h; cases h; rfl
  rw [if_neg o2] at h
  by_cases o3 : op = 24
  · rw [if_pos o3] at h
    split at h
    · split at h
      · cases h; rfl
      · cases h
    · cases h
  rw [if_neg o3] at h
  by_cases o4 : op = 22
  · rw [if_pos o4] at h
    split at h
    · split at h
      · cases h
      · exact (wr h).trans rfl
    · cases h
  rw [if_neg o4] at h
  split at h
  · split at h
    · cases h; rfl
    split at h
    · cases h; rfl
    split at h
    · cases h; rfl
    · cases h
  · cases h
theorem one_fuel {op : Int} {src : List Kv} {m m' : Mc} {a : Vl} {r : List Vl} (h : oneP op src m a r = .ok m') : m'.fuel = m.fuel := by
  have wr : ∀ {n n' : Mc} {x : Wr}, n.write x = .ok n' → n'.fuel = n.fuel := fun {n n' x} hw => by
    unfold Mc.write at hw
    split at hw
    · cases hw
    · split at hw <;> cases hw
      rfl
  have ld : ∀ {n n' : Mc} {k : ByteArray} {v : Vl}, n.load src k = .ok (v, n') → n'.fuel = n.fuel := fun {n n' k v} hl => by
    unfold Mc.load at hl
    split at hl
    · cases hl; rfl
    · split at hl <;> cases hl
      rfl
  unfold oneP at h
  by_cases o12 : op = 12
  · rw [if_pos o12] at h
    split at h
    · split at h
      · cases h
      · cases h; rfl
    · cases h
  rw [if_neg o12] at h
  by_cases o15 : op = 15
  · rw [if_pos o15] at h
    split at h
    · cases h; rfl
    · cases h
  rw [if_neg o15] at h
  by_cases o20 : op = 20
  · rw [if_pos o20] at h
    split at h
    · cases h
    · split at h
      · rename_i v m1 hl
        cases h
        exact (ld hl).trans rfl
      · cases h
  rw [if_neg o20] at h
  by_cases o21 : op = 21
  · rw [if_pos o21] at h
    split at h
    · cases h
    · split at h
      · rename_i v m1 hl
        cases h
        exact (ld hl).trans rfl
      · cases h
  rw [if_neg o21] at h
  by_cases o23 : op = 23
  · rw [if_pos o23] at h
    split at h
    · cases h
    · exact (wr h).trans rfl
  rw [if_neg o23] at h
  by_cases o25 : op = 25
  · rw [if_pos o25] at h
    split at h
    · cases h; rfl
    · cases h
  rw [if_neg o25] at h
  by_cases o26 : op = 26
  · rw [if_pos o26] at h
    split at h
    · split at h
      · cases h; rfl
      · cases h
    · cases h
  rw [if_neg o26] at h
  by_cases o27 : op = 27
  · rw [if_pos o27] at h
    split at h
    · cases h; rfl
    · cases h
  rw [if_neg o27] at h
  by_cases o28 : op = 28
  · rw [if_pos o28] at h
    cases h; rfl
  rw [if_neg o28] at h
  by_cases o29 : op = 29
  · rw [if_pos o29] at h
    split at h
    · cases h
    · split at h
      · cases h
      · cases h; rfl
  rw [if_neg o29] at h
  split at h
  · split at h <;> cases h
  · cases h
theorem on_fuel {p : Pr} {args : List Vl} {src : List Kv} {m m1 : Mc} {i : Is} (h : onP p args src m i = .ok m1) : m1.fuel = m.fuel := by
  unfold onP at h
  split at h
  · cases h
    show (movP p args m i).fuel = m.fuel
    unfold movP
    repeat' split
    all_goals rfl
  split at h
  · cases h; rfl
  split at h
  · split at h
    · split at h <;> cases h
      rfl
    · cases h
  split at h
  · split at h
    · rename_i a b r _
      cases hq : twoP i.op m a b r with
      | ok m2 => rw [hq] at h; cases h; exact (show m2.fuel = m.fuel from two_fuel hq)
      | error e => rw [hq] at h; cases h
    · cases h
  · split at h
    · rename_i a r _
      cases hq : oneP i.op src m a r with
      | ok m2 => rw [hq] at h; cases h; exact (show m2.fuel = m.fuel from one_fuel hq)
      | error e => rw [hq] at h; cases h
    · cases h
theorem step_fuel {p : Pr} {args : List Vl} {src : List Kv} {m m1 : Mc} (h : stepP p args src m = .inr m1) : m1.fuel + 1 = m.fuel := by
  unfold stepP at h
  split at h
  · cases h
  rename_i hf
  split at h
  · cases h
  split at h
  · rename_i m2 ho
    cases h
    have := on_fuel ho
    have e : m.tick.fuel = m.fuel - 1 := rfl
    omega
  · cases h
/-- to the end -/
def endP (p : Pr) (args : List Vl) (src : List Kv) (m : Mc) : Er × Mc := runP p args src (m.fuel + 1) m
theorem endP_go {p : Pr} {args : List Vl} {src : List Kv} {m m1 : Mc} (h : stepP p args src m = .inr m1) : endP p args src m = endP p args src m1 := by
  have e := step_fuel h
  unfold endP
  rw [e]
  conv => lhs; unfold runP
  rw [h]
theorem endP_end {p : Pr} {args : List Vl} {src : List Kv} {m : Mc} {x : Er × Mc} (h : stepP p args src m = .inl x) : endP p args src m = x := by
  unfold endP runP
  rw [h]
def fuelW (w : World) (g : Nat) : Nat := match w.cell? ⟨g, 7, none⟩ with | some v => (intOf v).toNat | none => 0
theorem MAt.fuelW {S : Nat → Prop} {w : World} {g : Nat} {F : Fr} {m : Mc} (h : MAt S w g F m) : fuelW w g = m.fuel := by
  obtain ⟨a, h, _⟩ := h
  have : w.cell? ⟨g, 7, none⟩ = some (.int .i64 (m.fuel : Nat)) := h.blk.cell 7
  unfold Go.Proofs.YtdmogoaaecdbaaaGreatDoor.fuelW
  rw [this]
  simp [intOf]
set_option maxRecDepth 100000 in
set_option maxHeartbeats 2000000 in
theorem give_end (z : Nat) (c a : Int) (older : List PanicEntry) (w : World) (h : Blk w z 92 #[.int .i64 0, .int .i64 0]) :
    CallsD Tryz.prog 71 #[.pointer (some ⟨z, 0, none⟩)] (.panicking ({ v := .iface 92 (.agg #[.int .i64 c, .int .i64 a]), recovered := false } :: older)) w fun e u' w' =>
      e = .returned (.tuple #[]) ∧ u' = .panicking ({ v := .iface 92 (.agg #[.int .i64 c, .int .i64 a]), recovered := true } :: older) ∧ Blk w' z 92 #[.int .i64 c, .int .i64 a] ∧ Upd (fun k => k = z) w w' := by
  have H := hid h
  have hass : ∀ w, (Instr.typeAssert (.iface 92 (.agg #[.int .i64 c, .int .i64 a])) 20 92 true).run Tryz.prog w = .ok (.tuple #[.agg #[.int .i64 c, .int .i64 a], .bool true]) w := fun w => by kernel_rfl
  clear h
  refine callsD_of_wpS Tryz.func71 rfl fun c₀ cs hu => ?_
  apply wpS_seq
  apply wpS_region
  simp [wpOpsS, go_sem, recoverD, hu, Tryz.ntmps71, Exit.thenS]
  refine wpS_of_wp ?_
  refine Code.wp_mono (Q := fun e a' w' => e = .normal ∧ a'.defers = [] ∧ Blk w' z 92 #[.int .i64 c, .int .i64 a] ∧ Upd (fun k => k = z) w w') ?_ ?_
  · rintro e a' w' ⟨rfl, h1, h2, h3⟩
    simp [bodyPostS, Go.results, Tryz.results71, h1]
    exact ⟨h2, h3⟩
  clear hu
  have kn := Blk.new w 92 #[.int .i64 c, .int .i64 a]
  have hb1 : Below w.heap.size w (w.alloc (.cells #[.int .i64 c, .int .i64 a] 92)) := (Below.refl _ _).alloc (Nat.le_refl _) _
  have H1 := H.out.below_all hb1
  have x0 := H1.cell 0
  have x1 := H1.cell 1
  have n0 := kn.cell 0
  have n1 := kn.cell 1
  simp only [List.getElem?_toArray, List.getElem?_cons_zero, List.getElem?_cons_succ] at n0 n1 x0 x1
  have fz := fun q => H1.frozen q
  have HB1 := hid hb1
  have HH1 := hid H1
  have hz : Hid (z < w.heap.size) := hid H.out.lt
  clear kn hb1 H1
  show Code.wp Tryz.prog _ _ { tmps := #[.pointer (some ⟨z, 0, none⟩), .iface 92 (.agg #[.int .i64 c, .int .i64 a]), undef, undef, .iface 92 (.agg #[.int .i64 c, .int .i64 a]), undef, undef, undef, undef, undef, undef, undef, undef, undef], defers := [] } w
  go_upto_region 2 with fail
  generalize w.alloc (.cells #[.int .i64 c, .int .i64 a] 92) = w1 at *
  have e1 : ¬ w.heap.size = z := by have := hz.out; omega
  have e2 : ¬ z = w.heap.size := fun h => e1 h.symm
  go_wp2_with fail
  refine ⟨?_, ?_⟩
  · simpa using (HH1.out.set_ 0 (.int .i64 c)).set_ 1 (.int .i64 a)
  · exact ((Upd.of_below' HB1.out (fun k => k = z)).setCell (p := ⟨z, 0, none⟩) (fun _ => rfl) _).setCell (p := ⟨z, 1, none⟩) (fun _ => rfl) _
section
variable {S : Nat → Prop} {w w' : World} {g : Nat} {F : Fr} {m : Mc}
set_option maxRecDepth 100000 in
set_option maxHeartbeats 4000000 in
theorem run_any {d : Nat → Int} (h : MAt S w g F m) (G : Good F.p F.args F.src d) (hk : m.Ok F.p d) (hsrc : ∀ x ∈ F.src, x.2.s.size ≤ 9223372036854775806) (hsl : F.src.length ≤ 1000000) : Calls Tryz.prog 40 #[.pointer (some ⟨g, 0, none⟩)] w fun e w' => e = .returned (.agg #[.int .i64 (endP F.p F.args F.src m).1.1, .int .i64 (endP F.p F.args F.src m).1.2]) ∧ ∃ st', MGo S w g F { (endP F.p F.args F.src m).2 with st := st' } w' := by
  have hmf : ∀ (fn : Fn) (first cap : Array Value) (w : World), (Instr.makeFunc fn first cap).run Tryz.prog w = .ok (.func fn first cap) w := fun _ _ _ _ => rfl
  obtain ⟨R, hR⟩ : ∃ R, Hid (endP F.p F.args F.src m = R) := ⟨_, hid rfl⟩
  rw [hR.out]
  have hlt := hid h.lt
  have hb1 : Below w.heap.size w (w.alloc (.cells #[.int .i64 0, .int .i64 0] 92)) := (Below.refl _ _).alloc (Nat.le_refl _) _
  have kz := hid (Blk.new w 92 #[.int .i64 0, .int .i64 0])
  have A1 := hid (h.below hb1)
  have hh := hid h
  have hG := hid G
  have hK := hid hk
  have hsrc := hid hsrc
  have hsl := hid hsl
  have hU1 := hid (Upd.of_below' hb1 S)
  clear h hb1 G hk
  go_enter_defers Tryz.func40, Tryz.ntmps40
  go_upto_region 1 with fail
  generalize w.alloc (.cells #[.int .i64 0, .int .i64 0] 92) = w1 at *
  go_wp2_with fail
  go_loopw [4] (fun _ wx => ∃ (m1 : Mc) (S1 : Nat → Prop), MAt S1 wx g F m1 ∧ m1.Ok F.p d ∧ endP F.p F.args F.src m1 = R ∧ Blk wx w.heap.size 92 #[.int .i64 0, .int .i64 0] ∧ (∀ q, S1 q → S q ∨ w.heap.size < q) ∧ (∀ q, S q → S1 q) ∧ Upd S w wx) (fun _ wx => fuelW wx g)
  case atStart => exact ⟨m, S, A1.out, hK.out, hR.out, kz.out, fun q hq => .inl hq, fun q hq => hq, hU1.out⟩
  case round =>
    clear A1 hK kz hU1 hR
    obtain ⟨m1, S1, A0, K0, e0, kz0, t10, t20, U0⟩ := hrel
    have A := hid A0
    have K := hid K0
    have hR := hid e0
    have kz := hid kz0
    have t1 := hid t10
    have t2 := hid t20
    have U := hid U0
    have hnz : Hid (¬ S1 w.heap.size) := hid fun e => by
      rcases t10 _ e with e | e
      · have := hlt.out _ e; omega
      · omega
    have hst := hid (step_any A0 hG.out K0 hsrc.out hsl.out)
    have hzl : Hid (w.heap.size < wr.heap.size) := hid kz0.lt
    clear A0 K0 e0 kz0 t10 t20 U0
    cases hq : stepP F.p F.args F.src m1 with
    | inr m2 =>
      rw [hq] at hst
      have hR2 := hid ((endP_go hq).symm.trans hR.out)
      have K2 := hid (step_ok hG.out K.out hq)
      have hfu := hid (step_fuel hq)
      clear hq
      go_wp2_with fail
      refine hst.out.mono ?_
      rintro e w3 ⟨rfl, S2, A2, b1, b2, U2⟩
      have A2 := hid A2
      have b1 := hid b1
      have b2 := hid b2
      have U2 := hid U2
      go_wp2_with fail
      go_roundw
      case rel => exact ⟨m2, S2, A2.out, K2.out, hR2.out, kz.out.upd U2.out hnz.out, fun q hq => by
        rcases b1.out q hq with e | e
        · exact t1.out q e
        · right; have := hzl.out; omega, fun q hq => b2.out q (t2.out q hq), U.out.trans U2.out fun b hb e => (t1.out b e).resolve_right (by omega)⟩
      case measure => rw [A2.out.fuelW, A.out.fuelW]; have := hfu.out; omega
    | inl x =>
      rw [hq] at hst
      have hx : Hid (R = x) := hid (hR.out.symm.trans (endP_end hq))
      clear hq
      go_wp2_with fail
      refine hst.out.mono ?_
      rintro e w3 ⟨rfl, st9, S2, A2, b1, b2, U2⟩
      have A2 := hid A2
      have b1 := hid b1
      have b2 := hid b2
      have U2 := hid U2
      have kz3 := hid (kz.out.upd U2.out hnz.out)
      go_wp2_with fail
      refine leaves_cons (f := 71) (args := #[.pointer (some ⟨w.heap.size, 0, none⟩)]) (by simp) (by simp [go_sem]) ?_
      refine (give_end _ _ _ [] _ kz3.out).mono ?_
      rintro e u' w4 ⟨rfl, rfl, k4, U4⟩
      have U3 : Upd S w w3 := U.out.trans U2.out fun b hb e => (t1.out b e).resolve_right (by omega)
      have hS2 : ∀ q, S2 q → S q ∨ w.heap.size ≤ q := fun q hq => by
        rcases b1.out q hq with e | e
        · exact (t1.out q e).imp id fun e => by omega
        · right; have := hzl.out; omega
      have hn2 : ¬ S2 w.heap.size := fun e => by
        rcases b1.out _ e with e | e
        · exact hnz.out e
        · have := hzl.out; omega
      refine ⟨.agg #[.int .i64 x.1.1, .int .i64 x.1.2], ?_, by rw [hx.out], st9, ?_⟩
      · exact results_cell_row (P := Tryz.prog) rfl _ _ w.heap.size 92 _ (0, 0) _ rfl k4 Tryz.underlying92 rfl (by kernel_rfl)
      · rw [hx.out]
        obtain ⟨a0, h0, _⟩ := hh.out
        obtain ⟨a2, h2, e2⟩ := A2.out
        exact ⟨S2, ⟨a2, h0.side h2 U3 hS2 (Nat.le_refl _) hn2 U4, e2⟩, hS2, fun q hq => b2.out q (t2.out q hq), U3.trans U4 fun b hb e => absurd hb (by omega)⟩
end
end Go.Proofs.YtdmogoaaecdbaaaGreatDoor

namespace Go.Proofs.YtdmogoaaecdbaaaGreatDoor
open Go.RowKit
set_option linter.unusedVariables false
set_option linter.unusedSimpArgs false

set_option maxRecDepth 100000 in
set_option maxHeartbeats 2000000 in
theorem form_any (p : Pr) (S : Nat → Prop) (A1 A2 : Option Addr) (c1 c2 : Nat) (w : World) (hp : PrIn S w A1 A2 p) : Calls Tryz.prog 124 #[.agg #[.int .i64 p.args, .slice A1 p.cs.length c1, .slice A2 p.code.length c2]] w fun e w' => e = .returned (.tuple #[.int .i64 p.form.1, .int .i64 p.form.2]) ∧ Below w.heap.size w w' := by
  have kp := Blk.new w 33 #[.int .i64 p.args, .slice A1 p.cs.length c1, .slice A2 p.code.length c2]
  have hB0 : Below w.heap.size w (w.alloc (.cells #[.int .i64 p.args, .slice A1 p.cs.length c1, .slice A2 p.code.length c2] 33)) := (Below.refl _ _).alloc (Nat.le_refl _) _
  have HP := hid (hp.below hB0)
  have hT := hid hp.t
  have hL := hid hp.l
  have KP := hid kp
  have HB := hid hB0
  clear hp kp hB0
  go_enter Tryz.func124, Tryz.ntmps124
  go_upto_region 1 with fail
  generalize w.alloc (.cells #[.int .i64 p.args, .slice A1 p.cs.length c1, .slice A2 p.code.length c2] 33) = w1 at *
  have p0 := KP.out.cell 0
  have p1 := KP.out.cell 1
  have p2 := KP.out.cell 2
  simp only [List.getElem?_toArray, List.getElem?_cons_zero, List.getElem?_cons_succ] at p0 p1 p2
  have hend : ∀ (e a : Int), p.form = (e, a) → Hid (p.form.1 = e ∧ p.form.2 = a) := fun _ _ h => hid ⟨congrArg Prod.fst h, congrArg Prod.snd h⟩
  by_cases ha0 : p.args < 0
  · have t0 : decide (p.args < 0) = true := decide_eq_true ha0
    have hf := hend _ _ (show p.form = (50, 0) by unfold Pr.form; rw [if_pos (.inl ha0)])
    clear hend ha0
    go_wp2_with fail
    go_ret2
    exact ⟨by rw [hf.out.1, hf.out.2]; rfl, HB.out⟩
  have t0 : decide (p.args < 0) = false := decide_eq_false ha0
  by_cases ha8 : 8 < p.args
  · have t1 : decide (8 < p.args) = true := decide_eq_true ha8
    have hf := hend _ _ (show p.form = (50, 0) by unfold Pr.form; rw [if_pos (.inr ha8)])
    clear hend ha0 ha8
    go_wp2_with fail
    go_ret2
    exact ⟨by rw [hf.out.1, hf.out.2]; rfl, HB.out⟩
  have t1 : decide (8 < p.args) = false := decide_eq_false ha8
  by_cases hc : 32 < p.cs.length
  · have t2 : decide (32 < (p.cs.length : Int)) = true := decide_eq_true (by omega)
    have hf := hend _ _ (show p.form = (6, 0) by unfold Pr.form; rw [if_neg (by omega), if_pos hc])
    clear hend ha0 ha8 hc
    go_wp2_with fail
    go_ret2
    exact ⟨by rw [hf.out.1, hf.out.2]; rfl, HB.out⟩
  have t2 : decide (32 < (p.cs.length : Int)) = false := decide_eq_false (by omega)
  have t2' : decide (32 < p.cs.length) = false := decide_eq_false hc
  have hf0 : Hid (p.form = if (scan (fun i => conE (p.cs.getD i vl0)) p.cs.length 0).1 ≠ 0 then scan (fun i => conE (p.cs.getD i vl0)) p.cs.length 0 else if p.code.length = 0 ∨ 256 < p.code.length then (52, 0) else scan (fun i => p.insE (p.code.getD i is0)) p.code.length 0) := hid (by unfold Pr.form; rw [if_neg (by omega), if_neg hc])
  have hc9 : (p.cs.length : Int) ≤ 32 := by omega
  have HE := hid hend
  clear ha0 ha8 hc hend
  go_wp2_with fail
  go_loopw [25] (fun v wr => ∃ k : Nat, v = .int .i64 k ∧ k ≤ p.cs.length ∧ Below w1.heap.size w1 wr ∧ scan (fun i => conE (p.cs.getD i vl0)) p.cs.length 0 = scan (fun i => conE (p.cs.getD i vl0)) (p.cs.length - k) k) (fun v _ => p.cs.length - (intOf v).toNat)
  case atStart => exact ⟨0, rfl, Nat.zero_le _, Below.refl _ _, rfl⟩
  case round =>
    obtain ⟨k, rfl, hk, hB0, he0⟩ := hrel
    have hB := hid hB0
    have he := hid he0
    have KPr := hid (KP.out.below_all hB0)
    clear hB0 he0 p0 p1 p2
    have p0 := KPr.out.cell 0
    have p1 := KPr.out.cell 1
    have p2 := KPr.out.cell 2
    simp only [List.getElem?_toArray, List.getElem?_cons_zero, List.getElem?_cons_succ] at p0 p1 p2
    by_cases hlt : k < p.cs.length
    · have i1 : (k : Int) < (p.cs.length : Int) := by omega
      obtain ⟨b, o, hA, hbl, a0, a1, a2⟩ := (HP.out.below hB.out).c.val_at hlt
      have hvs := hT.out _ (List.getElem_mem hlt)
      have hgd : conE (p.cs.getD k vl0) = conE p.cs[k] := by simp only [List.getD_eq_getElem?_getD, List.getElem?_eq_getElem hlt, Option.getD_some]
      have hst := hid (scan_step (fun i => conE (p.cs.getD i vl0)) p.cs.length k hlt)
      have hht := hid (scan_hit (fun i => conE (p.cs.getD i vl0)) p.cs.length k hlt)
      rw [hgd] at hst hht
      subst hA
      clear hgd
      generalize p.cs[k] = v at *
      have hva := hid (fun w => valid_any v w hvs)
      have kv := Blk.new wr 55 #[.int .i64 v.k, .int .i64 v.n, .string v.s]
      have hB1 := hid (hB.out.alloc hB.out.size (.cells #[.int .i64 v.k, .int .i64 v.n, .string v.s] 55))
      have KV := hid kv
      have v0 := kv.cell 0
      have v1 := kv.cell 1
      have v2 := kv.cell 2
      simp only [List.getElem?_toArray, List.getElem?_cons_zero, List.getElem?_cons_succ] at v0 v1 v2
      have KP3 := hid (KPr.out.alloc (.cells #[.int .i64 v.k, .int .i64 v.n, .string v.s] 55))
      clear kv hvs
      go_upto_region 8 with fail
      generalize wr.alloc (.cells #[.int .i64 v.k, .int .i64 v.n, .string v.s] 55) = w3 at *
      clear p0 p1 p2 a0 a1 a2
      go_wp2_with fail
      refine (hva.out w3).mono ?_
      rintro e w4 ⟨rfl, hb40⟩
      have KV4 := hid (KV.out.below_all hb40)
      have hB4 := hid (hB1.out.trans (hb40.mono hB1.out.size))
      clear hb40 v0 v1 v2 hva
      have y0 := KV4.out.cell 0
      simp only [List.getElem?_toArray, List.getElem?_cons_zero] at y0
      cases ho : v.ok with
      | false =>
        have hne : conE v ≠ 0 := by unfold conE; rw [if_neg (by rw [ho]; rintro ⟨h, _⟩; cases h)]; decide
        have h51 : conE v = 51 := by unfold conE; rw [if_neg (by rw [ho]; rintro ⟨h, _⟩; cases h)]
        have hs := (he.out.trans (hht.out hne))
        rw [h51] at hs
        have hf := HE.out _ _ (hf0.out.trans (by rw [hs]))
        have HBf := hid (HB.out.trans (hB4.out.mono HB.out.size))
        clear hne h51 hs
        go_wp2_with fail
        go_ret2
        exact ⟨by rw [hf.out.1, hf.out.2]; rfl, HBf.out⟩
      | true =>
        by_cases hk : v.k = 0
        · have u1 : (v.k == 0) = true := by simpa using hk
          have hne : conE v ≠ 0 := by unfold conE; rw [if_neg (by rintro ⟨_, h⟩; exact h hk)]; decide
          have h51 : conE v = 51 := by unfold conE; rw [if_neg (by rintro ⟨_, h⟩; exact h hk)]
          have hs := (he.out.trans (hht.out hne))
          rw [h51] at hs
          have hf := HE.out _ _ (hf0.out.trans (by rw [hs]))
          have HBf := hid (HB.out.trans (hB4.out.mono HB.out.size))
          generalize v.k = vk at *
          clear hne h51 hs hk
          go_wp2_with fail
          go_ret2
          exact ⟨by rw [hf.out.1, hf.out.2]; rfl, HBf.out⟩
        · have u1 : (v.k == 0) = false := by simpa using hk
          have hz : conE v = 0 := by unfold conE; rw [if_pos ⟨ho, hk⟩]
          have hs := hid (he.out.trans (hst.out hz))
          generalize v.k = vk at *
          clear hz hk
          go_wp2_with fail
          go_roundw
          case rel => exact ⟨k + 1, by go_num, hlt, hB4.out, hs.out⟩
          case measure => simp [intOf]; omega
    · obtain rfl : k = p.cs.length := by omega
      have hs := he.out.trans (scan_end _ _)
      have hf1 : Hid (p.form = if p.code.length = 0 ∨ 256 < p.code.length then (52, 0) else scan (fun i => p.insE (p.code.getD i is0)) p.code.length 0) := hid (by rw [hf0.out, hs, if_neg (by decide)])
      have HBr := hid (HB.out.trans (hB.out.mono HB.out.size))
      clear hs
      by_cases hz : p.code.length = 0
      · have u0 : ((p.code.length : Int) == 0) = true := by simpa using hz
        have hf := HE.out _ _ (hf1.out.trans (by rw [if_pos (.inl hz)]))
        generalize p.code.length = n at *
        subst hz
        go_wp2_with fail
        go_ret2
        exact ⟨by rw [hf.out.1, hf.out.2]; rfl, HBr.out⟩
      have u0 : ((p.code.length : Int) == 0) = false := by simpa using hz
      by_cases h256 : 256 < p.code.length
      · have u1 : decide (256 < (p.code.length : Int)) = true := decide_eq_true (by omega)
        have u1' : decide (256 < p.code.length) = true := decide_eq_true h256
        have hf := HE.out _ _ (hf1.out.trans (by rw [if_pos (.inr h256)]))
        clear h256
        go_wp2_with fail
        go_ret2
        exact ⟨by rw [hf.out.1, hf.out.2]; rfl, HBr.out⟩
      have u1 : decide (256 < (p.code.length : Int)) = false := decide_eq_false (by omega)
      have u1' : decide (256 < p.code.length) = false := decide_eq_false h256
      have hf2 : Hid (p.form = scan (fun i => p.insE (p.code.getD i is0)) p.code.length 0) := hid (by rw [hf1.out, if_neg (by omega)])
      have hn9 : (p.code.length : Int) ≤ 256 := by omega
      have hzz := hid hz
      clear h256 hf1 hf0 hz
      go_wp2_with fail
      go_loopw [53] (fun v wx => ∃ k : Nat, v = .int .i64 k ∧ k ≤ p.code.length ∧ Below w1.heap.size w1 wx ∧ p.form = scan (fun i => p.insE (p.code.getD i is0)) (p.code.length - k) k) (fun v _ => p.code.length - (intOf v).toNat)
      case atStart => exact ⟨0, rfl, Nat.zero_le _, hB.out, hf2.out⟩
      case round =>
        clear p0 p1 p2 HBr KPr hB he hf2
        obtain ⟨k, rfl, hk, hB0, he0⟩ := hrel
        have hB := hid hB0
        have he := hid he0
        have KPr := hid (KP.out.below_all hB0)
        clear hB0 he0
        have p0 := KPr.out.cell 0
        have p1 := KPr.out.cell 1
        have p2 := KPr.out.cell 2
        simp only [List.getElem?_toArray, List.getElem?_cons_zero, List.getElem?_cons_succ] at p0 p1 p2
        by_cases hlt : k < p.code.length
        · have i1 : (k : Int) < (p.code.length : Int) := by omega
          obtain ⟨b, o, hA, hbl, a0, a1⟩ := (HP.out.below hB.out).i.ins_at hlt
          have hgd : p.insE (p.code.getD k is0) = p.insE p.code[k] := by simp only [List.getD_eq_getElem?_getD, List.getElem?_eq_getElem hlt, Option.getD_some]
          have hst := hid (scan_step (fun i => p.insE (p.code.getD i is0)) p.code.length k hlt)
          have hht := hid (scan_hit (fun i => p.insE (p.code.getD i is0)) p.code.length k hlt)
          rw [hgd] at hst hht
          subst hA
          clear hgd
          generalize p.code[k] = i at *
          have hin : Hid (p.insE i = if isOp i.op = false then 53 else if 0 ≤ i.n ∧ i.n < p.most i.op then 0 else 54) := hid rfl
          have hwo := hid (word_any i.op)
          have hfi := hid (fits_any p A1 (some ⟨b, o, none⟩) c1 c2 i)
          have ki := Blk.new wr 69 #[.int .i64 i.op, .int .i64 i.n]
          have hB1 := hid (hB.out.alloc hB.out.size (.cells #[.int .i64 i.op, .int .i64 i.n] 69))
          have KI := hid ki
          have KP3 := hid (KPr.out.alloc (.cells #[.int .i64 i.op, .int .i64 i.n] 69))
          have q0 := ki.cell 0
          simp only [List.getElem?_toArray, List.getElem?_cons_zero] at q0
          clear ki
          go_upto_region 16 with fail
          generalize wr.alloc (.cells #[.int .i64 i.op, .int .i64 i.n] 69) = w3 at *
          clear p0 p1 p2 a0 a1
          go_wp2_with fail
          refine (hwo.out w3).mono ?_
          rintro e w4 ⟨rfl, hb40⟩
          have KI4 := hid (KI.out.below_all hb40)
          have KP4 := hid (KP3.out.below_all hb40)
          have hB4 := hid (hB1.out.trans (hb40.mono hB1.out.size))
          clear hb40 q0 hwo
          cases ho : isOp i.op with
          | false =>
            have h53 : p.insE i = 53 := by rw [hin.out, ho]; rfl
            have hs := he.out.trans (hht.out (by rw [h53]; decide))
            rw [h53] at hs
            have hf := HE.out _ _ hs
            have HBf := hid (HB.out.trans (hB4.out.mono HB.out.size))
            have e0 := wordI_nil ho
            rw [e0]
            clear hs h53
            go_wp2_with fail
            go_ret2
            exact ⟨by rw [hf.out.1, hf.out.2]; rfl, HBf.out⟩
          | true =>
            obtain ⟨e1, e2, e3⟩ := str_nil (wordI_some ho)
            have hin2 : Hid (p.insE i = if 0 ≤ i.n ∧ i.n < p.most i.op then 0 else 54) := hid (by rw [hin.out, ho]; rfl)
            clear ho hin
            generalize wordI i.op = wd at *
            have p0 := KP4.out.cell 0
            have p1 := KP4.out.cell 1
            have p2 := KP4.out.cell 2
            simp only [List.getElem?_toArray, List.getElem?_cons_zero, List.getElem?_cons_succ] at p0 p1 p2
            have j0 := KI4.out.cell 0
            have j1 := KI4.out.cell 1
            simp only [List.getElem?_toArray, List.getElem?_cons_zero, List.getElem?_cons_succ] at j0 j1
            go_wp2_with fail
            refine (hfi.out w4).mono ?_
            rintro e w5 ⟨rfl, hb50⟩
            have hB5 := hid (hB4.out.trans (hb50.mono hB4.out.size))
            clear hb50 p0 p1 p2 j0 j1
            by_cases hz : 0 ≤ i.n ∧ i.n < p.most i.op
            · rw [decide_eq_true hz]
              have hs := hid (he.out.trans (hst.out (by rw [hin2.out, if_pos hz])))
              clear hz
              go_wp2_with fail
              go_roundw
              case rel => exact ⟨k + 1, by go_num, hlt, hB5.out, hs.out⟩
              case measure => simp [intOf]; omega
            · rw [decide_eq_false hz]
              have h54 : p.insE i = 54 := by rw [hin2.out, if_neg hz]
              have hs := he.out.trans (hht.out (by rw [h54]; decide))
              rw [h54] at hs
              have hf := HE.out _ _ hs
              have HBf := hid (HB.out.trans (hB5.out.mono HB.out.size))
              clear hz hs h54
              go_wp2_with fail
              go_ret2
              exact ⟨by rw [hf.out.1, hf.out.2]; rfl, HBf.out⟩
        · obtain rfl : k = p.code.length := by omega
          have hf := HE.out _ _ (he.out.trans (scan_end _ _))
          have HBf := hid (HB.out.trans (hB.out.mono HB.out.size))
          go_wp2_with fail
          go_ret2
          exact ⟨by rw [hf.out.1, hf.out.2]; rfl, HBf.out⟩
end Go.Proofs.YtdmogoaaecdbaaaGreatDoor

namespace Go.Proofs.YtdmogoaaecdbaaaGreatDoor
open Go.RowKit
set_option linter.unusedVariables false
set_option linter.unusedSimpArgs false

/-- the checker at block g: the program, the depths, what was looked at -/
structure CkAt (w : World) (g : Nat) (a : Int) (V1 : Value) (A2 : Option Addr) (n c2 : Nat) (c : Ck) (cs : Array Value) : Prop where
  blk : Blk w g 188 cs
  size : cs.size = 515
  p0 : cs[0]? = some (.int .i64 a)
  p1 : cs[1]? = some V1
  p2 : cs[2]? = some (.slice A2 n c2)
  dep : ∀ i, i < 256 → cs[3 + i]? = some (.int .i64 (c.dep i))
  lk : ∀ i, i < 256 → cs[259 + i]? = some (.bool (c.lk i))
section
variable {w w' : World} {g : Nat} {a : Int} {V1 : Value} {A2 : Option Addr} {n c2 : Nat} {c : Ck} {cs : Array Value}
theorem CkAt.below (h : CkAt w g a V1 A2 n c2 c cs) (hb : Below w.heap.size w w') : CkAt w' g a V1 A2 n c2 c cs := { h with blk := h.blk.below_all hb }
theorem CkAt.setDep (h : CkAt w g a V1 A2 n c2 c cs) {i : Nat} (hi : i < 256) (d : Int) : CkAt (w.setCell ⟨g, 3 + i, none⟩ (.int .i64 d)) g a V1 A2 n c2 ⟨setN c.dep i d, c.lk⟩ (cs.setIfInBounds (3 + i) (.int .i64 d)) := by
  refine ⟨h.blk.set_ _ _, by simpa using h.size, ?_, ?_, ?_, fun j hj => ?_, fun j hj => ?_⟩
  · rw [Array.getElem?_setIfInBounds_ne (by omega)]; exact h.p0
  · rw [Array.getElem?_setIfInBounds_ne (by omega)]; exact h.p1
  · rw [Array.getElem?_setIfInBounds_ne (by omega)]; exact h.p2
  · by_cases e : j = i
    · subst e
      rw [Array.getElem?_setIfInBounds_self_of_lt (by rw [h.size]; omega)]
      simp [setN]
    · rw [Array.getElem?_setIfInBounds_ne (by omega), h.dep j hj]
      simp [setN, e]
  · rw [Array.getElem?_setIfInBounds_ne (by omega)]; exact h.lk j hj
theorem CkAt.setLk (h : CkAt w g a V1 A2 n c2 c cs) {i : Nat} (hi : i < 256) (d : Bool) : CkAt (w.setCell ⟨g, 259 + i, none⟩ (.bool d)) g a V1 A2 n c2 ⟨c.dep, setN c.lk i d⟩ (cs.setIfInBounds (259 + i) (.bool d)) := by
  refine ⟨h.blk.set_ _ _, by simpa using h.size, ?_, ?_, ?_, fun j hj => ?_, fun j hj => ?_⟩
  · rw [Array.getElem?_setIfInBounds_ne (by omega)]; exact h.p0
  · rw [Array.getElem?_setIfInBounds_ne (by omega)]; exact h.p1
  · rw [Array.getElem?_setIfInBounds_ne (by omega)]; exact h.p2
  · rw [Array.getElem?_setIfInBounds_ne (by omega)]; exact h.dep j hj
  · by_cases e : j = i
    · subst e
      rw [Array.getElem?_setIfInBounds_self_of_lt (by rw [h.size]; omega)]
      simp [setN]
    · rw [Array.getElem?_setIfInBounds_ne (by omega), h.lk j hj]
      simp [setN, e]
theorem CkAt.cells (h : CkAt w g a V1 A2 n c2 c cs) : w.cell? ⟨g, 2, none⟩ = some (.slice A2 n c2) := (h.blk.cell 2).trans h.p2
theorem CkAt.cdep (h : CkAt w g a V1 A2 n c2 c cs) {i : Nat} (hi : i < 256) : w.cell? ⟨g, 3 + i, none⟩ = some (.int .i64 (c.dep i)) := (h.blk.cell _).trans (h.dep i hi)
theorem CkAt.clk (h : CkAt w g a V1 A2 n c2 c cs) {i : Nat} (hi : i < 256) : w.cell? ⟨g, 259 + i, none⟩ = some (.bool (c.lk i)) := (h.blk.cell _).trans (h.lk i hi)
def nextV : Option Nat → Value
  | none => .tuple #[.int .i64 0, .bool false]
  | some i => .tuple #[.int .i64 i, .bool true]
set_option maxRecDepth 100000 in
theorem next_any (h : CkAt w g a V1 A2 n c2 c cs) (hn : n ≤ 256) : Calls Tryz.prog 126 #[.pointer (some ⟨g, 0, none⟩)] w fun e w' => e = .returned (nextV (leastD c n 0)) ∧ w' = w := by
  have H := hid h
  have q2 := h.cells
  have hn9 : (n : Int) ≤ 256 := by omega
  clear h
  go_enter Tryz.func126, Tryz.ntmps126
  go_wp2_with fail
  go_loopw [11] (fun v wr => ∃ k : Nat, v = .int .i64 k ∧ k ≤ n ∧ wr = w ∧ leastD c n 0 = leastD c (n - k) k) (fun v _ => n - (intOf v).toNat)
  case atStart => exact ⟨0, rfl, Nat.zero_le _, rfl, rfl⟩
  case round =>
    obtain ⟨k, rfl, hk, rfl, he0⟩ := hrel
    have he := hid he0
    clear he0
    by_cases hlt : k < n
    · have i1 : (k : Int) < (n : Int) := by omega
      have i2 : (k : Int) < 256 := by omega
      have i0 : (0 : Int) ≤ (k : Int) := by omega
      have x1 := H.out.cdep (i := k) (by omega)
      have x2 := H.out.clk (i := k) (by omega)
      have hst := hid (leastD_step c n k hlt)
      have hht := hid (leastD_hit c n k hlt)
      have hdu : Hid (c.due k = (decide (c.dep k ≠ -1) && !c.lk k)) := hid rfl
      generalize c.dep k = d at *
      generalize c.lk k = b at *
      by_cases hd : d = -1
      · have t1 : (d == -1) = true := by simpa using hd
        have t2 : (d != -1) = false := by simpa using hd
        have hs := hid (he.out.trans (hst.out (by rw [hdu.out]; simp [hd])))
        clear hd
        go_wp2_with fail
        go_roundw
        case rel => exact ⟨k + 1, by go_num, hlt, by first | rfl | trivial, hs.out⟩
        case measure => simp [intOf]; omega
      · have t1 : (d == -1) = false := by simpa using hd
        have t2 : (d != -1) = true := by simpa using hd
        cases b with
        | true =>
          have hs := hid (he.out.trans (hst.out (by rw [hdu.out]; simp)))
          clear hd
          go_wp2_with fail
          go_roundw
          case rel => exact ⟨k + 1, by go_num, hlt, by first | rfl | trivial, hs.out⟩
          case measure => simp [intOf]; omega
        | false =>
          have hs := hid (he.out.trans (hht.out (by rw [hdu.out]; simp [hd])))
          clear hd
          go_wp2_with fail
          go_ret2
          exact ⟨by rw [hs.out]; rfl, by first | rfl | trivial⟩
    · obtain rfl : k = n := by omega
      have hs := hid (he.out.trans (leastD_end c k))
      go_wp2_with fail
      go_ret2
      exact ⟨by rw [hs.out]; rfl, by first | rfl | trivial⟩
/-- what leads leaves: nothing, and the depths; or a panic -/
def GaveUp (e : Int × Int) (en : Ending) : Prop := en = .panicked [{ v := .iface 190 (.agg #[.int .i64 e.1, .int .i64 e.2]), recovered := false }]
def LeadPost (w : World) (g : Nat) (a : Int) (V1 : Value) (A2 : Option Addr) (n c2 : Nat) (lk : Nat → Bool) (r : Res) (e : Ending) (w' : World) : Prop :=
  Upd (fun k => k = g) w w' ∧ match r with
  | .inl d => e = .returned (.tuple #[]) ∧ ∃ cs', CkAt w' g a V1 A2 n c2 ⟨d, lk⟩ cs'
  | .inr x => GaveUp x e
set_option maxRecDepth 100000 in
theorem leads_any (h : CkAt w g a V1 A2 n c2 c cs) (hn : n ≤ 256) (at_ tg : Nat) (d : Int) : Calls Tryz.prog 167 #[.pointer (some ⟨g, 0, none⟩), .int .i64 at_, .int .i64 tg, .int .i64 d] w (LeadPost w g a V1 A2 n c2 c.lk (leadTo n at_ d c.dep tg)) := by
  have H := hid h
  have q2 := h.cells
  clear h
  by_cases h1 : n ≤ tg
  · have t1 : decide ((n : Int) ≤ (tg : Int)) = true := decide_eq_true (by omega)
    have t2 : decide (n ≤ tg) = true := decide_eq_true h1
    have hr : Hid (leadTo n at_ d c.dep tg = .inr (57, at_)) := hid (by unfold leadTo; rw [if_pos h1])
    clear h1
    go_enter Tryz.func167, Tryz.ntmps167
    go_wp2_with fail
    refine ⟨rfl, ?_⟩
    rw [hr.out]
    exact ⟨Upd.refl _ _, rfl⟩
  · have t1 : decide ((n : Int) ≤ (tg : Int)) = false := decide_eq_false (by omega)
    have t2 : decide (n ≤ tg) = false := decide_eq_false h1
    have i1 : (tg : Int) < 256 := by omega
    have i0 : (0 : Int) ≤ (tg : Int) := by omega
    have x1 := H.out.cdep (i := tg) (by omega)
    have fz : ∀ q, w.frozen? ⟨g, q, none⟩ = false := fun q => H.out.blk.frozen q
    have hset := hid (H.out.setDep (i := tg) (by omega) d)
    have hsu : Hid (Upd (fun k => k = g) w (w.setCell ⟨g, 3 + tg, none⟩ (.int .i64 d))) := hid ((Upd.refl (fun k => k = g) w).setCell (p := ⟨g, 3 + tg, none⟩) (fun _ => rfl) _)
    have hle : Hid (leadTo n at_ d c.dep tg = if c.dep tg = -1 then .inl (setN c.dep tg d) else if c.dep tg = d then .inl c.dep else .inr (56, at_)) := hid (by unfold leadTo; rw [if_neg h1])
    have HN := hid h1
    clear h1
    by_cases hd : c.dep tg = -1
    · have hr : Hid (leadTo n at_ d c.dep tg = .inl (setN c.dep tg d)) := hid (by rw [hle.out, if_pos hd])
      have u1 : (c.dep tg == -1) = true := by simpa using hd
      generalize c.dep tg = e at *
      clear hd
      go_enter Tryz.func167, Tryz.ntmps167
      go_wp2_with fail
      first | go_end0 | refine bodyPost_ret (results_none rfl _ _ _) rfl ?_
      rw [hr.out]
      exact ⟨hsu.out, rfl, _, hset.out⟩
    · have u1 : (c.dep tg == -1) = false := by simpa using hd
      by_cases he : c.dep tg = d
      · have hr : Hid (leadTo n at_ d c.dep tg = .inl c.dep) := hid (by rw [hle.out, if_neg hd, if_pos he])
        have u2 : (c.dep tg == d) = true := by simpa using he
        have u3 : (c.dep tg != d) = false := by simpa using he
        generalize c.dep tg = e at *
        clear hd he
        go_enter Tryz.func167, Tryz.ntmps167
        go_wp2_with fail
        first | go_end0 | refine bodyPost_ret (results_none rfl _ _ _) rfl ?_
        rw [hr.out]
        exact ⟨Upd.refl _ _, rfl, _, H.out⟩
      · have hr : Hid (leadTo n at_ d c.dep tg = .inr (56, at_)) := hid (by rw [hle.out, if_neg hd, if_neg he])
        have u2 : (c.dep tg == d) = false := by simpa using he
        have u3 : (c.dep tg != d) = true := by simpa using he
        generalize c.dep tg = e at *
        clear hd he
        go_enter Tryz.func167, Tryz.ntmps167
        go_wp2_with fail
        refine ⟨rfl, ?_⟩
        rw [hr.out]
        exact ⟨Upd.refl _ _, rfl⟩
end

end Go.Proofs.YtdmogoaaecdbaaaGreatDoor

namespace Go.Proofs.YtdmogoaaecdbaaaGreatDoor
open Go.RowKit
set_option linter.unusedVariables false
set_option linter.unusedSimpArgs false

def LookPost (w : World) (g : Nat) (a : Int) (V1 : Value) (A2 : Option Addr) (n c2 : Nat) (lk : Nat → Bool) (r : Res) (e : Ending) (w' : World) : Prop :=
  Upd (fun k => k = g) w w' ∧ match r with
  | .inl d => e = .returned (.tuple #[]) ∧ ∃ cs', CkAt w' g a V1 A2 n c2 ⟨d, lk⟩ cs'
  | .inr x => GaveUp x e
section
variable {w w' : World} {g : Nat} {a : Int} {V1 : Value} {A2 : Option Addr} {n c2 : Nat} {c : Ck} {cs : Array Value}
theorem lead_ok {lk : Nat → Bool} {r : Res} {d : Nat → Int} {F : FuncId} {args : Array Value} (hr : r = .inl d) (h : Calls Tryz.prog F args w (LeadPost w g a V1 A2 n c2 lk r)) : Calls Tryz.prog F args w fun e w' => e = .returned (.tuple #[]) ∧ Upd (fun k => k = g) w w' ∧ ∃ cs', CkAt w' g a V1 A2 n c2 ⟨d, lk⟩ cs' :=
  h.mono fun e w' h => by subst hr; exact ⟨h.2.1, h.1, h.2.2⟩
theorem lead_bad {lk : Nat → Bool} {r : Res} {x : Int × Int} {F : FuncId} {args : Array Value} (hr : r = .inr x) (h : Calls Tryz.prog F args w (LeadPost w g a V1 A2 n c2 lk r)) : Calls Tryz.prog F args w fun e w' => e = .panicked [{ v := .iface 190 (.agg #[.int .i64 x.1, .int .i64 x.2]), recovered := false }] ∧ Upd (fun k => k = g) w w' :=
  h.mono fun e w' h => by subst hr; exact ⟨h.2, h.1⟩
set_option maxRecDepth 100000 in
set_option maxHeartbeats 2000000 in
theorem look_any {S : Nat → Prop} {code : List Is} (h : CkAt w g a V1 A2 n c2 c cs) (hn : n ≤ 256) (hl : code.length = n) (hr : Rd S w 2 A2 code.length (icells code)) (hS : ∀ k, S k → k ≠ g) (at_ : Nat) (ha : at_ < n) (hd : 0 ≤ c.dep at_ ∧ c.dep at_ ≤ 32) (hi0 : 0 ≤ (code.getD at_ is0).n) :
    Calls Tryz.prog 127 #[.pointer (some ⟨g, 0, none⟩), .int .i64 at_] w (LookPost w g a V1 A2 n c2 (setN c.lk at_ true) (lookAt code c.dep at_)) := by
  have H := hid h
  have q2 := h.cells
  have x1 := h.cdep (i := at_) (by omega)
  have x2 := h.clk (i := at_) (by omega)
  have fz : ∀ q, w.frozen? ⟨g, q, none⟩ = false := fun q => h.blk.frozen q
  obtain ⟨b, oo, hA, hbl, a0, a1⟩ := hr.ins_at (k := at_) (by omega)
  have hbg : Hid (b ≠ g) := hid (by
    obtain ⟨b', o', e', hSb, _⟩ := Rd.at_ hr (show at_ < code.length by omega)
    rw [hA] at e'
    injection e' with e'
    injection e' with e1 _
    subst e1
    exact hS _ hSb)
  have hgi : code.getD at_ is0 = code[at_]'(by omega) := by rw [List.getD_eq_getElem?_getD, List.getElem?_eq_getElem (by omega)]; rfl
  have hlk : Hid (lookAt code c.dep at_ = let i := code.getD at_ is0; let d := c.dep at_ - takes i.op + lays i.op; if c.dep at_ < takes i.op ∨ 32 < d then .inr (55, at_) else leads n at_ d (nexts at_ i) c.dep) := hid (by rw [← hl]; rfl)
  rw [hgi] at hlk hi0
  subst hA
  generalize code[at_]'(by omega) = i at *
  have hlt := h.blk.lt
  have K1 : CkAt (w.setCell ⟨g, 259 + at_, none⟩ (.bool true)) g a V1 (some ⟨b, oo, none⟩) n c2 ⟨c.dep, setN c.lk at_ true⟩ (cs.setIfInBounds (259 + at_) (.bool true)) := h.setLk (by omega) true
  have U1 : Upd (fun k => k = g) w (w.setCell ⟨g, 259 + at_, none⟩ (.bool true)) := (Upd.refl (fun k => k = g) w).setCell (p := ⟨g, 259 + at_, none⟩) (fun _ => rfl) _
  have a0' : (w.setCell ⟨g, 259 + at_, none⟩ (.bool true)).cell? ⟨b, oo + at_ * 2, none⟩ = some (.int .i64 i.op) := U1.cell a0 hbg.out
  have a1' : (w.setCell ⟨g, 259 + at_, none⟩ (.bool true)).cell? ⟨b, oo + at_ * 2 + 1, none⟩ = some (.int .i64 i.n) := U1.cell a1 hbg.out
  have q2' := K1.cells
  have k1 := hid K1
  have u1 := hid U1
  have hn9 : (n : Int) ≤ 256 := by omega
  have at9 : (at_ : Int) < 256 := by omega
  have at8 : (at_ : Int) < (n : Int) := by omega
  have at0 : (0 : Int) ≤ (at_ : Int) := by omega
  have hAT := hid ha
  have hNN := hid hn
  have htk := hid (takes_any i.op)
  have hrt := takes_range i.op
  have hrl := lays_range i.op
  clear h hr hS hl hgi hlt K1 U1
  go_enter Tryz.func127, Tryz.ntmps127
  go_upto_region 1 with fail
  generalize hW : w.setCell ⟨g, 259 + at_, none⟩ (.bool true) = w1 at *
  clear hW q2 x1 x2 fz a0 a1 H
  have ki0 := Blk.new w1 69 #[.int .i64 i.op, .int .i64 i.n]
  have hb20 : Below w1.heap.size w1 (w1.alloc (.cells #[.int .i64 i.op, .int .i64 i.n] 69)) := (Below.refl _ _).alloc (Nat.le_refl _) _
  have k2 := hid (k1.out.below hb20)
  have u2 := hid (u1.out.trans (Upd.of_below' hb20 (fun k => k = g)) fun _ _ h => h)
  have ki2 := hid ki0
  have hz1 := hid k1.out.blk.lt
  go_upto_region 2 with fail
  generalize w1.alloc (.cells #[.int .i64 i.op, .int .i64 i.n] 69) = w2 at *
  have i0 := ki0.cell 0
  have i1 := ki0.cell 1
  simp only [List.getElem?_toArray, List.getElem?_cons_zero, List.getElem?_cons_succ] at i0 i1
  clear ki0 hb20 a0' a1' q2'
  go_wp2_with fail
  refine (htk.out w2).mono ?_
  rintro e w3 ⟨rfl, hb30⟩
  have k3 := hid (k2.out.below hb30)
  have ki3 := hid (ki2.out.below_all hb30)
  have u3 := hid (u2.out.trans (Upd.of_below' hb30 (fun k => k = g)) fun _ _ h => h)
  clear hb30 i0 i1 htk
  have x1 := k3.out.cdep (i := at_) (by omega)
  have i0 := ki3.out.cell 0
  have i1 := ki3.out.cell 1
  simp only [List.getElem?_toArray, List.getElem?_cons_zero, List.getElem?_cons_succ] at i0 i1
  obtain ⟨dv, hdv⟩ : ∃ dv, dv = c.dep at_ := ⟨_, rfl⟩
  simp only [← hdv] at hlk hd x1
  have HDV := hid hdv
  have HOP : Hid (takes i.op = takes i.op ∧ lays i.op = lays i.op) := hid ⟨rfl, rfl⟩
  generalize takes i.op = tk at *
  generalize lays i.op = ly at *
  have hw1 : IntKind.i64.wrap (dv - tk) = dv - tk := IntWalk.i64_in _ (by omega)
  have hw2 : IntKind.i64.wrap (dv - tk + ly) = dv - tk + ly := IntWalk.i64_in _ (by omega)
  obtain ⟨d, hdd⟩ : ∃ d, d = dv - tk + ly := ⟨_, rfl⟩
  by_cases hlow : dv < tk
  · have t1 : decide (dv < tk) = true := decide_eq_true hlow
    have hres : Hid (lookAt code c.dep at_ = .inr (55, at_)) := hid (hlk.out.trans (if_pos (.inl hlow)))
    clear hlk hlow hdd hdv
    go_wp2_with fail
    refine ⟨rfl, ?_⟩
    rw [hres.out]
    exact ⟨u3.out, rfl⟩
  have t1 : decide (dv < tk) = false := decide_eq_false hlow
  by_cases hhi : 32 < dv - tk + ly
  · have t2 : decide (32 < dv - tk + ly) = true := decide_eq_true hhi
    have hres : Hid (lookAt code c.dep at_ = .inr (55, at_)) := hid (hlk.out.trans (if_pos (.inr hhi)))
    clear hlk hlow hhi hdd hdv
    go_wp2_with fail
    refine ⟨rfl, ?_⟩
    rw [hres.out]
    exact ⟨u3.out, rfl⟩
  have t2 : decide (32 < dv - tk + ly) = false := decide_eq_false hhi
  have hlk2 : Hid (lookAt code c.dep at_ = leads n at_ (dv - tk + ly) (nexts at_ i) c.dep) := hid (hlk.out.trans (if_neg (by omega)))
  clear hlk hlow hhi hdd hdv
  have hwa : IntKind.i64.wrap ((at_ : Int) + 1) = (at_ : Int) + 1 := IntWalk.i64_in _ (by omega)
  by_cases h30 : i.op = 30
  · have o1 : (i.op == 30) = true := by simpa using h30
    have hres : Hid (lookAt code c.dep at_ = .inl c.dep) := hid (by rw [hlk2.out]; unfold nexts; rw [if_neg (by omega), if_neg (by omega), if_pos (.inl h30)]; rfl)
    generalize i.op = op at *
    clear h30
    go_wp2_with fail
    first | go_end0 | refine bodyPost_ret (results_none rfl _ _ _) rfl ?_
    rw [hres.out]
    exact ⟨u3.out, rfl, _, k3.out⟩
  have o1 : (i.op == 30) = false := by simpa using h30
  by_cases h31 : i.op = 31
  · have o2 : (i.op == 31) = true := by simpa using h31
    have hres : Hid (lookAt code c.dep at_ = .inl c.dep) := hid (by rw [hlk2.out]; unfold nexts; rw [if_neg (by omega), if_neg (by omega), if_pos (.inr h31)]; rfl)
    generalize i.op = op at *
    clear h30 h31
    go_wp2_with fail
    first | go_end0 | refine bodyPost_ret (results_none rfl _ _ _) rfl ?_
    rw [hres.out]
    exact ⟨u3.out, rfl, _, k3.out⟩
  have o2 : (i.op == 31) = false := by simpa using h31
  obtain ⟨m, hm⟩ : ∃ m : Nat, i.n = (m : Int) := ⟨i.n.toNat, by omega⟩
  have hmt : i.n.toNat = m := by omega
  by_cases h18 : i.op = 18
  · have o3 : (i.op == 18) = true := by simpa using h18
    have hres0 : Hid (lookAt code c.dep at_ = leads n at_ (dv - tk + ly) [m] c.dep) := hid (by rw [hlk2.out]; unfold nexts; rw [if_pos h18, hmt])
    rw [hm] at i1
    have hld := leads_any k3.out hNN.out at_ m (dv - tk + ly)
    generalize i.op = op at *
    clear h30 h31 h18 hlk2
    cases hle : leadTo n at_ (dv - tk + ly) c.dep m with
    | inl d1 =>
      have hc := hid (lead_ok hle hld)
      have hres : Hid (lookAt code c.dep at_ = .inl d1) := hid (by rw [hres0.out]; unfold leads; rw [hle]; rfl)
      clear hle hld
      go_wp2_with fail
      refine hc.out.mono ?_
      rintro e w5 ⟨rfl, u5, k5⟩
      have u6 := hid (u3.out.trans u5 fun _ _ h => h)
      have k5 := hid k5
      clear u5
      go_wp2_with fail
      first | go_end0 | refine bodyPost_ret (results_none rfl _ _ _) rfl ?_
      rw [hres.out]
      exact ⟨u6.out, rfl, k5.out⟩
    | inr x =>
      have hc := hid (lead_bad hle hld)
      have hres : Hid (lookAt code c.dep at_ = .inr x) := hid (by rw [hres0.out]; unfold leads; rw [hle])
      clear hle hld
      go_wp2_with fail
      refine hc.out.mono ?_
      rintro e w5 ⟨rfl, u5⟩
      have u6 := hid (u3.out.trans u5 fun _ _ h => h)
      clear u5
      go_wp2_with fail
      refine ⟨rfl, ?_⟩
      rw [hres.out]
      exact ⟨u6.out, rfl⟩
  have o3 : (i.op == 18) = false := by simpa using h18
  have hld1 := leads_any k3.out hNN.out at_ (at_ + 1) (dv - tk + ly)
  rw [show (((at_ + 1 : Nat)) : Int) = (at_ : Int) + 1 from rfl] at hld1
  by_cases h19 : i.op = 19
  · have o4 : (i.op == 19) = true := by simpa using h19
    have hres0 : Hid (lookAt code c.dep at_ = leads n at_ (dv - tk + ly) [at_ + 1, m] c.dep) := hid (by rw [hlk2.out]; unfold nexts; rw [if_neg h18, if_pos h19, hmt])
    rw [hm] at i1
    generalize i.op = op at *
    clear h30 h31 h18 h19 hlk2
    cases hle : leadTo n at_ (dv - tk + ly) c.dep (at_ + 1) with
    | inl d1 =>
      have hc := hid (lead_ok hle hld1)
      have hres1 : Hid (lookAt code c.dep at_ = leads n at_ (dv - tk + ly) [m] d1) := hid (by rw [hres0.out]; show (match leadTo n at_ (dv - tk + ly) c.dep (at_ + 1) with | .inl dep' => leads n at_ (dv - tk + ly) [m] dep' | .inr e => .inr e) = _; rw [hle])
      clear hle hld1
      go_wp2_with fail
      refine hc.out.mono ?_
      rintro e w5 ⟨rfl, u50, cs5, k50⟩
      have u5 := hid (u3.out.trans u50 fun _ _ h => h)
      have ki5 := ki3.out.upd u50 (fun e => by have := hz1.out; omega)
      have hld2 := leads_any k50 hNN.out at_ m (dv - tk + ly)
      clear u50 k50 i0 i1 x1
      have i1 := ki5.cell 1
      simp only [List.getElem?_toArray, List.getElem?_cons_zero, List.getElem?_cons_succ, hm] at i1
      clear ki5
      cases hle2 : leadTo n at_ (dv - tk + ly) d1 m with
      | inl d2 =>
        have hc2 := hid (lead_ok hle2 hld2)
        have hres : Hid (lookAt code c.dep at_ = .inl d2) := hid (by rw [hres1.out]; unfold leads; rw [hle2]; rfl)
        clear hle2 hld2
        go_wp2_with fail
        refine hc2.out.mono ?_
        rintro e w6 ⟨rfl, u60, k60⟩
        have u6 := hid (u5.out.trans u60 fun _ _ h => h)
        have k6 := hid k60
        clear u60 k60
        go_wp2_with fail
        first | go_end0 | refine bodyPost_ret (results_none rfl _ _ _) rfl ?_
        rw [hres.out]
        exact ⟨u6.out, rfl, k6.out⟩
      | inr x =>
        have hc2 := hid (lead_bad hle2 hld2)
        have hres : Hid (lookAt code c.dep at_ = .inr x) := hid (by rw [hres1.out]; unfold leads; rw [hle2])
        clear hle2 hld2
        go_wp2_with fail
        refine hc2.out.mono ?_
        rintro e w6 ⟨rfl, u60⟩
        have u6 := hid (u5.out.trans u60 fun _ _ h => h)
        clear u60
        go_wp2_with fail
        refine ⟨rfl, ?_⟩
        rw [hres.out]
        exact ⟨u6.out, rfl⟩
    | inr x =>
      have hc := hid (lead_bad hle hld1)
      have hres : Hid (lookAt code c.dep at_ = .inr x) := hid (by rw [hres0.out]; unfold leads; rw [hle])
      clear hle hld1
      go_wp2_with fail
      refine hc.out.mono ?_
      rintro e w5 ⟨rfl, u5⟩
      have u6 := hid (u3.out.trans u5 fun _ _ h => h)
      clear u5
      go_wp2_with fail
      refine ⟨rfl, ?_⟩
      rw [hres.out]
      exact ⟨u6.out, rfl⟩
  have o4 : (i.op == 19) = false := by simpa using h19
  have hres0 : Hid (lookAt code c.dep at_ = leads n at_ (dv - tk + ly) [at_ + 1] c.dep) := hid (by rw [hlk2.out]; unfold nexts; rw [if_neg h18, if_neg h19, if_neg (by omega)])
  generalize i.op = op at *
  clear h30 h31 h18 h19 hlk2
  cases hle : leadTo n at_ (dv - tk + ly) c.dep (at_ + 1) with
  | inl d1 =>
    have hc := hid (lead_ok hle hld1)
    have hres : Hid (lookAt code c.dep at_ = .inl d1) := hid (by rw [hres0.out]; unfold leads; rw [hle]; rfl)
    clear hle hld1
    go_wp2_with fail
    refine hc.out.mono ?_
    rintro e w5 ⟨rfl, u50, k50⟩
    have u6 := hid (u3.out.trans u50 fun _ _ h => h)
    have k5 := hid k50
    clear u50 k50
    go_wp2_with fail
    first | go_end0 | refine bodyPost_ret (results_none rfl _ _ _) rfl ?_
    rw [hres.out]
    exact ⟨u6.out, rfl, k5.out⟩
  | inr x =>
    have hc := hid (lead_bad hle hld1)
    have hres : Hid (lookAt code c.dep at_ = .inr x) := hid (by rw [hres0.out]; unfold leads; rw [hle])
    clear hle hld1
    go_wp2_with fail
    refine hc.out.mono ?_
    rintro e w5 ⟨rfl, u5⟩
    have u6 := hid (u3.out.trans u5 fun _ _ h => h)
    clear u5
    go_wp2_with fail
    refine ⟨rfl, ?_⟩
    rw [hres.out]
    exact ⟨u6.out, rfl⟩
end

end Go.Proofs.YtdmogoaaecdbaaaGreatDoor

namespace Go.Proofs.YtdmogoaaecdbaaaGreatDoor
open Go.RowKit
set_option linter.unusedVariables false
set_option linter.unusedSimpArgs false

theorem Blk.set0 {w : World} {g : Nat} {t : TypeId} {u v : Value} (h : Blk w g t #[u]) : Blk (w.setCell ⟨g, 0, none⟩ v) g t #[v] := h.set_ 0 v
theorem Blk.farN {w : World} {g b o : Nat} {t : TypeId} {cs : Array Value} (h : Blk w g t cs) (hn : g ≠ b) (u : Value) : Blk (w.setCell ⟨b, o, none⟩ u) g t cs := h.far hn u
/-- the three results' variables -/
structure R3 (w : World) (z : Nat) (v1 v2 v3 : Value) : Prop where
  a : Blk w (z + 1) 51 #[v1]
  b : Blk w (z + 1 + 1) 22 #[v2]
  c : Blk w (z + 1 + 1 + 1) 3 #[v3]
section
variable {w w' : World} {z : Nat} {v1 v2 v3 : Value}
theorem R3.below (h : R3 w z v1 v2 v3) (hb : Below w.heap.size w w') : R3 w' z v1 v2 v3 := ⟨h.a.below_all hb, h.b.below_all hb, h.c.below_all hb⟩
theorem R3.upd {M : Nat → Prop} (h : R3 w z v1 v2 v3) (hu : Upd M w w') (hM : ∀ k, z + 1 ≤ k → k ≤ z + 3 → ¬ M k) : R3 w' z v1 v2 v3 := ⟨h.a.upd hu (hM _ (by omega) (by omega)), h.b.upd hu (hM _ (by omega) (by omega)), h.c.upd hu (hM _ (by omega) (by omega))⟩
theorem R3.set (h : R3 w z v1 v2 v3) (u1 u2 u3 : Value) : R3 (((w.setCell ⟨z + 1, 0, none⟩ u1).setCell ⟨z + 1 + 1, 0, none⟩ u2).setCell ⟨z + 1 + 1 + 1, 0, none⟩ u3) z u1 u2 u3 :=
  ⟨((h.a.set_ 0 u1).far (p := ⟨z + 1 + 1, 0, none⟩) (by show z + 1 ≠ z + 1 + 1; omega) u2).far (p := ⟨z + 1 + 1 + 1, 0, none⟩) (by show z + 1 ≠ z + 1 + 1 + 1; omega) u3, ((h.b.far (p := ⟨z + 1, 0, none⟩) (by simp) u1).set_ 0 u2).far (p := ⟨z + 1 + 1 + 1, 0, none⟩) (by simp) u3, ((h.c.far (p := ⟨z + 1, 0, none⟩) (by show z + 1 + 1 + 1 ≠ z + 1; omega) u1).far (p := ⟨z + 1 + 1, 0, none⟩) (by simp) u2).set_ 0 u3⟩
theorem R3.cells (h : R3 w z v1 v2 v3) : w.cell? ⟨z + 1, 0, none⟩ = some v1 ∧ w.cell? ⟨z + 1 + 1, 0, none⟩ = some v2 ∧ w.cell? ⟨z + 1 + 1 + 1, 0, none⟩ = some v3 ∧ w.frozen? ⟨z + 1, 0, none⟩ = false ∧ w.frozen? ⟨z + 1 + 1, 0, none⟩ = false ∧ w.frozen? ⟨z + 1 + 1 + 1, 0, none⟩ = false := ⟨h.a.cell 0, h.b.cell 0, h.c.cell 0, h.a.frozen 0, h.b.frozen 0, h.c.frozen 0⟩
theorem R3.results {tmps : Array Value} {A : Option Addr} {n m : Nat} {e1 e2 : Int} (h : R3 w z (.slice A n m) (.int .i64 e1) (.int .i64 e2)) (h2 : tmps.getD 2 undef = .pointer (some ⟨z + 1, 0, none⟩)) (h3 : tmps.getD 3 undef = .pointer (some ⟨z + 1 + 1, 0, none⟩)) (h4 : tmps.getD 4 undef = .pointer (some ⟨z + 1 + 1 + 1, 0, none⟩)) :
    (results Tryz.f97 tmps).run Tryz.prog w = .ok (.tuple #[.slice A n m, .int .i64 e1, .int .i64 e2]) w := by
  obtain ⟨x1, x2, x3, _⟩ := h.cells
  have g2 : tmps[2]?.getD undef = .pointer (some ⟨z + 1, 0, none⟩) := by simpa using h2
  have g3 : tmps[3]?.getD undef = .pointer (some ⟨z + 1 + 1, 0, none⟩) := by simpa using h3
  have g4 : tmps[4]?.getD undef = .pointer (some ⟨z + 1 + 1 + 1, 0, none⟩) := by simpa using h4
  simp [Go.results, Tryz.results97, asAddr, g2, g3, g4, go_sem, x1, x2, x3]
end
section
set_option maxRecDepth 100000 in
set_option maxHeartbeats 1000000 in
theorem find_form (p : Pr) (S : Nat → Prop) (A1 A2 : Option Addr) (c1 c2 : Nat) (w : World) (hp : PrIn S w A1 A2 p) (hf : p.form.1 ≠ 0) : Calls Tryz.prog 97 #[.agg #[.int .i64 p.args, .slice A1 p.cs.length c1, .slice A2 p.code.length c2]] w fun e w' => e = .returned (.tuple #[.slice none 0 0, .int .i64 p.form.1, .int .i64 p.form.2]) ∧ Below w.heap.size w w' := by
  have hmf : ∀ (fn : Fn) (first cap : Array Value) (w : World), (Instr.makeFunc fn first cap).run Tryz.prog w = .ok (.func fn first cap) w := fun _ _ _ _ => rfl
  have hfo := hid (fun w (hp : PrIn S w A1 A2 p) => form_any p S A1 A2 c1 c2 w hp)
  have HW : ∃ W, W = ((((w.alloc (.cells #[.int .i64 p.args, .slice A1 p.cs.length c1, .slice A2 p.code.length c2] 33)).alloc (.cells #[.slice none 0 0] 51)).alloc (.cells #[.int .i64 0] 22)).alloc (.cells #[.int .i64 0] 3)) := ⟨_, rfl⟩
  obtain ⟨W, hW⟩ := HW
  have hB0 : Hid (Below w.heap.size w W) := hid (by subst hW; exact ((((Below.refl _ _).alloc (Nat.le_refl _) _).alloc (by simp) _).alloc (by simp; omega) _).alloc (by simp; omega) _)
  have h3 : Hid (R3 W w.heap.size (.slice none 0 0) (.int .i64 0) (.int .i64 0)) := hid (by
    subst hW
    exact ⟨((Blk.new' _ _ _ (by simp)).alloc _).alloc _, (Blk.new' _ _ _ (by simp)).alloc _, Blk.new' _ _ _ (by simp)⟩)
  have kp : Hid (Blk W w.heap.size 33 #[.int .i64 p.args, .slice A1 p.cs.length c1, .slice A2 p.code.length c2]) := hid (by subst hW; exact (((Blk.new w _ _).alloc _).alloc _).alloc _)
  have hP := hid hp
  have t1 : (p.form.1 != 0) = true := by simpa using hf
  clear hp hf
  go_enter_defers Tryz.func97, Tryz.ntmps97
  go_upto_region 1 with fail
  rw [← hW]
  clear hW
  have p0 := kp.out.cell 0
  have p1 := kp.out.cell 1
  have p2 := kp.out.cell 2
  simp only [List.getElem?_toArray, List.getElem?_cons_zero, List.getElem?_cons_succ] at p0 p1 p2
  go_wp2_with fail
  refine (hfo.out _ (hP.out.below hB0.out)).mono ?_
  rintro e w5 ⟨rfl, hb50⟩
  have hB5 := hid (hB0.out.trans (hb50.mono hB0.out.size))
  have h35 := hid (h3.out.below hb50)
  obtain ⟨x1, x2, x3, y1, y2, y3⟩ := h35.out.cells
  clear hb50 p0 p1 p2 hfo
  generalize hF1 : p.form.1 = f1 at *
  generalize hF2 : p.form.2 = f2 at *
  have HF1 := hid hF1; have HF2 := hid hF2
  clear hF1 hF2
  go_wp2_with fail
  have R6 := h35.out.set (.slice none 0 0) (.int .i64 f1) (.int .i64 f2)
  have hB6 : Below w.heap.size w (((w5.setCell ⟨w.heap.size + 1, 0, none⟩ (.slice none 0 0)).setCell ⟨w.heap.size + 1 + 1, 0, none⟩ (.int .i64 f1)).setCell ⟨w.heap.size + 1 + 1 + 1, 0, none⟩ (.int .i64 f2)) := ((hB5.out.setCell (p := ⟨w.heap.size + 1, 0, none⟩) (by show w.heap.size ≤ w.heap.size + 1; omega) _).setCell (p := ⟨w.heap.size + 1 + 1, 0, none⟩) (by show w.heap.size ≤ w.heap.size + 1 + 1; omega) _).setCell (p := ⟨w.heap.size + 1 + 1 + 1, 0, none⟩) (by show w.heap.size ≤ w.heap.size + 1 + 1 + 1; omega) _
  generalize ((w5.setCell ⟨w.heap.size + 1, 0, none⟩ (.slice none 0 0)).setCell ⟨w.heap.size + 1 + 1, 0, none⟩ (.int .i64 f1)).setCell ⟨w.heap.size + 1 + 1 + 1, 0, none⟩ (.int .i64 f2) = w6 at *
  refine ⟨.tuple #[.slice none 0 0, .int .i64 f1, .int .i64 f2], ?_, by rw [HF1.out, HF2.out], hB6⟩
  exact R6.results rfl rfl rfl
set_option maxRecDepth 100000 in
set_option maxHeartbeats 2000000 in
theorem give_panics (z : Nat) (v1 v2 v3 : Value) (x : Int × Int) (older : List PanicEntry) (w : World) (h : R3 w z v1 v2 v3) :
    CallsD Tryz.prog 125 #[.pointer (some ⟨z + 1, 0, none⟩), .pointer (some ⟨z + 1 + 1, 0, none⟩), .pointer (some ⟨z + 1 + 1 + 1, 0, none⟩)] (.panicking ({ v := .iface 190 (.agg #[.int .i64 x.1, .int .i64 x.2]), recovered := false } :: older)) w fun e u' w' =>
      e = .returned (.tuple #[]) ∧ u' = .panicking ({ v := .iface 190 (.agg #[.int .i64 x.1, .int .i64 x.2]), recovered := true } :: older) ∧ R3 w' z (.slice none 0 0) (.int .i64 x.1) (.int .i64 x.2) ∧ Upd (fun k => k = z + 1 ∨ k = z + 2 ∨ k = z + 3) w w' := by
  obtain ⟨x1, x2, x3, y1, y2, y3⟩ := h.cells
  have H := hid h
  have hass : ∀ w, (Instr.typeAssert (.iface 190 (.agg #[.int .i64 x.1, .int .i64 x.2])) 20 190 true).run Tryz.prog w = .ok (.tuple #[.agg #[.int .i64 x.1, .int .i64 x.2], .bool true]) w := fun w => by kernel_rfl
  clear h
  refine callsD_of_wpS Tryz.func125 rfl fun c₀ cs hu => ?_
  apply wpS_seq
  apply wpS_region
  simp [wpOpsS, go_sem, recoverD, hu, Tryz.ntmps125, Exit.thenS]
  refine wpS_of_wp ?_
  refine Code.wp_mono (Q := fun e a' w' => e = .normal ∧ a'.defers = [] ∧ R3 w' z (.slice none 0 0) (.int .i64 x.1) (.int .i64 x.2) ∧ Upd (fun k => k = z + 1 ∨ k = z + 2 ∨ k = z + 3) w w') ?_ ?_
  · rintro e a' w' ⟨rfl, h1, h2, h3⟩
    simp [bodyPostS, Go.results, Tryz.results125, h1]
    exact ⟨h2, h3⟩
  clear hu
  have hne : ∀ w, (binOp .neq 20 (.iface 190 (.agg #[.int .i64 x.1, .int .i64 x.2])) .nilIface).run Tryz.prog w = .ok (.bool true) w := fun w => by kernel_rfl
  have kn := Blk.new w 190 #[.int .i64 x.1, .int .i64 x.2]
  have hb1 : Below w.heap.size w (w.alloc (.cells #[.int .i64 x.1, .int .i64 x.2] 190)) := (Below.refl _ _).alloc (Nat.le_refl _) _
  have H1 := H.out.below hb1
  clear x1 x2 x3 y1 y2 y3
  obtain ⟨x1, x2, x3, y1, y2, y3⟩ := H1.cells
  have n0 := kn.cell 0
  have n1 := kn.cell 1
  simp only [List.getElem?_toArray, List.getElem?_cons_zero, List.getElem?_cons_succ] at n0 n1
  have HB1 := hid hb1
  have HH1 := hid H1
  have hz : Hid (z + 1 + 1 + 1 < w.heap.size) := hid H.out.c.lt
  clear kn hb1 H1
  show Code.wp Tryz.prog _ _ { tmps := #[.pointer (some ⟨z + 1, 0, none⟩), .pointer (some ⟨z + 1 + 1, 0, none⟩), .pointer (some ⟨z + 1 + 1 + 1, 0, none⟩), .iface 190 (.agg #[.int .i64 x.1, .int .i64 x.2]), undef, undef, .iface 190 (.agg #[.int .i64 x.1, .int .i64 x.2]), undef, undef, undef, undef, undef, undef, undef, undef, undef, undef, undef, undef, undef, undef], defers := [] } w
  go_upto_region 5 with fail
  generalize w.alloc (.cells #[.int .i64 x.1, .int .i64 x.2] 190) = w1 at *
  have e1 : ¬ w.heap.size = z + 1 := by have := hz.out; omega
  have e2 : ¬ w.heap.size = z + 1 + 1 := by have := hz.out; omega
  have e3 : ¬ w.heap.size = z + 1 + 1 + 1 := by have := hz.out; omega
  have e4 : ¬ z + 1 = w.heap.size := fun h => e1 h.symm
  have e5 : ¬ z + 1 + 1 = w.heap.size := fun h => e2 h.symm
  have e6 : ¬ z + 1 + 1 + 1 = w.heap.size := fun h => e3 h.symm
  go_region
  all_goals
    refine ⟨rfl, rfl, ⟨?_, ?_, ?_⟩, ?_⟩
    · refine Blk.drew ?_
      exact ((Blk.set0 HH1.out.a).farN (by omega) _).farN (by omega) _
    · refine Blk.drew ?_
      exact (Blk.set0 (HH1.out.b.farN (by omega) _)).farN (by omega) _
    · refine Blk.drew ?_
      exact Blk.set0 ((HH1.out.c.farN (by omega) _).farN (by omega) _)
    · refine Upd.drew ?_
      exact (((Upd.of_below' HB1.out (fun k => k = z + 1 ∨ k = z + 2 ∨ k = z + 3)).setCell (p := ⟨z + 1, 0, none⟩) (fun _ => .inl rfl) _).setCell (p := ⟨z + 1 + 1, 0, none⟩) (fun _ => .inr (.inl rfl)) _).setCell (p := ⟨z + 1 + 1 + 1, 0, none⟩) (fun _ => .inr (.inr rfl)) _
end

end Go.Proofs.YtdmogoaaecdbaaaGreatDoor

namespace Go.Proofs.YtdmogoaaecdbaaaGreatDoor
open Go.RowKit
set_option linter.unusedVariables false
set_option linter.unusedSimpArgs false

set_option maxRecDepth 100000 in
set_option maxHeartbeats 2000000 in
theorem give_idle (z : Nat) (w : World) :
    CallsD Tryz.prog 125 #[.pointer (some ⟨z + 1, 0, none⟩), .pointer (some ⟨z + 1 + 1, 0, none⟩), .pointer (some ⟨z + 1 + 1 + 1, 0, none⟩)] .returning w fun e u' w' => e = .returned (.tuple #[]) ∧ u' = .returning ∧ w' = w := by
  refine callsD_of_wpS Tryz.func125 rfl fun c₀ cs hu => ?_
  apply wpS_seq
  apply wpS_region
  simp [wpOpsS, go_sem, recoverD, hu, Tryz.ntmps125, Exit.thenS]
  refine wpS_of_wp ?_
  refine Code.wp_mono (Q := fun e a' w' => e = .normal ∧ a'.defers = [] ∧ w' = w) ?_ ?_
  · rintro e a' w' ⟨rfl, h1, rfl⟩
    simp [bodyPostS, Go.results, Tryz.results125, h1, hu]
    cases c₀
    simp_all
  clear hu
  have hne : ∀ w, (binOp .neq 20 .nilIface .nilIface).run Tryz.prog w = .ok (.bool false) w := fun w => by kernel_rfl
  show Code.wp Tryz.prog _ _ { tmps := #[.pointer (some ⟨z + 1, 0, none⟩), .pointer (some ⟨z + 1 + 1, 0, none⟩), .pointer (some ⟨z + 1 + 1 + 1, 0, none⟩), .nilIface, undef, undef, .nilIface, undef, undef, undef, undef, undef, undef, undef, undef, undef, undef, undef, undef, undef, undef], defers := [] } w
  go_wp2_with fail
theorem zero_ck : (∀ i, i < 256 → Tryz.zeroCells188[3 + i]? = some (.int .i64 0)) ∧ (∀ i, i < 256 → Tryz.zeroCells188[259 + i]? = some (.bool false)) ∧ Tryz.zeroCells188.size = 515 := by
  have h1 : (List.range 256).map (fun i => Tryz.zeroCells188[3 + i]?) = List.replicate 256 (some (.int .i64 0)) := by kernel_rfl
  have h2 : (List.range 256).map (fun i => Tryz.zeroCells188[259 + i]?) = List.replicate 256 (some (.bool false)) := by kernel_rfl
  refine ⟨fun i hi => ?_, fun i hi => ?_, by kernel_rfl⟩
  · have := congrArg (fun l => l[i]?) h1
    simp only [List.getElem?_map, List.getElem?_range hi, Option.map_some, List.getElem?_replicate, hi, if_true] at this
    simpa using this
  · have := congrArg (fun l => l[i]?) h2
    simp only [List.getElem?_map, List.getElem?_range hi, Option.map_some, List.getElem?_replicate, hi, if_true] at this
    simpa using this
theorem CkAt.congr {w : World} {g : Nat} {a : Int} {V1 : Value} {A2 : Option Addr} {n c2 : Nat} {c c' : Ck} {cs : Array Value} (h : CkAt w g a V1 A2 n c2 c cs) (h1 : ∀ i, i < 256 → c.dep i = c'.dep i) (h2 : ∀ i, i < 256 → c.lk i = c'.lk i) : CkAt w g a V1 A2 n c2 c' cs :=
  { h with dep := fun i hi => by rw [h.dep i hi, h1 i hi], lk := fun i hi => by rw [h.lk i hi, h2 i hi] }
theorem CkAt.new (w : World) (a : Int) (V1 : Value) (A2 : Option Addr) (n c2 : Nat) : ∃ cs, cs = ((Tryz.zeroCells188.setIfInBounds 0 (.int .i64 a)).setIfInBounds 1 V1).setIfInBounds 2 (.slice A2 n c2) ∧ CkAt (w.alloc (.cells cs 188)) w.heap.size a V1 A2 n c2 ⟨fun _ => 0, fun _ => false⟩ cs := by
  obtain ⟨z1, z2, z3⟩ := zero_ck
  generalize Tryz.zeroCells188 = Z at *
  refine ⟨_, rfl, Blk.new _ _ _, by simpa using z3, ?_, ?_, ?_, fun i hi => ?_, fun i hi => ?_⟩
  · rw [Array.getElem?_setIfInBounds_ne (by omega), Array.getElem?_setIfInBounds_ne (by omega), Array.getElem?_setIfInBounds_self_of_lt (by omega)]
  · rw [Array.getElem?_setIfInBounds_ne (by omega), Array.getElem?_setIfInBounds_self_of_lt (by rw [Array.size_setIfInBounds]; omega)]
  · rw [Array.getElem?_setIfInBounds_self_of_lt (by rw [Array.size_setIfInBounds, Array.size_setIfInBounds]; omega)]
  · rw [Array.getElem?_setIfInBounds_ne (by omega), Array.getElem?_setIfInBounds_ne (by omega), Array.getElem?_setIfInBounds_ne (by omega)]; exact z1 i hi
  · rw [Array.getElem?_setIfInBounds_ne (by omega), Array.getElem?_setIfInBounds_ne (by omega), Array.getElem?_setIfInBounds_ne (by omega)]; exact z2 i hi
/-- how many places are left, as the memory says -/
def leftW (w : World) (g n : Nat) : Nat := (List.range n).countP fun i => match w.cell? ⟨g, 259 + i, none⟩ with | some (.bool b) => !b | _ => true
theorem CkAt.leftW {w : World} {g : Nat} {a : Int} {V1 : Value} {A2 : Option Addr} {n c2 m : Nat} {c : Ck} {cs : Array Value} (h : CkAt w g a V1 A2 n c2 c cs) (hm : m ≤ 256) : leftW w g m = c.left m := by
  unfold Go.Proofs.YtdmogoaaecdbaaaGreatDoor.leftW Ck.left
  refine List.countP_congr fun i hi => ?_
  have := List.mem_range.1 hi
  rw [h.clk (by omega)]
theorem CkAt.rd {w : World} {g : Nat} {a : Int} {V1 : Value} {A2 : Option Addr} {n c2 m : Nat} {c : Ck} {cs : Array Value} (h : CkAt w g a V1 A2 n c2 c cs) (hm : m ≤ 256) : Rd (fun b => b = g) w 1 (some ⟨g, 3, none⟩) m ((List.range m).map fun i => .int .i64 (c.dep i)) := by
  refine ⟨by simp, fun _ => ⟨g, 3, rfl, rfl, h.blk.lt, fun j u hj => ?_⟩⟩
  rw [List.getElem?_map] at hj
  have hjm : j < m := by
    rcases Nat.lt_or_ge j m with h1 | h1
    · exact h1
    · rw [List.getElem?_eq_none (by simpa using h1)] at hj; cases hj
  rw [List.getElem?_range hjm] at hj
  simp only [Option.map_some, Option.some.injEq] at hj
  subst hj
  exact h.cdep (by omega)
theorem look_ok {w : World} {g : Nat} {a : Int} {V1 : Value} {A2 : Option Addr} {n c2 : Nat} {lk : Nat → Bool} {r : Res} {d : Nat → Int} {F : FuncId} {args : Array Value} (hr : r = .inl d) (h : Calls Tryz.prog F args w (LookPost w g a V1 A2 n c2 lk r)) : Calls Tryz.prog F args w fun e w' => e = .returned (.tuple #[]) ∧ Upd (fun k => k = g) w w' ∧ ∃ cs', CkAt w' g a V1 A2 n c2 ⟨d, lk⟩ cs' :=
  h.mono fun e w' h => by subst hr; exact ⟨h.2.1, h.1, h.2.2⟩
theorem look_bad {w : World} {g : Nat} {a : Int} {V1 : Value} {A2 : Option Addr} {n c2 : Nat} {lk : Nat → Bool} {r : Res} {x : Int × Int} {F : FuncId} {args : Array Value} (hr : r = .inr x) (h : Calls Tryz.prog F args w (LookPost w g a V1 A2 n c2 lk r)) : Calls Tryz.prog F args w fun e w' => e = .panicked [{ v := .iface 190 (.agg #[.int .i64 x.1, .int .i64 x.2]), recovered := false }] ∧ Upd (fun k => k = g) w w' :=
  h.mono fun e w' h => by subst hr; exact ⟨h.2, h.1⟩
/-- what find leaves -/
def FindPost (p : Pr) (w : World) (e : Ending) (w' : World) : Prop := Below w.heap.size w w' ∧ match p.find with
  | .inl d => ∃ v, e = .returned (.tuple #[v, .int .i64 0, .int .i64 0]) ∧ w'.ownsRow w.heap.size 3 1 v p.code.length ((List.range p.code.length).map fun i => .int .i64 (d i))
  | .inr x => e = .returned (.tuple #[.slice none 0 0, .int .i64 x.1, .int .i64 x.2])
set_option maxRecDepth 100000 in
set_option maxHeartbeats 4000000 in
theorem find_any (p : Pr) (S : Nat → Prop) (A1 A2 : Option Addr) (c1 c2 : Nat) (w : World) (hp : PrIn S w A1 A2 p) (hf : p.form.1 = 0) : Calls Tryz.prog 97 #[.agg #[.int .i64 p.args, .slice A1 p.cs.length c1, .slice A2 p.code.length c2]] w (FindPost p w) := by
  have hmf : ∀ (fn : Fn) (first cap : Array Value) (w : World), (Instr.makeFunc fn first cap).run Tryz.prog w = .ok (.func fn first cap) w := fun _ _ _ _ => rfl
  have hfo := hid (fun w (hp : PrIn S w A1 A2 p) => form_any p S A1 A2 c1 c2 w hp)
  have HW : ∃ W, W = ((((w.alloc (.cells #[.int .i64 p.args, .slice A1 p.cs.length c1, .slice A2 p.code.length c2] 33)).alloc (.cells #[.slice none 0 0] 51)).alloc (.cells #[.int .i64 0] 22)).alloc (.cells #[.int .i64 0] 3)) := ⟨_, rfl⟩
  obtain ⟨W, hW⟩ := HW
  have hB0 : Hid (Below w.heap.size w W) := hid (by subst hW; exact ((((Below.refl _ _).alloc (Nat.le_refl _) _).alloc (by simp) _).alloc (by simp; omega) _).alloc (by simp; omega) _)
  have h3 : Hid (R3 W w.heap.size (.slice none 0 0) (.int .i64 0) (.int .i64 0)) := hid (by
    subst hW
    exact ⟨((Blk.new' _ _ _ (by simp)).alloc _).alloc _, (Blk.new' _ _ _ (by simp)).alloc _, Blk.new' _ _ _ (by simp)⟩)
  have kp : Hid (Blk W w.heap.size 33 #[.int .i64 p.args, .slice A1 p.cs.length c1, .slice A2 p.code.length c2]) := hid (by subst hW; exact (((Blk.new w _ _).alloc _).alloc _).alloc _)
  have hP := hid hp
  have hfm := hid (form_ok hf)
  obtain ⟨f1, hF1⟩ : ∃ f1, p.form = f1 := ⟨_, rfl⟩
  obtain ⟨e1, e2⟩ := f1
  rw [hF1] at hf hfo
  simp only at hf
  subst hf
  have t1 : ((0 : Int) != 0) = false := by decide
  have hn := hid hfm.out.2.2.2.2.2.1
  have hn0 := hid hfm.out.2.2.2.2.1
  clear hp
  go_enter_defers Tryz.func97, Tryz.ntmps97
  go_upto_region 1 with fail
  rw [← hW]
  clear hW
  have p0 := kp.out.cell 0
  have p1 := kp.out.cell 1
  have p2 := kp.out.cell 2
  simp only [List.getElem?_toArray, List.getElem?_cons_zero, List.getElem?_cons_succ] at p0 p1 p2
  go_wp2_with fail
  refine (hfo.out _ (hP.out.below hB0.out)).mono ?_
  rintro e w5 ⟨rfl, hb50⟩
  have hB5 := hid (hB0.out.trans (hb50.mono hB0.out.size))
  have h35 := hid (h3.out.below hb50)
  have kp5 := hid (kp.out.below_all hb50)
  clear hb50 p0 p1 p2 hfo
  have p0 := kp5.out.cell 0
  have p1 := kp5.out.cell 1
  have p2 := kp5.out.cell 2
  simp only [List.getElem?_toArray, List.getElem?_cons_zero, List.getElem?_cons_succ] at p0 p1 p2
  obtain ⟨cs0, hcs0, K0⟩ := CkAt.new w5 p.args (.slice A1 p.cs.length c1) A2 p.code.length c2
  have hb60 : Below w5.heap.size w5 (w5.alloc (.cells cs0 188)) := (Below.refl _ _).alloc (Nat.le_refl _) _
  have hB6 := hid (hB5.out.trans (hb60.mono hB5.out.size))
  have h36 := hid (h35.out.below hb60)
  have kp6 := hid (kp5.out.below_all hb60)
  have KK0 := hid K0
  have hPg : Hid (w.heap.size ≤ w5.heap.size ∧ w.heap.size + 3 < w5.heap.size) := hid ⟨hB5.out.size, h35.out.c.lt⟩
  clear K0 hb60
  go_upto_region 5 with fail
  rw [← hcs0]
  clear hcs0
  generalize hW6 : w5.alloc (.cells cs0 188) = w6 at *
  clear hW6
  obtain ⟨g, hg⟩ : ∃ g, g = w5.heap.size := ⟨_, rfl⟩
  rw [← hg] at KK0 hPg ⊢
  clear hg p0 p1 p2 h35 kp5 hB5
  go_wp2_with fail
  go_loopw [23] (fun v wr => ∃ (k : Nat) (cs : Array Value), v = .int .i64 k ∧ k ≤ 256 ∧ CkAt wr g p.args (.slice A1 p.cs.length c1) A2 p.code.length c2 ⟨fun i => if i < k then -1 else 0, fun _ => false⟩ cs ∧ Upd (fun b => b = g) w6 wr) (fun v _ => 256 - (intOf v).toNat)
  case atStart => exact ⟨0, cs0, rfl, by omega, KK0.out.congr (fun i _ => by simp) (fun _ _ => rfl), Upd.refl _ _⟩
  case round =>
    clear KK0
    obtain ⟨k, cs, rfl, hk, K, U⟩ := hrel
    by_cases hlt : k < 256
    · have i1 : (k : Int) < 256 := by omega
      have i0 : (0 : Int) ≤ (k : Int) := by omega
      have x1 := K.cdep (i := k) hlt
      have fz : ∀ q, wr.frozen? ⟨g, q, none⟩ = false := fun q => K.blk.frozen q
      have hnx : Hid (CkAt (wr.setCell ⟨g, 3 + k, none⟩ (.int .i64 (-1))) g p.args (.slice A1 p.cs.length c1) A2 p.code.length c2 ⟨fun i => if i < k + 1 then -1 else 0, fun _ => false⟩ (cs.setIfInBounds (3 + k) (.int .i64 (-1))) ∧ Upd (fun b => b = g) w6 (wr.setCell ⟨g, 3 + k, none⟩ (.int .i64 (-1)))) := hid ⟨(K.setDep hlt (-1)).congr (fun i _ => by
        unfold setN
        by_cases e : i = k
        · subst e; simp
        · simp only [e, if_false]
          by_cases h : i < k
          · rw [if_pos h, if_pos (by omega)]
          · rw [if_neg h, if_neg (by omega)]) (fun _ _ => rfl), U.setCell (p := ⟨g, 3 + k, none⟩) (fun _ => rfl) _⟩
      clear K U
      go_wp2_with fail
      go_roundw
      case rel => exact ⟨k + 1, _, by go_num, hlt, hnx.out⟩
      case measure => simp [intOf]; omega
    · obtain rfl : k = 256 := by omega
      have x1 := K.cdep (i := 0) (by omega)
      have fz : ∀ q, wr.frozen? ⟨g, q, none⟩ = false := fun q => K.blk.frozen q
      have K1 : Hid (CkAt (wr.setCell ⟨g, 3, none⟩ (.int .i64 0)) g p.args (.slice A1 p.cs.length c1) A2 p.code.length c2 ck0 (cs.setIfInBounds 3 (.int .i64 0))) := hid ((K.setDep (i := 0) (by omega) 0).congr (fun i hi => by
        unfold setN ck0
        by_cases e : i = 0
        · simp [e]
        · simp [e, hi]) (fun _ _ => rfl))
      have U1 := U.setCell (p := ⟨g, 3, none⟩) (fun _ => rfl) (.int .i64 0)
      have h37 := hid (h36.out.upd U1 (fun j h1 h2 e => by have := hPg.out; omega))
      have kp7 := hid (kp6.out.upd U1 (fun e => by have := hPg.out; omega))
      have hB7 := hid (hB6.out.trans (U1.below hB6.out.size fun j hj e => by have := hPg.out; omega))
      simp only [Nat.add_zero] at x1
      clear K U U1
      go_upto_region 11 with fail
      go_wp2_with fail
      generalize hW7 : wr.setCell ⟨g, 3, none⟩ (.int .i64 0) = w7 at *
      clear hW7 x1 fz h36 kp6 hB6
      obtain ⟨ip, hip, hp0, hp1, hp2⟩ := info_parts info_int
      go_loopw [9] (fun _ wx => ∃ (c : Ck) (cs : Array Value), CkAt wx g p.args (.slice A1 p.cs.length c1) A2 p.code.length c2 c cs ∧ CkI p.code c ∧ p.find = runC p.code c ∧ R3 wx w.heap.size (.slice none 0 0) (.int .i64 0) (.int .i64 0) ∧ Blk wx w.heap.size 33 #[.int .i64 p.args, .slice A1 p.cs.length c1, .slice A2 p.code.length c2] ∧ Below w.heap.size w wx) (fun _ wx => leftW wx g p.code.length)
      case atStart => exact ⟨ck0, _, K1.out, CkI.new _, rfl, h37.out, kp7.out, hB7.out⟩
      case round =>
        clear K1 h37 kp7 hB7
        obtain ⟨c, cs', K0, I0, hfi0, h30, kp0, hB0'⟩ := hrel
        have K := hid K0
        have I := hid I0
        have hfi := hid hfi0
        have h3r := hid h30
        have kpr := hid kp0
        have hBr := hid hB0'
        have hnx := next_any K0 hn.out
        have hcode := hid ((hP.out.i.all).below_all hB0')
        clear K0 I0 hfi0 h30 kp0 hB0'
        cases hl : leastD c p.code.length 0 with
        | none =>
          rw [hl] at hnx
          have hnx := hid hnx
          have hres : Hid (p.find = .inl c.dep) := hid (hfi.out.trans (runC_none hl))
          clear hl
          go_wp2_with fail
          refine hnx.out.mono ?_
          rintro e w8 ⟨rfl, hw8⟩
          obtain rfl := hw8.symm
          simp only [nextV]
          obtain ⟨x1, x2, x3, y1, y2, y3⟩ := h3r.out.cells
          have p0 := kpr.out.cell 0
          have p1 := kpr.out.cell 1
          have p2 := kpr.out.cell 2
          simp only [List.getElem?_toArray, List.getElem?_cons_zero, List.getElem?_cons_succ] at p0 p1 p2
          have hrd := hid (K.out.rd hn.out)
          have hn9 : (p.code.length : Int) ≤ 256 := by have := hn.out; omega
          go_wp2_with fail
          go_still_tail 8, (by kernel_rfl)
          change wpList _ _ _ _ _ wr.drew
          refine wpList_append_rd _ rfl (.tmp 44) (.tmp 51) 51 rfl wr.heap.size 3 ip _ 1 8 Tryz.underlying51 hip hp0 hp1 hp2 rfl (by omega) (.slice none 0 0) 0 [] rfl (World.ownsRow_nil _ _ _ _) (fun b => b = g) (some ⟨g, 3, none⟩) p.code.length 256 _ rfl hrd.out (by intro u hu; obtain ⟨j, _, rfl⟩ := List.mem_map.1 hu; rfl) (by simp only [maxLen]; omega) (by omega) (Nat.le_refl _) ?_
          intro v9 w9 hown9 hg9 hat9
          have u9 : Upd Nil wr w9 := (Upd.refl Nil wr).drew.grown hg9 (fun k hk _ => by simp [Value.ownBlock] at hk)
          rw [Nat.zero_add, List.nil_append] at hown9
          obtain ⟨A9, c9, rfl, _⟩ := own_form hown9
          have h39 := h3r.out.upd u9 (fun _ _ _ h => h)
          have hB9 := hBr.out.trans (u9.below (B := w.heap.size) hBr.out.size fun _ _ h => h)
          have Hown := hid hown9
          have H39 := hid h39
          have HB9 := hid hB9
          have hzz : Hid (w.heap.size + 3 < wr.heap.size) := hid h3r.out.c.lt
          clear x1 x2 x3 y1 y2 y3 p0 p1 p2 hown9 hg9 hat9 h39 hB9 u9
          obtain ⟨x1, x2, x3, y1, y2, y3⟩ := H39.out.cells
          go_wp2_with fail
          have R6 := H39.out.set (.slice A9 p.code.length c9) (.int .i64 0) (.int .i64 0)
          have uS : Upd (fun k => k = w.heap.size + 1 ∨ k = w.heap.size + 1 + 1 ∨ k = w.heap.size + 1 + 1 + 1) w9 (((w9.setCell ⟨w.heap.size + 1, 0, none⟩ (.slice A9 p.code.length c9)).setCell ⟨w.heap.size + 1 + 1, 0, none⟩ (.int .i64 0)).setCell ⟨w.heap.size + 1 + 1 + 1, 0, none⟩ (.int .i64 0)) := (((Upd.refl _ w9).setCell (p := ⟨w.heap.size + 1, 0, none⟩) (fun _ => .inl rfl) _).setCell (p := ⟨w.heap.size + 1 + 1, 0, none⟩) (fun _ => .inr (.inl rfl)) _).setCell (p := ⟨w.heap.size + 1 + 1 + 1, 0, none⟩) (fun _ => .inr (.inr rfl)) _
          have hBf := HB9.out.trans (uS.below HB9.out.size fun j hj h => by omega)
          have hownf := own_base (base' := w.heap.size) (by have := hBr.out.size; omega) (own_updB Hown.out uS fun k h1 _ h => by have := hzz.out; omega)
          generalize (((w9.setCell ⟨w.heap.size + 1, 0, none⟩ (.slice A9 p.code.length c9)).setCell ⟨w.heap.size + 1 + 1, 0, none⟩ (.int .i64 0)).setCell ⟨w.heap.size + 1 + 1 + 1, 0, none⟩ (.int .i64 0)) = wf at *
          refine leaves_cons (f := 125) (args := #[.pointer (some ⟨w.heap.size + 1, 0, none⟩), .pointer (some ⟨w.heap.size + 1 + 1, 0, none⟩), .pointer (some ⟨w.heap.size + 1 + 1 + 1, 0, none⟩)]) (by simp) (by simp [go_sem]) ?_
          refine (give_idle _ _).mono ?_
          rintro e u' w'' ⟨rfl, rfl, rfl⟩
          refine ⟨.tuple #[.slice A9 p.code.length c9, .int .i64 0, .int .i64 0], R6.results rfl rfl rfl, hBf, ?_⟩
          rw [hres.out]
          exact ⟨_, rfl, hownf⟩
        | some i =>
          rw [hl] at hnx
          have hnx := hid hnx
          obtain ⟨hi, hdu⟩ := leastD_lt hl
          have hln := hid hl
          have hdu := hid (due_lk hdu)
          have hil := hid hi
          have hrange : 0 ≤ c.dep i ∧ c.dep i ≤ 32 := by
            rcases I.out.rng i with h | h
            · exact absurd h hdu.out.1
            · exact h
          have hin0 : 0 ≤ (p.code.getD i is0).n := by
            rw [List.getD_eq_getElem?_getD, List.getElem?_eq_getElem hi]
            exact (hfm.out.2.2.2.2.2.2 _ (List.getElem_mem hi)).2.1
          have hlook := look_any K.out hn.out rfl hcode.out (fun k hk e => by have := hPg.out; omega) i hi hrange hin0
          clear hl hrange hin0 hi
          cases hk : lookAt p.code c.dep i with
          | inl d =>
            have hlo := hid (look_ok hk hlook)
            have hI2 := hid (I.out.step hdu.out.1 hk)
            have hf2 := hid (hfi.out.trans (runC_ok hln.out hk))
            clear hk hlook
            go_wp2_with fail
            refine hnx.out.mono ?_
            rintro e w8 ⟨rfl, hw8⟩
            obtain rfl := hw8.symm
            simp only [nextV]
            go_wp2_with fail
            refine hlo.out.mono ?_
            rintro e w9 ⟨rfl, u9, cs2, K2⟩
            have hfin : Hid ((CkAt w9 g p.args (.slice A1 p.cs.length c1) A2 p.code.length c2 ⟨d, setN c.lk i true⟩ cs2) ∧ CkI p.code ⟨d, setN c.lk i true⟩ ∧ p.find = runC p.code ⟨d, setN c.lk i true⟩ ∧ R3 w9 w.heap.size (.slice none 0 0) (.int .i64 0) (.int .i64 0) ∧ Blk w9 w.heap.size 33 #[.int .i64 p.args, .slice A1 p.cs.length c1, .slice A2 p.code.length c2] ∧ Below w.heap.size w w9) := hid ⟨K2, hI2.out, hf2.out, h3r.out.upd u9 (fun j h1 h2 e => by have := hPg.out; omega), kpr.out.upd u9 (fun e => by have := hPg.out; omega), hBr.out.trans (u9.below hBr.out.size fun j hj e => by have := hPg.out; omega)⟩
            have hms : Hid (leftW w9 g p.code.length < leftW wr g p.code.length) := hid (by
              rw [K2.leftW hn.out, K.out.leftW hn.out]
              have := left_set c p.code.length i d hil.out hdu.out.2
              omega)
            clear u9 K2 hlo
            go_wp2_with fail
            go_roundw
            case rel => exact ⟨_, _, hfin.out⟩
            case measure => exact hms.out
          | inr x =>
            have hlo := hid (look_bad hk hlook)
            have hres : Hid (p.find = .inr x) := hid (hfi.out.trans (runC_bad hln.out hk))
            clear hk hlook
            go_wp2_with fail
            refine hnx.out.mono ?_
            rintro e w8 ⟨rfl, hw8⟩
            obtain rfl := hw8.symm
            simp only [nextV]
            go_wp2_with fail
            refine hlo.out.mono ?_
            rintro e w9 ⟨rfl, u9⟩
            have h39 := hid (h3r.out.upd u9 (fun j h1 h2 e => by have := hPg.out; omega))
            have hB9 := hid (hBr.out.trans (u9.below hBr.out.size fun j hj e => by have := hPg.out; omega))
            clear u9 hlo
            go_wp2_with fail
            refine leaves_cons (f := 125) (args := #[.pointer (some ⟨w.heap.size + 1, 0, none⟩), .pointer (some ⟨w.heap.size + 1 + 1, 0, none⟩), .pointer (some ⟨w.heap.size + 1 + 1 + 1, 0, none⟩)]) (by simp) (by simp [go_sem]) ?_
            refine (give_panics _ _ _ _ x [] _ h39.out).mono ?_
            rintro e u' w'' ⟨rfl, rfl, R6, uS⟩
            refine ⟨.tuple #[.slice none 0 0, .int .i64 x.1, .int .i64 x.2], R6.results rfl rfl rfl, hB9.out.trans (uS.below hB9.out.size fun j hj h => by omega), ?_⟩
            rw [hres.out]

end Go.Proofs.YtdmogoaaecdbaaaGreatDoor

namespace Go.Proofs.YtdmogoaaecdbaaaGreatDoor
open Go.RowKit
set_option linter.unusedVariables false
set_option linter.unusedSimpArgs false

def FindAll (p : Pr) (w : World) (e : Ending) (w' : World) : Prop := Below w.heap.size w w' ∧ ∃ A c, e = .returned (.tuple #[.slice A p.deps.length c, .int .i64 p.check.1, .int .i64 p.check.2]) ∧ w'.ownsRow w.heap.size 3 1 (.slice A p.deps.length c) p.deps.length (p.deps.map (Value.int .i64))
theorem check_form {p : Pr} (h : p.form.1 ≠ 0) : p.check = p.form ∧ p.deps = [] := by
  have h1 : p.check = p.form := by unfold Pr.check; rw [if_pos h]
  exact ⟨h1, by unfold Pr.deps; rw [if_pos (by rw [h1]; exact h)]⟩
theorem check_ok {p : Pr} {d : Nat → Int} (h : p.form.1 = 0) (hf : p.find = .inl d) : p.check = (0, 0) ∧ p.deps = (List.range p.code.length).map d := by
  have h1 : p.check = (0, 0) := by unfold Pr.check; rw [if_neg (by rw [h]; decide), hf]
  exact ⟨h1, by unfold Pr.deps; rw [if_neg (by rw [h1]; decide), hf]⟩
theorem check_bad {p : Pr} {x : Int × Int} (h : p.form.1 = 0) (hf : p.find = .inr x) : p.check = x ∧ p.deps = [] := by
  have h1 : p.check = x := by unfold Pr.check; rw [if_neg (by rw [h]; decide), hf]
  exact ⟨h1, by unfold Pr.deps; rw [if_pos (by rw [h1]; exact find_bad hf)]⟩
theorem find_all (p : Pr) (S : Nat → Prop) (A1 A2 : Option Addr) (c1 c2 : Nat) (w : World) (hp : PrIn S w A1 A2 p) : Calls Tryz.prog 97 #[.agg #[.int .i64 p.args, .slice A1 p.cs.length c1, .slice A2 p.code.length c2]] w (FindAll p w) := by
  by_cases hf : p.form.1 = 0
  · refine (find_any p S A1 A2 c1 c2 w hp hf).mono fun e w' ⟨hb, hm⟩ => ⟨hb, ?_⟩
    cases hfi : p.find with
    | inl d =>
      rw [hfi] at hm
      obtain ⟨v, rfl, hown⟩ := hm
      obtain ⟨A, c, rfl, _⟩ := own_form hown
      obtain ⟨h1, h2⟩ := check_ok hf hfi
      have hl : p.deps.length = p.code.length := by rw [h2]; simp
      refine ⟨A, c, by rw [h1, hl], ?_⟩
      rw [hl, h2, List.map_map]
      exact hown
    | inr x =>
      rw [hfi] at hm
      obtain ⟨h1, h2⟩ := check_bad hf hfi
      refine ⟨none, 0, by rw [hm, h1, h2]; rfl, ?_⟩
      rw [h2]
      exact World.ownsRow_nil _ _ _ _
  · refine (find_form p S A1 A2 c1 c2 w hp hf).mono fun e w' ⟨he, hb⟩ => ⟨hb, ?_⟩
    obtain ⟨h1, h2⟩ := check_form hf
    refine ⟨none, 0, by rw [he, h1, h2]; rfl, ?_⟩
    rw [h2]
    exact World.ownsRow_nil _ _ _ _
set_option maxRecDepth 100000 in
theorem check_any (p : Pr) (S : Nat → Prop) (A1 A2 : Option Addr) (c1 c2 : Nat) (w : World) (hp : PrIn S w A1 A2 p) : Calls Tryz.prog 69 #[.agg #[.int .i64 p.args, .slice A1 p.cs.length c1, .slice A2 p.code.length c2]] w fun e w' => e = .returned (.tuple #[.int .i64 p.check.1, .int .i64 p.check.2]) ∧ Below w.heap.size w w' := by
  have hB0 : Below w.heap.size w (w.alloc (.cells #[.int .i64 p.args, .slice A1 p.cs.length c1, .slice A2 p.code.length c2] 33)) := (Below.refl _ _).alloc (Nat.le_refl _) _
  have kp0 := Blk.new w 33 #[.int .i64 p.args, .slice A1 p.cs.length c1, .slice A2 p.code.length c2]
  have hfi := hid (find_all p S A1 A2 c1 c2 _ (hp.below hB0))
  have hB := hid hB0
  have kp := hid kp0
  clear hB0 kp0 hp
  go_enter Tryz.func69, Tryz.ntmps69
  go_upto_region 1 with fail
  generalize w.alloc (.cells #[.int .i64 p.args, .slice A1 p.cs.length c1, .slice A2 p.code.length c2] 33) = w1 at *
  have p0 := kp.out.cell 0
  have p1 := kp.out.cell 1
  have p2 := kp.out.cell 2
  simp only [List.getElem?_toArray, List.getElem?_cons_zero, List.getElem?_cons_succ] at p0 p1 p2
  go_wp2_with fail
  refine hfi.out.mono ?_
  rintro e w2 ⟨hb0, A, c, rfl, hown0⟩
  have hb := hid (hB.out.trans (hb0.mono hB.out.size))
  have hown := hid (own_base (base' := w.heap.size) hB.out.size hown0)
  clear hb0 hown0
  go_wp2_with fail
  go_ret2
  exact ⟨rfl, hb.out⟩
end Go.Proofs.YtdmogoaaecdbaaaGreatDoor


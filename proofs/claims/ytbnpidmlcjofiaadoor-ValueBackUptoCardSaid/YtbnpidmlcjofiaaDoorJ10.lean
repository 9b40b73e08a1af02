/- Texts of the proof, joined: KCRint64, KRInt, KCInt, KCPub, KCRint, KCRstring, KCText, KCPub2, KCPub3, KCTake, VLive, VLaid. -/
import Derived.Test.YtbnpidmlcjofiaaDoorJ09
import Derived.Test.YtbnpidmlcjofiaaDoorJ06
import Derived.Test.YtbnpidmlcjofiaaDoorJ04
import Derived.Test.YtbnpidmlcjofiaaDoorJ07
import Derived.Test.YtbnpidmlcjofiaaDoorJ08
import Derived.Test.YtbnpidmlcjofiaaDoorRows
import Derived.Stop.LaidErr
import Derived.Lib.LaidTab
import Derived.LaidLaws
import Derived.ProofKit
import Derived.Deep.DeepHandedRow
namespace Go.Proofs.YtbnpidmlcjofiaaDoor
open Go.RowKit
set_option linter.unusedVariables false
set_option linter.unusedSimpArgs false

set_option maxRecDepth 100000 in
set_option maxHeartbeats 2000000 in
theorem cidle_int64 {S : Nat → Prop} {w W : World} {g : Nat} {A : Option Addr} {c : Nat} {r : Rr} {vx : Value} {fr : Nat} (h : RX S w W g A c r 2 vx fr) :
    CallsD Tryd.prog 94 #[.pointer (some ⟨w.heap.size + 1 + 1, 0, none⟩), .pointer (some ⟨w.heap.size + 1, 0, none⟩), .pointer (some ⟨w.heap.size, 0, none⟩)] .returning W fun e u' W' => e = .returned (.tuple #[]) ∧ u' = .returning ∧ W' = W := by
  refine callsD_of_wpS Tryd.func94 rfl fun c₀ cs hu => ?_
  apply wpS_seq
  apply wpS_region
  simp [wpOpsS, go_sem, recoverD, hu, Tryd.ntmps94, Exit.thenS]
  refine wpS_of_wp ?_
  refine Code.wp_mono (Q := fun e a' W' => e = .normal ∧ a'.defers = [] ∧ W' = W) ?_ ?_
  · rintro e a' w' ⟨rfl, h1, rfl⟩
    simp [bodyPostS, Go.results, Tryd.results94, h1, hu]
    cases c₀
    simp_all
  clear hu
  have hne : ∀ w, (binOp .neq 20 .nilIface .nilIface).run Tryd.prog w = .ok (.bool false) w := fun w => by kernel_rfl
  have hfm : (#[.pointer (some ⟨w.heap.size + 1 + 1, 0, none⟩), .pointer (some ⟨w.heap.size + 1, 0, none⟩), .pointer (some ⟨w.heap.size, 0, none⟩)] : Array Value) ++ ((Array.replicate 29 undef).setIfInBounds 4 .nilIface).setIfInBounds 0 .nilIface = #[.pointer (some ⟨w.heap.size + 1 + 1, 0, none⟩), .pointer (some ⟨w.heap.size + 1, 0, none⟩), .pointer (some ⟨w.heap.size, 0, none⟩), .nilIface, undef, undef, undef, .nilIface, undef, undef, undef, undef, undef, undef, undef, undef, undef, undef, undef, undef, undef, undef, undef, undef, undef, undef, undef, undef, undef, undef, undef, undef] := by kernel_rfl
  rw [hfm]
  clear hfm
  go_wp2_with fail
set_option maxRecDepth 100000 in
set_option maxHeartbeats 2000000 in
theorem cpanic_int64 {S : Nat → Prop} {w W : World} {g : Nat} {A : Option Addr} {c : Nat} {r : Rr} {vx : Value} {fr : Nat} (x : Int) (older : List PanicEntry) (hfr : fr ≤ r.b.length) (h : RX S w W g A c r 2 vx fr) :
    CallsD Tryd.prog 94 #[.pointer (some ⟨w.heap.size + 1 + 1, 0, none⟩), .pointer (some ⟨w.heap.size + 1, 0, none⟩), .pointer (some ⟨w.heap.size, 0, none⟩)] (.panicking ({ v := .iface 104 (.agg #[.int .i64 x]), recovered := false } :: older)) W fun e u' W' =>
      e = .returned (.tuple #[]) ∧ u' = .panicking ({ v := .iface 104 (.agg #[.int .i64 x]), recovered := true } :: older) ∧ RX S w W' g A c { r with at_ := fr, e := x, spot := fr } 2 (.int .i64 0) fr := by
  have hass : ∀ w, (Instr.typeAssert (.iface 104 (.agg #[.int .i64 x])) 20 104 true).run Tryd.prog w = .ok (.tuple #[.agg #[.int .i64 x], .bool true]) w := fun w => by kernel_rfl
  have hne : ∀ w, (binOp .neq 20 (.iface 104 (.agg #[.int .i64 x])) .nilIface).run Tryd.prog w = .ok (.bool true) w := fun w => by kernel_rfl
  refine callsD_of_wpS Tryd.func94 rfl fun c₀ cs hu => ?_
  apply wpS_seq
  apply wpS_region
  simp [wpOpsS, go_sem, recoverD, hu, Tryd.ntmps94, Exit.thenS]
  refine wpS_of_wp ?_
  refine Code.wp_mono (Q := fun e a' W' => e = .normal ∧ a'.defers = [] ∧ RX S w W' g A c { r with at_ := fr, e := x, spot := fr } 2 (.int .i64 0) fr) ?_ ?_
  · rintro e a' W' ⟨rfl, h1, h2⟩
    simp [bodyPostS, Go.results, Tryd.results94, h1]
    exact h2
  clear hu
  have kn := Blk.new W 104 #[.int .i64 x]
  have hb1 : Below W.heap.size W (W.alloc (.cells #[.int .i64 x] 104)) := (Below.refl _ _).alloc (Nat.le_refl _) _
  have H1 := hid (h.below hb1)
  have hz := hid h.fr.lt
  have hgz := hid h.gb
  have hF := hid hfr
  clear h hb1 hfr
  have hfm : (#[.pointer (some ⟨w.heap.size + 1 + 1, 0, none⟩), .pointer (some ⟨w.heap.size + 1, 0, none⟩), .pointer (some ⟨w.heap.size, 0, none⟩)] : Array Value) ++ ((Array.replicate 29 undef).setIfInBounds 4 (.iface 104 (.agg #[.int .i64 x]))).setIfInBounds 0 (.iface 104 (.agg #[.int .i64 x])) = #[.pointer (some ⟨w.heap.size + 1 + 1, 0, none⟩), .pointer (some ⟨w.heap.size + 1, 0, none⟩), .pointer (some ⟨w.heap.size, 0, none⟩), (.iface 104 (.agg #[.int .i64 x])), undef, undef, undef, (.iface 104 (.agg #[.int .i64 x])), undef, undef, undef, undef, undef, undef, undef, undef, undef, undef, undef, undef, undef, undef, undef, undef, undef, undef, undef, undef, undef, undef, undef, undef] := by kernel_rfl
  rw [hfm]
  clear hfm
  go_upto_region 6 with fail
  have n0 : (W.alloc (.cells #[.int .i64 x] 104)).cell? ⟨W.heap.size, 0, none⟩ = some (.int .i64 x) := kn.cell 0
  generalize W.alloc (.cells #[.int .i64 x] 104) = W1 at *
  clear kn
  obtain ⟨b0, x0, f0, fx, fg, r1, r2, r3, r4, hgl, hfl⟩ := H1.out.cells
  have e1 : ¬ W.heap.size = w.heap.size + 1 := by have := hz.out; omega
  have e2 : ¬ W.heap.size = g := by have := hz.out; have := hgz.out; omega
  have e3 : ¬ w.heap.size + 1 = W.heap.size := fun h => e1 h.symm
  have e4 : ¬ g = W.heap.size := fun h => e2 h.symm
  have e5 : ¬ w.heap.size + 1 = g := by have := hgz.out; omega
  have e6 : ¬ g = w.heap.size + 1 := fun h => e5 h.symm
  have e7 : ¬ w.heap.size = g := by have := hgz.out; omega
  have e8 : ¬ g = w.heap.size := fun h => e7 h.symm
  have e9 : ¬ w.heap.size + 1 + 1 = g := by have := hgz.out; omega
  have e10 : ¬ g = w.heap.size + 1 + 1 := fun h => e9 h.symm
  go_region
  all_goals
    refine ⟨rfl, rfl, ?_⟩
    refine RX.drew ?_
    exact ((((H1.out.setX _).setR (r' := { r with at_ := fr }) 1 (.int .i64 (fr : Nat)) rfl rfl hF.out).setR (r' := { r with at_ := fr, e := x }) 3 (.int .i64 x) rfl rfl hF.out).setR (r' := { r with at_ := fr, e := x, spot := fr }) 4 (.int .i64 (fr : Nat)) rfl rfl hF.out)
set_option maxRecDepth 100000 in
set_option maxHeartbeats 1000000 in
theorem cread_int64_err {S : Nat → Prop} {w : World} {g : Nat} {A : Option Addr} {c : Nat} {r : Rr} (h : CrIn S w g A c r) (hS : ∀ k, S k → k < w.heap.size) (he : r.e ≠ 0) : Calls Tryd.prog 78 #[.pointer (some ⟨g, 0, none⟩), .func (Fn.func 79) #[.pointer (some ⟨g, 0, none⟩)] #[]] w fun e w' => e = .returned (.int .i64 0) ∧ Upd (fun k => k = g) w w' ∧ CrIn S w' g A c r := by
  have hmf : ∀ (fn : Fn) (first cap : Array Value) (w : World), (Instr.makeFunc fn first cap).run Tryd.prog w = .ok (.func fn first cap) w := fun _ _ _ _ => rfl
  obtain ⟨W, hW⟩ : ∃ W, W = ((w.alloc (.cells #[.pointer (some ⟨g, 0, none⟩)] 36)).alloc (.cells #[.int .i64 0] 2)) := ⟨_, rfl⟩
  have hB0 : Hid (Below w.heap.size w W) := hid (by subst hW; exact ((Below.refl _ _).alloc (Nat.le_refl _) _).alloc (by simp) _)
  have kb : Hid (Blk W w.heap.size 36 #[.pointer (some ⟨g, 0, none⟩)]) := hid (by subst hW; exact (Blk.new w _ _).alloc _)
  have kx : Hid (Blk W (w.heap.size + 1) 2 #[.int .i64 0]) := hid (by subst hW; exact Blk.new' _ _ _ (by simp))
  have hsz : W.heap.size = w.heap.size + 1 + 1 := by subst hW; simp
  have hr0 := hid (h.below_all hB0.out)
  have hgb := hid h.blk.lt
  have hSb := hid hS
  have hne := hid h.ne
  have t1 : (r.e != 0) = true := by simpa using he
  clear h hS he
  go_enter_defers Tryd.func78, Tryd.ntmps78
  go_upto_region 1 with fail
  rw [← hW]
  clear hW
  have b0 : W.cell? ⟨w.heap.size, 0, none⟩ = some (.pointer (some ⟨g, 0, none⟩)) := kb.out.cell 0
  have x0 : W.cell? ⟨w.heap.size + 1, 0, none⟩ = some (.int .i64 0) := kx.out.cell 0
  have fx := fun q => kx.out.frozen q
  have r1 : W.cell? ⟨g, 1, none⟩ = some (.int .i64 (r.at_ : Nat)) := hr0.out.blk.cell 1
  have r3 : W.cell? ⟨g, 3, none⟩ = some (.int .i64 r.e) := hr0.out.blk.cell 3
  go_wp2_with fail
  have U : Upd (fun k => k = w.heap.size + 1) W (W.setCell ⟨w.heap.size + 1, 0, none⟩ (.int .i64 0)) := (Upd.refl (fun k => k = w.heap.size + 1) W).setCell (p := ⟨w.heap.size + 1, 0, none⟩) (fun _ => rfl) _
  refine ⟨.int .i64 0, ?_, rfl, (Upd.of_below' hB0.out _).trans U fun b hb e => by omega, hr0.out.upd U (by have := hgb.out; omega) fun b hb => by have := hSb.out b hb; omega⟩
  have HX : (W.setCell ⟨w.heap.size + 1, 0, none⟩ (.int .i64 0)).cell? ⟨w.heap.size + 1, 0, none⟩ = some (.int .i64 0) := (kx.out.set_ 0 (.int .i64 0)).cell 0
  simp [Go.results, Tryd.results78, asAddr, go_sem, HX]
set_option maxRecDepth 100000 in
set_option maxHeartbeats 1000000 in
theorem cread_int64_bad {S : Nat → Prop} {w : World} {g : Nat} {A : Option Addr} {c : Nat} {r : Rr} (h : CrIn S w g A c r) (hS : ∀ k, S k → k < w.heap.size) (he : r.e = 0) (res : (Value × Nat) ⊕ Int) (hT : ∀ W, Below w.heap.size w W → CrIn S W g A c r → Calls Tryd.prog 79 #[.pointer (some ⟨g, 0, none⟩)] W (CPost S W g A c r res)) (x : Int) (hres : res = .inr x) : Calls Tryd.prog 78 #[.pointer (some ⟨g, 0, none⟩), .func (Fn.func 79) #[.pointer (some ⟨g, 0, none⟩)] #[]] w fun e w' => e = .returned (.int .i64 0) ∧ Upd (fun k => k = g) w w' ∧ CrIn S w' g A c (r.fails x) := by
  have hmf : ∀ (fn : Fn) (first cap : Array Value) (w : World), (Instr.makeFunc fn first cap).run Tryd.prog w = .ok (.func fn first cap) w := fun _ _ _ _ => rfl
  obtain ⟨W, hW⟩ : ∃ W, W = ((w.alloc (.cells #[.pointer (some ⟨g, 0, none⟩)] 36)).alloc (.cells #[.int .i64 0] 2)) := ⟨_, rfl⟩
  have hB0 : Hid (Below w.heap.size w W) := hid (by subst hW; exact ((Below.refl _ _).alloc (Nat.le_refl _) _).alloc (by simp) _)
  have kb : Hid (Blk W w.heap.size 36 #[.pointer (some ⟨g, 0, none⟩)]) := hid (by subst hW; exact (Blk.new w _ _).alloc _)
  have kx : Hid (Blk W (w.heap.size + 1) 2 #[.int .i64 0]) := hid (by subst hW; exact Blk.new' _ _ _ (by simp))
  have hsz : W.heap.size = w.heap.size + 1 + 1 := by subst hW; simp
  have hr0 := hid (h.below_all hB0.out)
  have hgb := hid h.blk.lt
  have hSb := hid hS
  have hne := hid h.ne
  have t1 : (r.e != 0) = false := by simpa using he
  have hal := hid h.at_le
  obtain ⟨W4, hW4⟩ : ∃ W4, W4 = (W.alloc (.cells #[.int .i64 (r.at_ : Nat)] 3)) := ⟨_, rfl⟩
  have hB4 : Below W.heap.size W W4 := by subst hW4; exact (Below.refl _ _).alloc (Nat.le_refl _) _
  have kf : Blk W4 (w.heap.size + 1 + 1) 3 #[.int .i64 (r.at_ : Nat)] := by subst hW4; exact Blk.new' W 3 _ hsz.symm
  have hX4 : Hid (RX S w W4 g A c r 2 (.int .i64 0) r.at_) := hid ⟨hr0.out.below_all hB4, hS, hgb.out, kb.out.below_all hB4, kx.out.below_all hB4, kf, Upd.of_below' (hB0.out.trans (hB4.mono hB0.out.size)) _⟩
  have hT4 := hid (hT W4 (hB0.out.trans (hB4.mono hB0.out.size)) hX4.out.rd)
  clear h hS he hB4 kf hT
  go_enter_defers Tryd.func78, Tryd.ntmps78
  go_upto_region 1 with fail
  rw [← hW]
  clear hW
  have hre : Hid (r.e = r.e) := hid rfl
  have b0 : W.cell? ⟨w.heap.size, 0, none⟩ = some (.pointer (some ⟨g, 0, none⟩)) := kb.out.cell 0
  have x0 : W.cell? ⟨w.heap.size + 1, 0, none⟩ = some (.int .i64 0) := kx.out.cell 0
  have fx := fun q => kx.out.frozen q
  have r1 : W.cell? ⟨g, 1, none⟩ = some (.int .i64 (r.at_ : Nat)) := hr0.out.blk.cell 1
  have r3 : W.cell? ⟨g, 3, none⟩ = some (.int .i64 r.e) := hr0.out.blk.cell 3
  go_upto_region 4 with fail
  rw [← hW4]
  clear hW4 b0 x0 fx r1 r3 hr0 kb kx hB0
  go_wp2_with fail
  refine (cp_bad hres hT4.out).mono ?_
  rintro e w5 ⟨rfl, hu0, a, hr5⟩
  have hX5 := hid (hX4.out.call hu0 hr5)
  clear hu0 hr5 hX4 hT4 hres
  go_wp2_with fail
  refine leaves_cons (f := 94) (args := #[.pointer (some ⟨w.heap.size + 1 + 1, 0, none⟩), .pointer (some ⟨w.heap.size + 1, 0, none⟩), .pointer (some ⟨w.heap.size, 0, none⟩)]) (by simp) (by simp [go_sem]) ?_
  refine (cpanic_int64 (r := r.to a) x [] hal.out hX5.out).mono ?_
  rintro e u' w'' ⟨rfl, rfl, hX6⟩
  refine ⟨.int .i64 0, ?_, rfl, hX6.up, hX6.rd⟩
  have HX : w''.cell? ⟨w.heap.size + 1, 0, none⟩ = some (.int .i64 0) := hX6.x.cell 0
  simp [Go.results, Tryd.results78, asAddr, go_sem, HX]
set_option maxRecDepth 100000 in
set_option maxHeartbeats 1000000 in
theorem cread_int64_ok {S : Nat → Prop} {w : World} {g : Nat} {A : Option Addr} {c : Nat} {r : Rr} (h : CrIn S w g A c r) (hS : ∀ k, S k → k < w.heap.size) (he : r.e = 0) (res : (Value × Nat) ⊕ Int) (hT : ∀ W, Below w.heap.size w W → CrIn S W g A c r → Calls Tryd.prog 79 #[.pointer (some ⟨g, 0, none⟩)] W (CPost S W g A c r res)) (n : Int) (a : Nat) (hres : res = .inl (.int .i64 n, a)) : Calls Tryd.prog 78 #[.pointer (some ⟨g, 0, none⟩), .func (Fn.func 79) #[.pointer (some ⟨g, 0, none⟩)] #[]] w fun e w' => e = .returned (.int .i64 n) ∧ Upd (fun k => k = g) w w' ∧ CrIn S w' g A c { r with at_ := a, last := r.at_ } := by
  have hmf : ∀ (fn : Fn) (first cap : Array Value) (w : World), (Instr.makeFunc fn first cap).run Tryd.prog w = .ok (.func fn first cap) w := fun _ _ _ _ => rfl
  obtain ⟨W, hW⟩ : ∃ W, W = ((w.alloc (.cells #[.pointer (some ⟨g, 0, none⟩)] 36)).alloc (.cells #[.int .i64 0] 2)) := ⟨_, rfl⟩
  have hB0 : Hid (Below w.heap.size w W) := hid (by subst hW; exact ((Below.refl _ _).alloc (Nat.le_refl _) _).alloc (by simp) _)
  have kb : Hid (Blk W w.heap.size 36 #[.pointer (some ⟨g, 0, none⟩)]) := hid (by subst hW; exact (Blk.new w _ _).alloc _)
  have kx : Hid (Blk W (w.heap.size + 1) 2 #[.int .i64 0]) := hid (by subst hW; exact Blk.new' _ _ _ (by simp))
  have hsz : W.heap.size = w.heap.size + 1 + 1 := by subst hW; simp
  have hr0 := hid (h.below_all hB0.out)
  have hgb := hid h.blk.lt
  have hSb := hid hS
  have hne := hid h.ne
  have t1 : (r.e != 0) = false := by simpa using he
  have hal := hid h.at_le
  obtain ⟨W4, hW4⟩ : ∃ W4, W4 = (W.alloc (.cells #[.int .i64 (r.at_ : Nat)] 3)) := ⟨_, rfl⟩
  have hB4 : Below W.heap.size W W4 := by subst hW4; exact (Below.refl _ _).alloc (Nat.le_refl _) _
  have kf : Blk W4 (w.heap.size + 1 + 1) 3 #[.int .i64 (r.at_ : Nat)] := by subst hW4; exact Blk.new' W 3 _ hsz.symm
  have hX4 : Hid (RX S w W4 g A c r 2 (.int .i64 0) r.at_) := hid ⟨hr0.out.below_all hB4, hS, hgb.out, kb.out.below_all hB4, kx.out.below_all hB4, kf, Upd.of_below' (hB0.out.trans (hB4.mono hB0.out.size)) _⟩
  have hT4 := hid (hT W4 (hB0.out.trans (hB4.mono hB0.out.size)) hX4.out.rd)
  clear h hS he hB4 kf hT
  go_enter_defers Tryd.func78, Tryd.ntmps78
  go_upto_region 1 with fail
  rw [← hW]
  clear hW
  have hre : Hid (r.e = r.e) := hid rfl
  have b0 : W.cell? ⟨w.heap.size, 0, none⟩ = some (.pointer (some ⟨g, 0, none⟩)) := kb.out.cell 0
  have x0 : W.cell? ⟨w.heap.size + 1, 0, none⟩ = some (.int .i64 0) := kx.out.cell 0
  have fx := fun q => kx.out.frozen q
  have r1 : W.cell? ⟨g, 1, none⟩ = some (.int .i64 (r.at_ : Nat)) := hr0.out.blk.cell 1
  have r3 : W.cell? ⟨g, 3, none⟩ = some (.int .i64 r.e) := hr0.out.blk.cell 3
  go_upto_region 4 with fail
  rw [← hW4]
  clear hW4 b0 x0 fx r1 r3 hr0 kb kx hB0
  go_wp2_with fail
  refine (cp_ok hres hT4.out).mono ?_
  rintro e w5 ⟨rfl, hu0, hr5⟩
  have hX5 := hid (hX4.out.call hu0 hr5)
  clear hu0 hr5 hX4 hT4 hres
  obtain ⟨b0, x0, f0, fx, fg, r1, r2, r3, r4, hgl, hfl⟩ := hX5.out.cells
  go_upto_region 6 with fail
  have hX6 := hid (hX5.out.setX (.int .i64 n))
  generalize w5.setCell ⟨w.heap.size + 1, 0, none⟩ (.int .i64 n) = w6 at *
  clear b0 x0 f0 fx fg r1 r2 r3 r4 hgl hfl hX5
  obtain ⟨b0, x0, f0, fx, fg, r1, r2, r3, r4, hgl, hfl⟩ := hX6.out.cells
  go_upto_region 7 with fail
  have hX7 := hid (hX6.out.setR (r' := { r with at_ := a, last := r.at_ }) 2 (.int .i64 (r.at_ : Nat)) rfl rfl hX6.out.rd.at_le)
  generalize w6.setCell ⟨g, 2, none⟩ (.int .i64 (r.at_ : Nat)) = w7 at *
  clear b0 x0 f0 fx fg r1 r2 r3 r4 hgl hfl hX6
  obtain ⟨b0, x0, f0, fx, fg, r1, r2, r3, r4, hgl, hfl⟩ := hX7.out.cells
  go_wp2_with fail
  have hX8 := hX7.out.setX (.int .i64 n)
  refine leaves_cons (f := 94) (args := #[.pointer (some ⟨w.heap.size + 1 + 1, 0, none⟩), .pointer (some ⟨w.heap.size + 1, 0, none⟩), .pointer (some ⟨w.heap.size, 0, none⟩)]) (by simp) (by simp [go_sem]) ?_
  refine (cidle_int64 hX8).mono ?_
  rintro e u' w'' ⟨rfl, rfl, rfl⟩
  refine ⟨.int .i64 n, ?_, rfl, hX8.up, hX8.rd⟩
  have HX := hX8.x.cell 0
  have HX : (w7.setCell ⟨w.heap.size + 1, 0, none⟩ (.int .i64 n)).cell? ⟨w.heap.size + 1, 0, none⟩ = some (.int .i64 n) := hX8.x.cell 0
  simp [Go.results, Tryd.results78, asAddr, go_sem, HX]

end Go.Proofs.YtbnpidmlcjofiaaDoor

namespace Go.Proofs.YtbnpidmlcjofiaaDoor
open Go.RowKit
set_option linter.unusedVariables false
set_option linter.unusedSimpArgs false

theorem zag_even {u : Nat} (h : u % 2 = 0) : zag u = ((u / 2 : Nat) : Int) := by unfold zag; rw [if_pos h]
theorem zag_odd {u : Nat} (h : ¬ u % 2 = 0) : zag u = -((u / 2 : Nat) : Int) - 1 := by unfold zag; rw [if_neg h]
theorem Rr.int_eq (r : Rr) : r.int = (zag r.uint.1, r.uint.2) := by
  unfold Rr.int Rr.uint
  split
  · simp [zag]
  · split
    · simp [zag]
    · rfl
theorem zh1 {n : Nat} (h : n < 18446744073709551616) : wrap64 (IntKind.u64.wrap ((n : Int) / 2)) = (n : Int) / 2 := by rw [IntKind.wrap_u64]; unfold wrap64; omega
theorem zh2 {n : Nat} (h : n < 18446744073709551616) : wrap64 (wrap64 (-wrap64 (IntKind.u64.wrap ((n : Int) / 2))) - 1) = -((n : Int) / 2) - 1 := by rw [zh1 h]; unfold wrap64; omega
theorem Rr.uint_lt (r : Rr) : r.uint.1 < 18446744073709551616 := by
  unfold Rr.uint
  split
  · simp
  · split
    · simp
    · rename_i h; exact (num_lt h).1
set_option maxRecDepth 100000 in
theorem rint_any {S : Nat → Prop} {w : World} {g : Nat} {A : Option Addr} {c : Nat} {r : Rr} (h : RrIn S w g A c r) : Calls Tryd.prog 60 #[.pointer (some ⟨g, 0, none⟩)] w fun e w' => e = .returned (.int .i64 r.int.1) ∧ Upd (fun k => k = g) w w' ∧ RrIn S w' g A c (r.int.2) := by
  have hu := hid (ruint_any h)
  rw [Rr.int_eq]
  simp only
  have hl0 := r.uint_lt
  generalize r.uint.1 = n at *
  have e0 : (n : Int).tmod 2 = ((n % 2 : Nat) : Int) := by rw [Int.tmod_eq_emod_of_nonneg (by omega)]; omega
  by_cases hp : n % 2 = 0
  · rw [zag_even hp]
    have e1 : (((n % 2 : Nat) : Int) == 0) = true := by simp [hp]
    have hl := hid hl0
    clear hp h hl0
    go_enter Tryd.func60, Tryd.ntmps60
    go_wp2_with fail
    refine hu.out.mono ?_
    rintro e w2 ⟨rfl, hu0, hr0⟩
    have hu2 := hid hu0; have hr2 := hid hr0
    clear hu0 hr0
    go_wp2_with fail
    go_ret
    exact ⟨by simp [zh1 hl.out], hu2.out, hr2.out⟩
  · rw [zag_odd hp]
    have e1 : (((n % 2 : Nat) : Int) == 0) = false := by simp; omega
    have hl := hid hl0
    clear hp h hl0
    go_enter Tryd.func60, Tryd.ntmps60
    go_wp2_with fail
    refine hu.out.mono ?_
    rintro e w2 ⟨rfl, hu0, hr0⟩
    have hu2 := hid hu0; have hr2 := hid hr0
    clear hu0 hr0
    go_wp2_with fail
    go_ret
    exact ⟨by simp [zh2 hl.out], hu2.out, hr2.out⟩

end Go.Proofs.YtbnpidmlcjofiaaDoor

namespace Go.Proofs.YtbnpidmlcjofiaaDoor
open Go.RowKit
set_option linter.unusedVariables false
set_option linter.unusedSimpArgs false

theorem and_one (n : Nat) (h : n < 18446744073709551616) : bits BinOp.and IntKind.u64 (n : Int) 1 = ((n % 2 : Nat) : Int) := by
  have h1 : (BitVec.ofInt 64 (n : Int)).toNat = n := by
    rw [BitVec.ofInt_natCast, BitVec.toNat_ofNat]; exact Nat.mod_eq_of_lt (by omega)
  show IntKind.u64.wrap ((BitVec.ofInt 64 (n : Int) &&& BitVec.ofInt 64 1).toNat : Int) = _
  rw [BitVec.toNat_and, h1, show (BitVec.ofInt 64 1).toNat = 1 from rfl, Nat.and_one_is_mod, IntKind.wrap_u64]
  omega
theorem xor_zero_i (q : Nat) (h : q < 9223372036854775808) : bits BinOp.xor IntKind.i64 (q : Int) 0 = (q : Int) := by
  have h1 : (BitVec.ofInt 64 (q : Int)).toNat = q := by
    rw [BitVec.ofInt_natCast, BitVec.toNat_ofNat]; exact Nat.mod_eq_of_lt (by omega)
  show IntKind.i64.wrap ((BitVec.ofInt 64 (q : Int) ^^^ BitVec.ofInt 64 0).toNat : Int) = _
  rw [BitVec.toNat_xor, h1, show (BitVec.ofInt 64 0).toNat = 0 from rfl, Nat.xor_zero, IntKind.wrap_i64]
  omega
theorem xor_ones_i (q : Nat) (h : q < 9223372036854775808) : bits BinOp.xor IntKind.i64 (q : Int) (-1) = -(q : Int) - 1 := by
  have h1 : (BitVec.ofInt 64 (q : Int)).toNat = q := by
    rw [BitVec.ofInt_natCast, BitVec.toNat_ofNat]; exact Nat.mod_eq_of_lt (by omega)
  show IntKind.i64.wrap ((BitVec.ofInt 64 (q : Int) ^^^ BitVec.ofInt 64 (-1)).toNat : Int) = _
  rw [BitVec.toNat_xor, h1, show (BitVec.ofInt 64 (-1)).toNat = 18446744073709551615 from by decide, xor_ones q (by omega), IntKind.wrap_i64]
  omega
set_option maxRecDepth 100000 in
theorem cint_any {S : Nat → Prop} {w : World} {g : Nat} {A : Option Addr} {c : Nat} {r : Rr} (h : CrIn S w g A c r) : Calls Tryd.prog 79 #[.pointer (some ⟨g, 0, none⟩)] w (CPost S w g A c r (cintR r)) := by
  have hcu := hid (cuint_any h)
  cases hnv : num r.b r.at_ with
  | inr er =>
    have hok : cuintR r = .inr er := by unfold cuintR; rw [hnv]
    have hres : Hid (cintR r = .inr er) := hid (by unfold cintR; rw [hnv])
    clear hnv h
    go_enter Tryd.func79, Tryd.ntmps79
    go_wp2_with fail
    refine (cp_bad hok hcu.out).mono ?_
    rintro e w2 ⟨rfl, hu0, a2, hr0⟩
    have hU2 := hid hu0
    have hR2 := hid hr0
    clear hu0 hr0 hok
    go_wp2_with fail
    refine ⟨rfl, hU2.out, ?_⟩
    rw [hres.out]
    exact ⟨rfl, _, hR2.out⟩
  | inl nk =>
    obtain ⟨n, k⟩ := nk
    obtain ⟨hn1, hn2, hn3⟩ := num_lt hnv
    obtain ⟨q, hq⟩ : ∃ q, q = n / 2 := ⟨_, rfl⟩
    have f2 : (n : Int) / 2 = (q : Int) := by omega
    have f3 : IntKind.i64.wrap (q : Int) = (q : Int) := by rw [IntKind.wrap_i64]; omega
    have f4 : wrap64 (q : Int) = (q : Int) := by unfold wrap64; omega
    have hok : cuintR r = .inl (.int .u64 (n : Nat), r.at_ + k) := by unfold cuintR; rw [hnv]
    by_cases hp : n % 2 = 0
    · have fa : bits BinOp.and IntKind.u64 (n : Int) 1 = 0 := by rw [and_one n hn1, hp]; rfl
      have fx : bits BinOp.xor IntKind.i64 (q : Int) 0 = (q : Int) := xor_zero_i q (by omega)
      have hz : zag n = (q : Int) := by rw [zag_even hp, hq]
      have hres : Hid (cintR r = .inl (.int .i64 ((q : Int)), r.at_ + k)) := hid (by unfold cintR; rw [hnv]; simp only; rw [hz])
      clear hnv h hz hq hp hn1 hn2 hn3
      go_enter Tryd.func79, Tryd.ntmps79
      go_wp2_with fail
      refine (cp_ok hok hcu.out).mono ?_
      rintro e w2 ⟨rfl, hu0, hr0⟩
      have hU2 := hid hu0
      have hR2 : Hid (CrIn S w2 g A c (r.to (r.at_ + k))) := hid hr0
      clear hu0 hr0 hok
      go_wp2_with fail
      go_ret
      refine ⟨hU2.out, ?_⟩
      rw [hres.out]
      exact ⟨rfl, hR2.out⟩
    · have fa : bits BinOp.and IntKind.u64 (n : Int) 1 = 1 := by rw [and_one n hn1, show n % 2 = 1 by omega]; rfl
      have fn : IntKind.i64.wrap (-1) = -1 := by decide
      have fx : bits BinOp.xor IntKind.i64 (q : Int) (-1) = -(q : Int) - 1 := xor_ones_i q (by omega)
      have hz : zag n = -(q : Int) - 1 := by rw [zag_odd hp, hq]
      have hres : Hid (cintR r = .inl (.int .i64 (-(q : Int) - 1), r.at_ + k)) := hid (by unfold cintR; rw [hnv]; simp only; rw [hz])
      clear hnv h hz hq hp hn1 hn2 hn3
      go_enter Tryd.func79, Tryd.ntmps79
      go_wp2_with fail
      refine (cp_ok hok hcu.out).mono ?_
      rintro e w2 ⟨rfl, hu0, hr0⟩
      have hU2 := hid hu0
      have hR2 : Hid (CrIn S w2 g A c (r.to (r.at_ + k))) := hid hr0
      clear hu0 hr0 hok
      go_wp2_with fail
      go_ret
      refine ⟨hU2.out, ?_⟩
      rw [hres.out]
      exact ⟨rfl, hR2.out⟩
set_option maxRecDepth 100000 in
theorem climit_any {S : Nat → Prop} {w : World} {g : Nat} {A : Option Addr} {c : Nat} {r : Rr} (h : CrIn S w g A c r) (most er : Int) (hmm : 0 ≤ most ∧ most ≤ 100000) : Calls Tryd.prog 82 #[.pointer (some ⟨g, 0, none⟩), .int .i64 most, .int .i64 er] w (CPost S w g A c r (climR r most er)) := by
  have hcu := hid (cuint_any h)
  have hm := hid hmm
  have fm : IntKind.u64.wrap most = most := by rw [IntKind.wrap_u64]; omega
  have m0 : ¬ most < 0 := by omega
  clear hmm
  cases hnv : num r.b r.at_ with
  | inr e1 =>
    have hok : cuintR r = .inr e1 := by unfold cuintR; rw [hnv]
    have hres : Hid (climR r most er = .inr e1) := hid (by unfold climR; rw [hnv])
    clear hnv h
    go_enter Tryd.func82, Tryd.ntmps82
    go_wp2_with fail
    refine (cp_bad hok hcu.out).mono ?_
    rintro e w2 ⟨rfl, hu0, a2, hr0⟩
    have hU2 := hid hu0
    have hR2 := hid hr0
    clear hu0 hr0 hok
    go_wp2_with fail
    refine ⟨rfl, hU2.out, ?_⟩
    rw [hres.out]
    exact ⟨rfl, _, hR2.out⟩
  | inl nk =>
    obtain ⟨n, k⟩ := nk
    obtain ⟨hn1, hn2, hn3⟩ := num_lt hnv
    have hok : cuintR r = .inl (.int .u64 (n : Nat), r.at_ + k) := by unfold cuintR; rw [hnv]
    by_cases hmn : most < (n : Int)
    · have hres : Hid (climR r most er = .inr er) := hid (by unfold climR; rw [hnv]; simp only; rw [if_pos hmn])
      clear hnv h hn1 hn2 hn3
      go_enter Tryd.func82, Tryd.ntmps82
      go_wp2_with fail
      refine (cp_ok hok hcu.out).mono ?_
      rintro e w2 ⟨rfl, hu0, hr0⟩
      have hU2 := hid hu0
      have hR2 : Hid (CrIn S w2 g A c (r.to (r.at_ + k))) := hid hr0
      clear hu0 hr0 hok
      go_wp2_with fail
      refine ⟨rfl, hU2.out, ?_⟩
      rw [hres.out]
      exact ⟨rfl, _, hR2.out⟩
    · have hres : Hid (climR r most er = .inl (.int .i64 (n : Nat), r.at_ + k)) := hid (by unfold climR; rw [hnv]; simp only; rw [if_neg hmn])
      have fn : IntKind.i64.wrap (n : Int) = (n : Int) := by have := hm.out; rw [IntKind.wrap_i64]; omega
      clear hnv h hn1 hn2 hn3
      go_enter Tryd.func82, Tryd.ntmps82
      go_wp2_with fail
      refine (cp_ok hok hcu.out).mono ?_
      rintro e w2 ⟨rfl, hu0, hr0⟩
      have hU2 := hid hu0
      have hR2 : Hid (CrIn S w2 g A c (r.to (r.at_ + k))) := hid hr0
      clear hu0 hr0 hok
      go_wp2_with fail
      go_ret
      refine ⟨hU2.out, ?_⟩
      rw [hres.out]
      exact ⟨rfl, hR2.out⟩
end Go.Proofs.YtbnpidmlcjofiaaDoor

namespace Go.Proofs.YtbnpidmlcjofiaaDoor
open Go.RowKit
set_option linter.unusedVariables false
set_option linter.unusedSimpArgs false

set_option maxRecDepth 100000 in
theorem cByte_any {S : Nat → Prop} {w : World} {g : Nat} {A : Option Addr} {c : Nat} {r : Rr} (h : CrIn S w g A c r) : Calls Tryd.prog 54 #[.pointer (some ⟨g, 0, none⟩)] w fun e w' => e = .returned (.int .u8 (r.byte.1 : Nat)) ∧ Upd (fun k => k = g) w w' ∧ CrIn S w' g A c r.byte.2 := by
  have hmf : ∀ (fn : Fn) (first cap : Array Value) (w : World), (Instr.makeFunc fn first cap).run Tryd.prog w = .ok (.func fn first cap) w := fun _ _ _ _ => rfl
  have hne := hid h.ne
  have hb := h.bound
  have hT : ∀ W, Below w.heap.size w W → CrIn (fun k => S k ∧ k < w.heap.size) W g A c r → Calls Tryd.prog 77 #[.pointer (some ⟨g, 0, none⟩)] W (CPost (fun k => S k ∧ k < w.heap.size) W g A c r (cbyteR r)) := fun W _ hr => cbyte_any hr
  by_cases he : r.e = 0
  · cases hnv : r.b[r.at_]? with
    | none =>
      have hc := hid (cread_byte_bad hb (fun k hk => hk.2) he _ hT 3 (by unfold cbyteR; rw [hnv]))
      have hp : Hid (r.byte = (0, r.fails 3)) := hid (by unfold Rr.byte; rw [if_neg (by simp [he]), hnv])
      clear h hb hT he hnv
      go_enter Tryd.func54, Tryd.ntmps54
      go_wp2_with fail
      refine hc.out.mono ?_
      rintro e w2 ⟨rfl, hu0, hr0⟩
      have hu2 := hid hu0
      have hr2 := hid (hr0.unbound hne.out)
      clear hu0 hr0 hc
      go_wp2_with fail
      go_ret
      rw [hp.out]
      exact ⟨rfl, hu2.out, hr2.out⟩
    | some v =>
      have hc := hid (cread_byte_ok hb (fun k hk => hk.2) he _ hT (v : Nat) (r.at_ + 1) (by unfold cbyteR; rw [hnv]))
      have hp : Hid (r.byte = (v, r.took 1)) := hid (by unfold Rr.byte; rw [if_neg (by simp [he]), hnv])
      clear h hb hT he hnv
      go_enter Tryd.func54, Tryd.ntmps54
      go_wp2_with fail
      refine hc.out.mono ?_
      rintro e w2 ⟨rfl, hu0, hr0⟩
      have hu2 := hid hu0
      have hr2 := hid (hr0.unbound hne.out)
      clear hu0 hr0 hc
      go_wp2_with fail
      go_ret
      rw [hp.out]
      exact ⟨rfl, hu2.out, hr2.out⟩
  · have hc := hid (cread_byte_err hb (fun k hk => hk.2) he)
    have hp : Hid (r.byte = (0, r)) := hid (by unfold Rr.byte; rw [if_pos he])
    clear h hb hT he
    go_enter Tryd.func54, Tryd.ntmps54
    go_wp2_with fail
    refine hc.out.mono ?_
    rintro e w2 ⟨rfl, hu0, hr0⟩
    have hu2 := hid hu0
    have hr2 := hid (hr0.unbound hne.out)
    clear hu0 hr0 hc
    go_wp2_with fail
    go_ret
    rw [hp.out]
    exact ⟨rfl, hu2.out, hr2.out⟩
set_option maxRecDepth 100000 in
theorem cInt_any {S : Nat → Prop} {w : World} {g : Nat} {A : Option Addr} {c : Nat} {r : Rr} (h : CrIn S w g A c r) : Calls Tryd.prog 55 #[.pointer (some ⟨g, 0, none⟩)] w fun e w' => e = .returned (.int .i64 r.int.1) ∧ Upd (fun k => k = g) w w' ∧ CrIn S w' g A c r.int.2 := by
  have hmf : ∀ (fn : Fn) (first cap : Array Value) (w : World), (Instr.makeFunc fn first cap).run Tryd.prog w = .ok (.func fn first cap) w := fun _ _ _ _ => rfl
  have hne := hid h.ne
  have hb := h.bound
  have hT : ∀ W, Below w.heap.size w W → CrIn (fun k => S k ∧ k < w.heap.size) W g A c r → Calls Tryd.prog 79 #[.pointer (some ⟨g, 0, none⟩)] W (CPost (fun k => S k ∧ k < w.heap.size) W g A c r (cintR r)) := fun W _ hr => cint_any hr
  by_cases he : r.e = 0
  · cases hnv : num r.b r.at_ with
    | inr er =>
      have hc := hid (cread_int64_bad hb (fun k hk => hk.2) he _ hT er (by unfold cintR; rw [hnv]))
      have hp : Hid (r.int = (0, r.fails er)) := hid (by unfold Rr.int; rw [if_neg (by simp [he]), hnv])
      clear h hb hT he hnv
      go_enter Tryd.func55, Tryd.ntmps55
      go_wp2_with fail
      refine hc.out.mono ?_
      rintro e w2 ⟨rfl, hu0, hr0⟩
      have hu2 := hid hu0
      have hr2 := hid (hr0.unbound hne.out)
      clear hu0 hr0 hc
      go_wp2_with fail
      go_ret
      rw [hp.out]
      exact ⟨rfl, hu2.out, hr2.out⟩
    | inl nk =>
      obtain ⟨n, k⟩ := nk
      have hc := hid (cread_int64_ok hb (fun k hk => hk.2) he _ hT (zag n) (r.at_ + k) (by unfold cintR; rw [hnv]))
      have hp : Hid (r.int = (zag n, r.took k)) := hid (by unfold Rr.int; rw [if_neg (by simp [he]), hnv])
      clear h hb hT he hnv
      go_enter Tryd.func55, Tryd.ntmps55
      go_wp2_with fail
      refine hc.out.mono ?_
      rintro e w2 ⟨rfl, hu0, hr0⟩
      have hu2 := hid hu0
      have hr2 := hid (hr0.unbound hne.out)
      clear hu0 hr0 hc
      go_wp2_with fail
      go_ret
      rw [hp.out]
      exact ⟨rfl, hu2.out, hr2.out⟩
  · have hc := hid (cread_int64_err hb (fun k hk => hk.2) he)
    have hp : Hid (r.int = (0, r)) := hid (by unfold Rr.int; rw [if_pos he])
    clear h hb hT he
    go_enter Tryd.func55, Tryd.ntmps55
    go_wp2_with fail
    refine hc.out.mono ?_
    rintro e w2 ⟨rfl, hu0, hr0⟩
    have hu2 := hid hu0
    have hr2 := hid (hr0.unbound hne.out)
    clear hu0 hr0 hc
    go_wp2_with fail
    go_ret
    rw [hp.out]
    exact ⟨rfl, hu2.out, hr2.out⟩

end Go.Proofs.YtbnpidmlcjofiaaDoor

namespace Go.Proofs.YtbnpidmlcjofiaaDoor
open Go.RowKit
set_option linter.unusedVariables false
set_option linter.unusedSimpArgs false

end Go.Proofs.YtbnpidmlcjofiaaDoor

namespace Go.Proofs.YtbnpidmlcjofiaaDoor
open Go.RowKit
set_option linter.unusedVariables false
set_option linter.unusedSimpArgs false

set_option maxRecDepth 100000 in
set_option maxHeartbeats 2000000 in
theorem cidle_string {S : Nat → Prop} {w W : World} {g : Nat} {A : Option Addr} {c : Nat} {r : Rr} {vx : Value} {fr : Nat} (h : RX S w W g A c r 9 vx fr) :
    CallsD Tryd.prog 96 #[.pointer (some ⟨w.heap.size + 1 + 1, 0, none⟩), .pointer (some ⟨w.heap.size + 1, 0, none⟩), .pointer (some ⟨w.heap.size, 0, none⟩)] .returning W fun e u' W' => e = .returned (.tuple #[]) ∧ u' = .returning ∧ W' = W := by
  refine callsD_of_wpS Tryd.func96 rfl fun c₀ cs hu => ?_
  apply wpS_seq
  apply wpS_region
  simp [wpOpsS, go_sem, recoverD, hu, Tryd.ntmps96, Exit.thenS]
  refine wpS_of_wp ?_
  refine Code.wp_mono (Q := fun e a' W' => e = .normal ∧ a'.defers = [] ∧ W' = W) ?_ ?_
  · rintro e a' w' ⟨rfl, h1, rfl⟩
    simp [bodyPostS, Go.results, Tryd.results96, h1, hu]
    cases c₀
    simp_all
  clear hu
  have hne : ∀ w, (binOp .neq 20 .nilIface .nilIface).run Tryd.prog w = .ok (.bool false) w := fun w => by kernel_rfl
  have hfm : (#[.pointer (some ⟨w.heap.size + 1 + 1, 0, none⟩), .pointer (some ⟨w.heap.size + 1, 0, none⟩), .pointer (some ⟨w.heap.size, 0, none⟩)] : Array Value) ++ ((Array.replicate 29 undef).setIfInBounds 4 .nilIface).setIfInBounds 0 .nilIface = #[.pointer (some ⟨w.heap.size + 1 + 1, 0, none⟩), .pointer (some ⟨w.heap.size + 1, 0, none⟩), .pointer (some ⟨w.heap.size, 0, none⟩), .nilIface, undef, undef, undef, .nilIface, undef, undef, undef, undef, undef, undef, undef, undef, undef, undef, undef, undef, undef, undef, undef, undef, undef, undef, undef, undef, undef, undef, undef, undef] := by kernel_rfl
  rw [hfm]
  clear hfm
  go_wp2_with fail
set_option maxRecDepth 100000 in
set_option maxHeartbeats 2000000 in
theorem cpanic_string {S : Nat → Prop} {w W : World} {g : Nat} {A : Option Addr} {c : Nat} {r : Rr} {vx : Value} {fr : Nat} (x : Int) (older : List PanicEntry) (hfr : fr ≤ r.b.length) (h : RX S w W g A c r 9 vx fr) :
    CallsD Tryd.prog 96 #[.pointer (some ⟨w.heap.size + 1 + 1, 0, none⟩), .pointer (some ⟨w.heap.size + 1, 0, none⟩), .pointer (some ⟨w.heap.size, 0, none⟩)] (.panicking ({ v := .iface 104 (.agg #[.int .i64 x]), recovered := false } :: older)) W fun e u' W' =>
      e = .returned (.tuple #[]) ∧ u' = .panicking ({ v := .iface 104 (.agg #[.int .i64 x]), recovered := true } :: older) ∧ RX S w W' g A c { r with at_ := fr, e := x, spot := fr } 9 (.string ⟨#[]⟩) fr := by
  have hass : ∀ w, (Instr.typeAssert (.iface 104 (.agg #[.int .i64 x])) 20 104 true).run Tryd.prog w = .ok (.tuple #[.agg #[.int .i64 x], .bool true]) w := fun w => by kernel_rfl
  have hne : ∀ w, (binOp .neq 20 (.iface 104 (.agg #[.int .i64 x])) .nilIface).run Tryd.prog w = .ok (.bool true) w := fun w => by kernel_rfl
  refine callsD_of_wpS Tryd.func96 rfl fun c₀ cs hu => ?_
  apply wpS_seq
  apply wpS_region
  simp [wpOpsS, go_sem, recoverD, hu, Tryd.ntmps96, Exit.thenS]
  refine wpS_of_wp ?_
  refine Code.wp_mono (Q := fun e a' W' => e = .normal ∧ a'.defers = [] ∧ RX S w W' g A c { r with at_ := fr, e := x, spot := fr } 9 (.string ⟨#[]⟩) fr) ?_ ?_
  · rintro e a' W' ⟨rfl, h1, h2⟩
    simp [bodyPostS, Go.results, Tryd.results96, h1]
    exact h2
  clear hu
  have kn := Blk.new W 104 #[.int .i64 x]
  have hb1 : Below W.heap.size W (W.alloc (.cells #[.int .i64 x] 104)) := (Below.refl _ _).alloc (Nat.le_refl _) _
  have H1 := hid (h.below hb1)
  have hz := hid h.fr.lt
  have hgz := hid h.gb
  have hF := hid hfr
  clear h hb1 hfr
  have hfm : (#[.pointer (some ⟨w.heap.size + 1 + 1, 0, none⟩), .pointer (some ⟨w.heap.size + 1, 0, none⟩), .pointer (some ⟨w.heap.size, 0, none⟩)] : Array Value) ++ ((Array.replicate 29 undef).setIfInBounds 4 (.iface 104 (.agg #[.int .i64 x]))).setIfInBounds 0 (.iface 104 (.agg #[.int .i64 x])) = #[.pointer (some ⟨w.heap.size + 1 + 1, 0, none⟩), .pointer (some ⟨w.heap.size + 1, 0, none⟩), .pointer (some ⟨w.heap.size, 0, none⟩), (.iface 104 (.agg #[.int .i64 x])), undef, undef, undef, (.iface 104 (.agg #[.int .i64 x])), undef, undef, undef, undef, undef, undef, undef, undef, undef, undef, undef, undef, undef, undef, undef, undef, undef, undef, undef, undef, undef, undef, undef, undef] := by kernel_rfl
  rw [hfm]
  clear hfm
  go_upto_region 6 with fail
  have n0 : (W.alloc (.cells #[.int .i64 x] 104)).cell? ⟨W.heap.size, 0, none⟩ = some (.int .i64 x) := kn.cell 0
  generalize W.alloc (.cells #[.int .i64 x] 104) = W1 at *
  clear kn
  obtain ⟨b0, x0, f0, fx, fg, r1, r2, r3, r4, hgl, hfl⟩ := H1.out.cells
  have e1 : ¬ W.heap.size = w.heap.size + 1 := by have := hz.out; omega
  have e2 : ¬ W.heap.size = g := by have := hz.out; have := hgz.out; omega
  have e3 : ¬ w.heap.size + 1 = W.heap.size := fun h => e1 h.symm
  have e4 : ¬ g = W.heap.size := fun h => e2 h.symm
  have e5 : ¬ w.heap.size + 1 = g := by have := hgz.out; omega
  have e6 : ¬ g = w.heap.size + 1 := fun h => e5 h.symm
  have e7 : ¬ w.heap.size = g := by have := hgz.out; omega
  have e8 : ¬ g = w.heap.size := fun h => e7 h.symm
  have e9 : ¬ w.heap.size + 1 + 1 = g := by have := hgz.out; omega
  have e10 : ¬ g = w.heap.size + 1 + 1 := fun h => e9 h.symm
  go_region
  all_goals
    refine ⟨rfl, rfl, ?_⟩
    refine RX.drew ?_
    exact ((((H1.out.setX _).setR (r' := { r with at_ := fr }) 1 (.int .i64 (fr : Nat)) rfl rfl hF.out).setR (r' := { r with at_ := fr, e := x }) 3 (.int .i64 x) rfl rfl hF.out).setR (r' := { r with at_ := fr, e := x, spot := fr }) 4 (.int .i64 (fr : Nat)) rfl rfl hF.out)
set_option maxRecDepth 100000 in
set_option maxHeartbeats 1000000 in
theorem cread_string_err {S : Nat → Prop} {w : World} {g : Nat} {A : Option Addr} {c : Nat} {r : Rr} {p q : Nat} (h : CrIn S w g A c r) (hS : ∀ k, S k → k < w.heap.size) (he : r.e ≠ 0) : Calls Tryd.prog 80 #[.pointer (some ⟨g, 0, none⟩), .func (Fn.func 81) #[] #[.pointer (some ⟨p, 0, none⟩), .pointer (some ⟨q, 0, none⟩)]] w fun e w' => e = .returned (.string ⟨#[]⟩) ∧ Upd (fun k => k = g) w w' ∧ CrIn S w' g A c r := by
  have hmf : ∀ (fn : Fn) (first cap : Array Value) (w : World), (Instr.makeFunc fn first cap).run Tryd.prog w = .ok (.func fn first cap) w := fun _ _ _ _ => rfl
  obtain ⟨W, hW⟩ : ∃ W, W = ((w.alloc (.cells #[.pointer (some ⟨g, 0, none⟩)] 36)).alloc (.cells #[.string ⟨#[]⟩] 9)) := ⟨_, rfl⟩
  have hB0 : Hid (Below w.heap.size w W) := hid (by subst hW; exact ((Below.refl _ _).alloc (Nat.le_refl _) _).alloc (by simp) _)
  have kb : Hid (Blk W w.heap.size 36 #[.pointer (some ⟨g, 0, none⟩)]) := hid (by subst hW; exact (Blk.new w _ _).alloc _)
  have kx : Hid (Blk W (w.heap.size + 1) 9 #[.string ⟨#[]⟩]) := hid (by subst hW; exact Blk.new' _ _ _ (by simp))
  have hsz : W.heap.size = w.heap.size + 1 + 1 := by subst hW; simp
  have hr0 := hid (h.below_all hB0.out)
  have hgb := hid h.blk.lt
  have hSb := hid hS
  have hne := hid h.ne
  have t1 : (r.e != 0) = true := by simpa using he
  clear h hS he
  go_enter_defers Tryd.func80, Tryd.ntmps80
  go_upto_region 1 with fail
  rw [← hW]
  clear hW
  have b0 : W.cell? ⟨w.heap.size, 0, none⟩ = some (.pointer (some ⟨g, 0, none⟩)) := kb.out.cell 0
  have x0 : W.cell? ⟨w.heap.size + 1, 0, none⟩ = some (.string ⟨#[]⟩) := kx.out.cell 0
  have fx := fun q => kx.out.frozen q
  have r1 : W.cell? ⟨g, 1, none⟩ = some (.int .i64 (r.at_ : Nat)) := hr0.out.blk.cell 1
  have r3 : W.cell? ⟨g, 3, none⟩ = some (.int .i64 r.e) := hr0.out.blk.cell 3
  go_wp2_with fail
  have U : Upd (fun k => k = w.heap.size + 1) W (W.setCell ⟨w.heap.size + 1, 0, none⟩ (.string ⟨#[]⟩)) := (Upd.refl (fun k => k = w.heap.size + 1) W).setCell (p := ⟨w.heap.size + 1, 0, none⟩) (fun _ => rfl) _
  refine ⟨.string ⟨#[]⟩, ?_, rfl, (Upd.of_below' hB0.out _).trans U fun b hb e => by omega, hr0.out.upd U (by have := hgb.out; omega) fun b hb => by have := hSb.out b hb; omega⟩
  have HX : (W.setCell ⟨w.heap.size + 1, 0, none⟩ (.string ⟨#[]⟩)).cell? ⟨w.heap.size + 1, 0, none⟩ = some (.string ⟨#[]⟩) := (kx.out.set_ 0 (.string ⟨#[]⟩)).cell 0
  simp [Go.results, Tryd.results80, asAddr, go_sem, HX]
set_option maxRecDepth 100000 in
set_option maxHeartbeats 1000000 in
theorem cread_string_bad {S : Nat → Prop} {w : World} {g : Nat} {A : Option Addr} {c : Nat} {r : Rr} {p q : Nat} (h : CrIn S w g A c r) (hS : ∀ k, S k → k < w.heap.size) (he : r.e = 0) (res : (Value × Nat) ⊕ Int) (hT : ∀ W, Below w.heap.size w W → CrIn S W g A c r → Calls Tryd.prog 81 #[.pointer (some ⟨p, 0, none⟩), .pointer (some ⟨q, 0, none⟩)] W (CPost S W g A c r res)) (x : Int) (hres : res = .inr x) : Calls Tryd.prog 80 #[.pointer (some ⟨g, 0, none⟩), .func (Fn.func 81) #[] #[.pointer (some ⟨p, 0, none⟩), .pointer (some ⟨q, 0, none⟩)]] w fun e w' => e = .returned (.string ⟨#[]⟩) ∧ Upd (fun k => k = g) w w' ∧ CrIn S w' g A c (r.fails x) := by
  have hmf : ∀ (fn : Fn) (first cap : Array Value) (w : World), (Instr.makeFunc fn first cap).run Tryd.prog w = .ok (.func fn first cap) w := fun _ _ _ _ => rfl
  obtain ⟨W, hW⟩ : ∃ W, W = ((w.alloc (.cells #[.pointer (some ⟨g, 0, none⟩)] 36)).alloc (.cells #[.string ⟨#[]⟩] 9)) := ⟨_, rfl⟩
  have hB0 : Hid (Below w.heap.size w W) := hid (by subst hW; exact ((Below.refl _ _).alloc (Nat.le_refl _) _).alloc (by simp) _)
  have kb : Hid (Blk W w.heap.size 36 #[.pointer (some ⟨g, 0, none⟩)]) := hid (by subst hW; exact (Blk.new w _ _).alloc _)
  have kx : Hid (Blk W (w.heap.size + 1) 9 #[.string ⟨#[]⟩]) := hid (by subst hW; exact Blk.new' _ _ _ (by simp))
  have hsz : W.heap.size = w.heap.size + 1 + 1 := by subst hW; simp
  have hr0 := hid (h.below_all hB0.out)
  have hgb := hid h.blk.lt
  have hSb := hid hS
  have hne := hid h.ne
  have t1 : (r.e != 0) = false := by simpa using he
  have hal := hid h.at_le
  obtain ⟨W4, hW4⟩ : ∃ W4, W4 = (W.alloc (.cells #[.int .i64 (r.at_ : Nat)] 3)) := ⟨_, rfl⟩
  have hB4 : Below W.heap.size W W4 := by subst hW4; exact (Below.refl _ _).alloc (Nat.le_refl _) _
  have kf : Blk W4 (w.heap.size + 1 + 1) 3 #[.int .i64 (r.at_ : Nat)] := by subst hW4; exact Blk.new' W 3 _ hsz.symm
  have hX4 : Hid (RX S w W4 g A c r 9 (.string ⟨#[]⟩) r.at_) := hid ⟨hr0.out.below_all hB4, hS, hgb.out, kb.out.below_all hB4, kx.out.below_all hB4, kf, Upd.of_below' (hB0.out.trans (hB4.mono hB0.out.size)) _⟩
  have hT4 := hid (hT W4 (hB0.out.trans (hB4.mono hB0.out.size)) hX4.out.rd)
  clear h hS he hB4 kf hT
  go_enter_defers Tryd.func80, Tryd.ntmps80
  go_upto_region 1 with fail
  rw [← hW]
  clear hW
  have hre : Hid (r.e = r.e) := hid rfl
  have b0 : W.cell? ⟨w.heap.size, 0, none⟩ = some (.pointer (some ⟨g, 0, none⟩)) := kb.out.cell 0
  have x0 : W.cell? ⟨w.heap.size + 1, 0, none⟩ = some (.string ⟨#[]⟩) := kx.out.cell 0
  have fx := fun q => kx.out.frozen q
  have r1 : W.cell? ⟨g, 1, none⟩ = some (.int .i64 (r.at_ : Nat)) := hr0.out.blk.cell 1
  have r3 : W.cell? ⟨g, 3, none⟩ = some (.int .i64 r.e) := hr0.out.blk.cell 3
  go_upto_region 4 with fail
  rw [← hW4]
  clear hW4 b0 x0 fx r1 r3 hr0 kb kx hB0
  go_wp2_with fail
  refine (cp_bad hres hT4.out).mono ?_
  rintro e w5 ⟨rfl, hu0, a, hr5⟩
  have hX5 := hid (hX4.out.call hu0 hr5)
  clear hu0 hr5 hX4 hT4 hres
  go_wp2_with fail
  refine leaves_cons (f := 96) (args := #[.pointer (some ⟨w.heap.size + 1 + 1, 0, none⟩), .pointer (some ⟨w.heap.size + 1, 0, none⟩), .pointer (some ⟨w.heap.size, 0, none⟩)]) (by simp) (by simp [go_sem]) ?_
  refine (cpanic_string (r := r.to a) x [] hal.out hX5.out).mono ?_
  rintro e u' w'' ⟨rfl, rfl, hX6⟩
  refine ⟨.string ⟨#[]⟩, ?_, rfl, hX6.up, hX6.rd⟩
  have HX : w''.cell? ⟨w.heap.size + 1, 0, none⟩ = some (.string ⟨#[]⟩) := hX6.x.cell 0
  simp [Go.results, Tryd.results80, asAddr, go_sem, HX]
set_option maxRecDepth 100000 in
set_option maxHeartbeats 1000000 in
theorem cread_string_ok {S : Nat → Prop} {w : World} {g : Nat} {A : Option Addr} {c : Nat} {r : Rr} {p q : Nat} (h : CrIn S w g A c r) (hS : ∀ k, S k → k < w.heap.size) (he : r.e = 0) (res : (Value × Nat) ⊕ Int) (hT : ∀ W, Below w.heap.size w W → CrIn S W g A c r → Calls Tryd.prog 81 #[.pointer (some ⟨p, 0, none⟩), .pointer (some ⟨q, 0, none⟩)] W (CPost S W g A c r res)) (n : ByteArray) (a : Nat) (hres : res = .inl (.string n, a)) : Calls Tryd.prog 80 #[.pointer (some ⟨g, 0, none⟩), .func (Fn.func 81) #[] #[.pointer (some ⟨p, 0, none⟩), .pointer (some ⟨q, 0, none⟩)]] w fun e w' => e = .returned (.string n) ∧ Upd (fun k => k = g) w w' ∧ CrIn S w' g A c { r with at_ := a, last := r.at_ } := by
  have hmf : ∀ (fn : Fn) (first cap : Array Value) (w : World), (Instr.makeFunc fn first cap).run Tryd.prog w = .ok (.func fn first cap) w := fun _ _ _ _ => rfl
  obtain ⟨W, hW⟩ : ∃ W, W = ((w.alloc (.cells #[.pointer (some ⟨g, 0, none⟩)] 36)).alloc (.cells #[.string ⟨#[]⟩] 9)) := ⟨_, rfl⟩
  have hB0 : Hid (Below w.heap.size w W) := hid (by subst hW; exact ((Below.refl _ _).alloc (Nat.le_refl _) _).alloc (by simp) _)
  have kb : Hid (Blk W w.heap.size 36 #[.pointer (some ⟨g, 0, none⟩)]) := hid (by subst hW; exact (Blk.new w _ _).alloc _)
  have kx : Hid (Blk W (w.heap.size + 1) 9 #[.string ⟨#[]⟩]) := hid (by subst hW; exact Blk.new' _ _ _ (by simp))
  have hsz : W.heap.size = w.heap.size + 1 + 1 := by subst hW; simp
  have hr0 := hid (h.below_all hB0.out)
  have hgb := hid h.blk.lt
  have hSb := hid hS
  have hne := hid h.ne
  have t1 : (r.e != 0) = false := by simpa using he
  have hal := hid h.at_le
  obtain ⟨W4, hW4⟩ : ∃ W4, W4 = (W.alloc (.cells #[.int .i64 (r.at_ : Nat)] 3)) := ⟨_, rfl⟩
  have hB4 : Below W.heap.size W W4 := by subst hW4; exact (Below.refl _ _).alloc (Nat.le_refl _) _
  have kf : Blk W4 (w.heap.size + 1 + 1) 3 #[.int .i64 (r.at_ : Nat)] := by subst hW4; exact Blk.new' W 3 _ hsz.symm
  have hX4 : Hid (RX S w W4 g A c r 9 (.string ⟨#[]⟩) r.at_) := hid ⟨hr0.out.below_all hB4, hS, hgb.out, kb.out.below_all hB4, kx.out.below_all hB4, kf, Upd.of_below' (hB0.out.trans (hB4.mono hB0.out.size)) _⟩
  have hT4 := hid (hT W4 (hB0.out.trans (hB4.mono hB0.out.size)) hX4.out.rd)
  clear h hS he hB4 kf hT
  go_enter_defers Tryd.func80, Tryd.ntmps80
  go_upto_region 1 with fail
  rw [← hW]
  clear hW
  have hre : Hid (r.e = r.e) := hid rfl
  have b0 : W.cell? ⟨w.heap.size, 0, none⟩ = some (.pointer (some ⟨g, 0, none⟩)) := kb.out.cell 0
  have x0 : W.cell? ⟨w.heap.size + 1, 0, none⟩ = some (.string ⟨#[]⟩) := kx.out.cell 0
  have fx := fun q => kx.out.frozen q
  have r1 : W.cell? ⟨g, 1, none⟩ = some (.int .i64 (r.at_ : Nat)) := hr0.out.blk.cell 1
  have r3 : W.cell? ⟨g, 3, none⟩ = some (.int .i64 r.e) := hr0.out.blk.cell 3
  go_upto_region 4 with fail
  rw [← hW4]
  clear hW4 b0 x0 fx r1 r3 hr0 kb kx hB0
  go_wp2_with fail
  refine (cp_ok hres hT4.out).mono ?_
  rintro e w5 ⟨rfl, hu0, hr5⟩
  have hX5 := hid (hX4.out.call hu0 hr5)
  clear hu0 hr5 hX4 hT4 hres
  obtain ⟨b0, x0, f0, fx, fg, r1, r2, r3, r4, hgl, hfl⟩ := hX5.out.cells
  go_upto_region 6 with fail
  have hX6 := hid (hX5.out.setX (.string n))
  generalize w5.setCell ⟨w.heap.size + 1, 0, none⟩ (.string n) = w6 at *
  clear b0 x0 f0 fx fg r1 r2 r3 r4 hgl hfl hX5
  obtain ⟨b0, x0, f0, fx, fg, r1, r2, r3, r4, hgl, hfl⟩ := hX6.out.cells
  go_upto_region 7 with fail
  have hX7 := hid (hX6.out.setR (r' := { r with at_ := a, last := r.at_ }) 2 (.int .i64 (r.at_ : Nat)) rfl rfl hX6.out.rd.at_le)
  generalize w6.setCell ⟨g, 2, none⟩ (.int .i64 (r.at_ : Nat)) = w7 at *
  clear b0 x0 f0 fx fg r1 r2 r3 r4 hgl hfl hX6
  obtain ⟨b0, x0, f0, fx, fg, r1, r2, r3, r4, hgl, hfl⟩ := hX7.out.cells
  go_wp2_with fail
  have hX8 := hX7.out.setX (.string n)
  refine leaves_cons (f := 96) (args := #[.pointer (some ⟨w.heap.size + 1 + 1, 0, none⟩), .pointer (some ⟨w.heap.size + 1, 0, none⟩), .pointer (some ⟨w.heap.size, 0, none⟩)]) (by simp) (by simp [go_sem]) ?_
  refine (cidle_string hX8).mono ?_
  rintro e u' w'' ⟨rfl, rfl, rfl⟩
  refine ⟨.string n, ?_, rfl, hX8.up, hX8.rd⟩
  have HX := hX8.x.cell 0
  have HX : (w7.setCell ⟨w.heap.size + 1, 0, none⟩ (.string n)).cell? ⟨w.heap.size + 1, 0, none⟩ = some (.string n) := hX8.x.cell 0
  simp [Go.results, Tryd.results80, asAddr, go_sem, HX]

end Go.Proofs.YtbnpidmlcjofiaaDoor

namespace Go.Proofs.YtbnpidmlcjofiaaDoor
open Go.RowKit
set_option linter.unusedVariables false
set_option linter.unusedSimpArgs false

def ctextR (r : Rr) (most : Int) : (Value × Nat) ⊕ Int := match num r.b r.at_ with | .inr e => .inr e | .inl (n, k) => if most < n then .inr 1 else if r.b.length < r.at_ + k + n then .inr 3 else .inl (.string (bt ((r.b.drop (r.at_ + k)).take n)), r.at_ + k + n)
set_option maxRecDepth 100000 in
set_option maxHeartbeats 1000000 in
theorem ctext1_any {S : Nat → Prop} {w : World} {g : Nat} {A : Option Addr} {c : Nat} {r : Rr} {p q : Nat} (h : CrIn S w g A c r) (most : Int) (hmm : 0 ≤ most ∧ most ≤ 100000) (hb1 : Blk w p 36 #[.pointer (some ⟨g, 0, none⟩)]) (hb2 : Blk w q 3 #[.int .i64 most]) (hpg : p ≠ g) : Calls Tryd.prog 81 #[.pointer (some ⟨p, 0, none⟩), .pointer (some ⟨q, 0, none⟩)] w (CPost S w g A c r (ctextR r most)) := by
  have hcl := hid (climit_any h most 1 hmm)
  have hpg := hid hpg
  have y0 : w.cell? ⟨p, 0, none⟩ = some (.pointer (some ⟨g, 0, none⟩)) := hb1.cell 0
  have y1 : w.cell? ⟨q, 0, none⟩ = some (.int .i64 most) := hb2.cell 0
  have hH := hid h
  cases hnv : num r.b r.at_ with
  | inr er =>
    have hlim : climR r most 1 = .inr er := by unfold climR; rw [hnv]
    have hres : Hid (ctextR r most = .inr er) := hid (by unfold ctextR; rw [hnv])
    clear hnv h hb1 hb2 hmm
    go_enter Tryd.func81, Tryd.ntmps81
    go_wp2_with fail
    refine (cp_bad hlim hcl.out).mono ?_
    rintro e w2 ⟨rfl, hu0, a2, hr0⟩
    have hU2 := hid hu0
    have hR2 := hid hr0
    clear hu0 hr0 hlim
    go_wp2_with fail
    refine ⟨rfl, hU2.out, ?_⟩
    rw [hres.out]
    exact ⟨rfl, _, hR2.out⟩
  | inl nk =>
    obtain ⟨n, k⟩ := nk
    obtain ⟨hn1, hn2, hn3⟩ := num_lt hnv
    by_cases hmn : most < (n : Int)
    · have hlim : climR r most 1 = .inr 1 := by unfold climR; rw [hnv]; simp only; rw [if_pos hmn]
      have hres : Hid (ctextR r most = .inr 1) := hid (by unfold ctextR; rw [hnv]; simp only; rw [if_pos hmn])
      clear hnv h hb1 hb2 hmm hn1 hn2 hn3 hmn
      go_enter Tryd.func81, Tryd.ntmps81
      go_wp2_with fail
      refine (cp_bad hlim hcl.out).mono ?_
      rintro e w2 ⟨rfl, hu0, a2, hr0⟩
      have hU2 := hid hu0
      have hR2 := hid hr0
      clear hu0 hr0 hlim
      go_wp2_with fail
      refine ⟨rfl, hU2.out, ?_⟩
      rw [hres.out]
      exact ⟨rfl, _, hR2.out⟩
    · obtain ⟨P, hP⟩ : ∃ P, P = r.at_ + k := ⟨_, rfl⟩
      obtain ⟨E, hE⟩ : ∃ E, E = P + n := ⟨_, rfl⟩
      have hlim : climR r most 1 = .inl (.int .i64 (n : Nat), r.at_ + k) := by unfold climR; rw [hnv]; simp only; rw [if_neg hmn]
      have hl2 := h.len
      have hc2 := h.cap
      have g1 : IntKind.i64.wrap ((r.b.length : Int) - (P : Int)) = (r.b.length : Int) - (P : Int) := by rw [IntKind.wrap_i64]; omega
      by_cases hsh : r.b.length < r.at_ + k + n
      · have i3 : (r.b.length : Int) - (P : Int) < (n : Int) := by omega
        have hres : Hid (ctextR r most = .inr 3) := hid (by unfold ctextR; rw [hnv]; simp only; rw [if_neg hmn, if_pos hsh])
        clear hnv h hb1 hb2 hmm hn1 hn2 hn3 hmn hE hl2 hc2 hsh
        go_enter Tryd.func81, Tryd.ntmps81
        go_wp2_with fail
        refine (cp_ok hlim hcl.out).mono ?_
        rintro e w2 ⟨rfl, hu0, hr0⟩
        have hU2 := hid hu0
        have hR2 : Hid (CrIn S w2 g A c (r.to P)) := hid (by rw [← hP] at hr0; exact hr0)
        have hu2p : Hid (w2.cell? ⟨p, 0, none⟩ = some (.pointer (some ⟨g, 0, none⟩))) := hid (hu0.cell y0 hpg.out)
        clear hu0 hr0
        have kb := hR2.out.blk
        have x0 : w2.cell? ⟨g, 0, none⟩ = some (.slice A r.b.length c) := kb.cell 0
        have x1 : w2.cell? ⟨g, 1, none⟩ = some (.int .i64 (P : Nat)) := kb.cell 1
        have fz := fun q => kb.frozen q
        have hlt := kb.lt
        have z0 := hu2p.out
        clear kb
        clear y0 y1 hlim hP
        go_upto_region 2 with fail
        go_quiet (fail)
        go_wp2_with fail
        refine ⟨rfl, hU2.out.drewN _, ?_⟩
        rw [hres.out]
        exact ⟨rfl, _, hR2.out.drewN _⟩
      · have i3 : ¬ ((r.b.length : Int) - (P : Int) < (n : Int)) := by omega
        have i4 : (n : Int) ≤ (r.b.length : Int) - (P : Int) := by omega
        obtain ⟨W, hW⟩ : ∃ W, W = bt ((r.b.drop P).take n) := ⟨_, rfl⟩
        have hres : Hid (ctextR r most = .inl (.string W, E)) := hid (by unfold ctextR; rw [hnv]; simp only; rw [if_neg hmn, if_neg hsh, hW, hE, hP])
        have q1 : IntKind.i64.wrap ((P : Int) + (n : Int)) = (E : Int) := by rw [IntKind.wrap_i64]; omega
        have q2 : IntKind.i64.wrap ((E : Int) - (n : Int)) = (P : Int) := by rw [IntKind.wrap_i64]; omega
        have q4 : E - P = n := by omega
        have u1 : P ≤ E := by omega
        have u1' : (P : Int) ≤ (E : Int) := by omega
        have u2 : E ≤ c := by omega
        have u2' : (E : Int) ≤ (c : Int) := by omega
        have hE9 := hid (show E ≤ r.b.length by omega)
        have hcv := hid (fun (W' : World) (hr : CrIn S W' g A c (r.to E)) => hW ▸ convB (c := c - P) (Rd.part (c := c) (k := P) (n := n) hr.row (by show P + n ≤ r.b.length; omega) hc2) (by rw [List.length_take, List.length_drop]; show min n (r.b.length - P) = n; omega))
        clear hnv h hb1 hb2 hmm hn1 hn2 hn3 hmn hE hl2 hc2 hsh hW
        rcases Decidable.em (c = P) with hcb | hcb
        · rw [if_pos hcb, hcb, Nat.sub_self] at hcv
          subst hcb
          go_enter Tryd.func81, Tryd.ntmps81
          go_wp2_with fail
          refine (cp_ok hlim hcl.out).mono ?_
          rintro e w2 ⟨rfl, hu0, hr0⟩
          have hU2 := hid hu0
          have hR2 : Hid (CrIn S w2 g A c (r.to c)) := hid (by rw [← hP] at hr0; exact hr0)
          have hu2p : Hid (w2.cell? ⟨p, 0, none⟩ = some (.pointer (some ⟨g, 0, none⟩))) := hid (hu0.cell y0 hpg.out)
          clear hu0 hr0
          have kb := hR2.out.blk
          have x0 : w2.cell? ⟨g, 0, none⟩ = some (.slice A r.b.length c) := kb.cell 0
          have x1 : w2.cell? ⟨g, 1, none⟩ = some (.int .i64 (c : Nat)) := kb.cell 1
          have fz := fun q => kb.frozen q
          have hlt := kb.lt
          have z0 := hu2p.out
          clear kb
          clear y0 y1 hlim hP
          go_upto_region 2 with fail
          go_quiet (fail)
          go_upto_region 5 with fail
          have U3 : Upd (fun k => k = g) w ((w2.drewN nq).setCell ⟨g, 1, none⟩ (.int .i64 (E : Nat))) := (hU2.out.drewN nq).setCell (p := ⟨g, 1, none⟩) (fun _ => rfl) _
          have u3 : Upd (fun k => k = g) w2 ((w2.drewN nq).setCell ⟨g, 1, none⟩ (.int .i64 (E : Nat))) := ((Upd.refl (fun k => k = g) w2).drewN nq).setCell (p := ⟨g, 1, none⟩) (fun _ => rfl) _
          have R3 : CrIn S ((w2.drewN nq).setCell ⟨g, 1, none⟩ (.int .i64 (E : Nat))) g A c (r.to E) := hR2.out.go u3 (by simpa [Rr.to] using (hR2.out.blk.drewN nq).set_ 1 (.int .i64 (E : Nat))) rfl hE9.out
          have z3 : ((w2.drewN nq).setCell ⟨g, 1, none⟩ (.int .i64 (E : Nat))).cell? ⟨p, 0, none⟩ = some (.pointer (some ⟨g, 0, none⟩)) := u3.cell z0 hpg.out
          have hU3 := hid U3; have hR3 := hid R3
          generalize (w2.drewN nq).setCell ⟨g, 1, none⟩ (.int .i64 (E : Nat)) = w3 at *
          clear x0 x1 fz hlt z0 U3 u3 R3 hU2 hR2 hu2p
          have kb := hR3.out.blk
          have x0 : w3.cell? ⟨g, 0, none⟩ = some (.slice A r.b.length c) := kb.cell 0
          have x1 : w3.cell? ⟨g, 1, none⟩ = some (.int .i64 (E : Nat)) := kb.cell 1
          have fz := fun q => kb.frozen q
          have hlt := kb.lt
          clear kb
          have hcx := fun j => hcv.out _ (hR3.out.drewN j)
          clear hcv
          go_quiet (fail)
          go_wp2_with fail
          go_ret
          refine ⟨hU3.out.drewN _, ?_⟩
          rw [hres.out]
          exact ⟨rfl, hR3.out.drewN _⟩
        · rw [if_neg hcb] at hcv
          go_enter Tryd.func81, Tryd.ntmps81
          go_wp2_with fail
          refine (cp_ok hlim hcl.out).mono ?_
          rintro e w2 ⟨rfl, hu0, hr0⟩
          have hU2 := hid hu0
          have hR2 : Hid (CrIn S w2 g A c (r.to P)) := hid (by rw [← hP] at hr0; exact hr0)
          have hu2p : Hid (w2.cell? ⟨p, 0, none⟩ = some (.pointer (some ⟨g, 0, none⟩))) := hid (hu0.cell y0 hpg.out)
          clear hu0 hr0
          have kb := hR2.out.blk
          have x0 : w2.cell? ⟨g, 0, none⟩ = some (.slice A r.b.length c) := kb.cell 0
          have x1 : w2.cell? ⟨g, 1, none⟩ = some (.int .i64 (P : Nat)) := kb.cell 1
          have fz := fun q => kb.frozen q
          have hlt := kb.lt
          have z0 := hu2p.out
          clear kb
          clear y0 y1 hlim hP
          go_upto_region 2 with fail
          go_quiet (fail)
          go_upto_region 5 with fail
          have U3 : Upd (fun k => k = g) w ((w2.drewN nq).setCell ⟨g, 1, none⟩ (.int .i64 (E : Nat))) := (hU2.out.drewN nq).setCell (p := ⟨g, 1, none⟩) (fun _ => rfl) _
          have u3 : Upd (fun k => k = g) w2 ((w2.drewN nq).setCell ⟨g, 1, none⟩ (.int .i64 (E : Nat))) := ((Upd.refl (fun k => k = g) w2).drewN nq).setCell (p := ⟨g, 1, none⟩) (fun _ => rfl) _
          have R3 : CrIn S ((w2.drewN nq).setCell ⟨g, 1, none⟩ (.int .i64 (E : Nat))) g A c (r.to E) := hR2.out.go u3 (by simpa [Rr.to] using (hR2.out.blk.drewN nq).set_ 1 (.int .i64 (E : Nat))) rfl hE9.out
          have z3 : ((w2.drewN nq).setCell ⟨g, 1, none⟩ (.int .i64 (E : Nat))).cell? ⟨p, 0, none⟩ = some (.pointer (some ⟨g, 0, none⟩)) := u3.cell z0 hpg.out
          have hU3 := hid U3; have hR3 := hid R3
          generalize (w2.drewN nq).setCell ⟨g, 1, none⟩ (.int .i64 (E : Nat)) = w3 at *
          clear x0 x1 fz hlt z0 U3 u3 R3 hU2 hR2 hu2p
          have kb := hR3.out.blk
          have x0 : w3.cell? ⟨g, 0, none⟩ = some (.slice A r.b.length c) := kb.cell 0
          have x1 : w3.cell? ⟨g, 1, none⟩ = some (.int .i64 (E : Nat)) := kb.cell 1
          have fz := fun q => kb.frozen q
          have hlt := kb.lt
          clear kb
          have hcx := fun j => hcv.out _ (hR3.out.drewN j)
          clear hcv
          go_quiet (fail)
          go_wp2_with fail
          go_ret
          refine ⟨hU3.out.drewN _, ?_⟩
          rw [hres.out]
          exact ⟨rfl, hR3.out.drewN _⟩

end Go.Proofs.YtbnpidmlcjofiaaDoor

namespace Go.Proofs.YtbnpidmlcjofiaaDoor
open Go.RowKit
set_option linter.unusedVariables false
set_option linter.unusedSimpArgs false

set_option maxRecDepth 100000 in
set_option maxHeartbeats 1000000 in
theorem cText_any {S : Nat → Prop} {w : World} {g : Nat} {A : Option Addr} {c : Nat} {r : Rr} (h : CrIn S w g A c r) (most : Int) (hmm : 0 ≤ most ∧ most ≤ 100000) : Calls Tryd.prog 56 #[.pointer (some ⟨g, 0, none⟩), .int .i64 most] w fun e w' => e = .returned (.string (r.text most).1) ∧ Upd (fun k => k = g) w w' ∧ CrIn S w' g A c (r.text most).2 := by
  have hmf : ∀ (fn : Fn) (first cap : Array Value) (w : World), (Instr.makeFunc fn first cap).run Tryd.prog w = .ok (.func fn first cap) w := fun _ _ _ _ => rfl
  have hne := hid h.ne
  obtain ⟨W, hW⟩ : ∃ W, W = ((w.alloc (.cells #[.pointer (some ⟨g, 0, none⟩)] 36)).alloc (.cells #[.int .i64 most] 3)) := ⟨_, rfl⟩
  have hB0 : Below w.heap.size w W := by subst hW; exact ((Below.refl _ _).alloc (Nat.le_refl _) _).alloc (by simp) _
  have kp : Blk W w.heap.size 36 #[.pointer (some ⟨g, 0, none⟩)] := by subst hW; exact (Blk.new w _ _).alloc _
  have kq : Blk W (w.heap.size + 1) 3 #[.int .i64 most] := by subst hW; exact Blk.new' _ _ _ (by simp)
  have hsz : W.heap.size = w.heap.size + 1 + 1 := by subst hW; simp
  have b0 : W.cell? ⟨w.heap.size, 0, none⟩ = some (.pointer (some ⟨g, 0, none⟩)) := kp.cell 0
  have hb := h.bound.below_all hB0
  have hgb := h.blk.lt
  have hS : ∀ k, S k ∧ k < w.heap.size → k < W.heap.size := fun k hk => by omega
  have hT : ∀ W', Below W.heap.size W W' → CrIn (fun k => S k ∧ k < w.heap.size) W' g A c r → Calls Tryd.prog 81 #[.pointer (some ⟨w.heap.size, 0, none⟩), .pointer (some ⟨w.heap.size + 1, 0, none⟩)] W' (CPost (fun k => S k ∧ k < w.heap.size) W' g A c r (ctextR r most)) := fun W' hW' hr => ctext1_any hr most hmm (kp.below_all hW') (kq.below_all hW') (by omega)
  have hu1 := hid (Upd.of_below' hB0 fun k => k = g)
  by_cases he : r.e = 0
  · cases hnv : num r.b r.at_ with
    | inr er =>
      have hc := hid (cread_string_bad hb hS he _ hT er (by unfold ctextR; rw [hnv]))
      have hp : Hid (r.text most = (⟨#[]⟩, r.fails er)) := hid (by unfold Rr.text; rw [if_neg (by simp [he]), hnv])
      clear h hb hT he hnv hB0 kp kq hsz hgb hS hmm
      go_enter Tryd.func56, Tryd.ntmps56
      go_upto_region 1 with fail
      rw [← hW]
      clear hW
      go_wp2_with fail
      refine hc.out.mono ?_
      rintro e w2 ⟨rfl, hu0, hr0⟩
      have hu2 := hid (hu1.out.trans hu0 fun _ _ h => h)
      have hr2 := hid (hr0.unbound hne.out)
      clear hu0 hr0 hc
      go_wp2_with fail
      go_ret
      rw [hp.out]
      exact ⟨rfl, hu2.out, hr2.out⟩
    | inl nk =>
      obtain ⟨n, k⟩ := nk
      by_cases hmn : most < (n : Int)
      · have hc := hid (cread_string_bad hb hS he _ hT 1 (by unfold ctextR; rw [hnv]; simp only; rw [if_pos hmn]))
        have hp : Hid (r.text most = (⟨#[]⟩, r.fails 1)) := hid (by unfold Rr.text; rw [if_neg (by simp [he]), hnv]; simp only; rw [if_pos (.inr hmn)])
        clear h hb hT he hnv hB0 kp kq hsz hgb hS hmm hmn
        go_enter Tryd.func56, Tryd.ntmps56
        go_upto_region 1 with fail
        rw [← hW]
        clear hW
        go_wp2_with fail
        refine hc.out.mono ?_
        rintro e w2 ⟨rfl, hu0, hr0⟩
        have hu2 := hid (hu1.out.trans hu0 fun _ _ h => h)
        have hr2 := hid (hr0.unbound hne.out)
        clear hu0 hr0 hc
        go_wp2_with fail
        go_ret
        rw [hp.out]
        exact ⟨rfl, hu2.out, hr2.out⟩
      · by_cases hsh : r.b.length < r.at_ + k + n
        · have hc := hid (cread_string_bad hb hS he _ hT 3 (by unfold ctextR; rw [hnv]; simp only; rw [if_neg hmn, if_pos hsh]))
          have hp : Hid (r.text most = (⟨#[]⟩, r.fails 3)) := hid (by unfold Rr.text; rw [if_neg (by simp [he]), hnv]; simp only; rw [if_neg (by omega), if_pos hsh])
          clear h hb hT he hnv hB0 kp kq hsz hgb hS hmm hmn hsh
          go_enter Tryd.func56, Tryd.ntmps56
          go_upto_region 1 with fail
          rw [← hW]
          clear hW
          go_wp2_with fail
          refine hc.out.mono ?_
          rintro e w2 ⟨rfl, hu0, hr0⟩
          have hu2 := hid (hu1.out.trans hu0 fun _ _ h => h)
          have hr2 := hid (hr0.unbound hne.out)
          clear hu0 hr0 hc
          go_wp2_with fail
          go_ret
          rw [hp.out]
          exact ⟨rfl, hu2.out, hr2.out⟩
        · have hc := hid (cread_string_ok hb hS he _ hT _ (r.at_ + (k + n)) (by unfold ctextR; rw [hnv]; simp only; rw [if_neg hmn, if_neg hsh, Nat.add_assoc]))
          have hp : Hid (r.text most = (bt ((r.b.drop (r.at_ + k)).take n), r.took (k + n))) := hid (by unfold Rr.text; rw [if_neg (by simp [he]), hnv]; simp only; rw [if_neg (by omega), if_neg hsh])
          clear h hb hT he hnv hB0 kp kq hsz hgb hS hmm hmn hsh
          go_enter Tryd.func56, Tryd.ntmps56
          go_upto_region 1 with fail
          rw [← hW]
          clear hW
          go_wp2_with fail
          refine hc.out.mono ?_
          rintro e w2 ⟨rfl, hu0, hr0⟩
          have hu2 := hid (hu1.out.trans hu0 fun _ _ h => h)
          have hr2 := hid (hr0.unbound hne.out)
          clear hu0 hr0 hc
          go_wp2_with fail
          go_ret
          rw [hp.out]
          exact ⟨rfl, hu2.out, hr2.out⟩
  · have hc := hid (cread_string_err (p := w.heap.size) (q := w.heap.size + 1) hb hS he)
    have hp : Hid (r.text most = (⟨#[]⟩, r)) := hid (by unfold Rr.text; rw [if_pos he])
    clear h hb hT he hB0 kp kq hsz hgb hS hmm
    go_enter Tryd.func56, Tryd.ntmps56
    go_upto_region 1 with fail
    rw [← hW]
    clear hW
    go_wp2_with fail
    refine hc.out.mono ?_
    rintro e w2 ⟨rfl, hu0, hr0⟩
    have hu2 := hid (hu1.out.trans hu0 fun _ _ h => h)
    have hr2 := hid (hr0.unbound hne.out)
    clear hu0 hr0 hc
    go_wp2_with fail
    go_ret
    rw [hp.out]
    exact ⟨rfl, hu2.out, hr2.out⟩

end Go.Proofs.YtbnpidmlcjofiaaDoor

namespace Go.Proofs.YtbnpidmlcjofiaaDoor
open Go.RowKit
set_option linter.unusedVariables false
set_option linter.unusedSimpArgs false

theorem CrIn.two {S : Nat → Prop} {w w0 : World} {g : Nat} {A : Option Addr} {c : Nat} {r : Rr} (h : CrIn S w g A c r) (e : Int) (p : Nat) : Upd (fun k => k = g) w ((w.setCell ⟨g, 3, none⟩ (.int .i64 e)).setCell ⟨g, 4, none⟩ (.int .i64 (p : Nat))) ∧ CrIn S ((w.setCell ⟨g, 3, none⟩ (.int .i64 e)).setCell ⟨g, 4, none⟩ (.int .i64 (p : Nat))) g A c { r with e := e, spot := p } := by
  have U : Upd (fun k => k = g) w ((w.setCell ⟨g, 3, none⟩ (.int .i64 e)).setCell ⟨g, 4, none⟩ (.int .i64 (p : Nat))) := ((Upd.refl (fun k => k = g) w).setCell (p := ⟨g, 3, none⟩) (fun _ => rfl) _).setCell (p := ⟨g, 4, none⟩) (fun _ => rfl) _
  exact ⟨U, h.go U (by simpa using (h.blk.set_ 3 (.int .i64 e)).set_ 4 (.int .i64 (p : Nat))) rfl h.at_le⟩
set_option maxRecDepth 100000 in
theorem cFail_any {S : Nat → Prop} {w : World} {g : Nat} {A : Option Addr} {c : Nat} {r : Rr} (h : CrIn S w g A c r) (e : Int) : Calls Tryd.prog 58 #[.pointer (some ⟨g, 0, none⟩), .int .i64 e] w fun en w' => en = .returned (.tuple #[]) ∧ Upd (fun k => k = g) w w' ∧ CrIn S w' g A c (r.fail e) := by
  have H := hid h
  have kb := h.blk
  have x0 := kb.cell 0
  have x1 := kb.cell 1
  have x2 := kb.cell 2
  have x3 := kb.cell 3
  have x4 := kb.cell 4
  simp only [List.getElem?_toArray, List.getElem?_cons_zero, List.getElem?_cons_succ] at x0 x1 x2 x3 x4
  have fz := fun q => kb.frozen q
  have hlt := kb.lt
  by_cases he : r.e = 0
  · have t1 : (r.e == 0) = true := by simpa using he
    by_cases hz : e = 0
    · have t3 : (e != 0) = false := by simpa using hz
      have hf : Hid (r.fail e = r) := hid (by unfold Rr.fail; rw [if_neg (by rintro ⟨_, h⟩; exact h hz)])
      generalize r.e = re at *
      clear h he kb hz
      go_enter Tryd.func58, Tryd.ntmps58
      go_wp2_with fail
      go_end0
      exact ⟨rfl, Upd.refl _ _, by rw [hf.out]; exact H.out⟩
    · have t3 : (e != 0) = true := by simpa using hz
      have hf : Hid (r.fail e = { r with e := e, spot := r.last }) := hid (by unfold Rr.fail; rw [if_pos ⟨he, hz⟩])
      have h2 := hid (CrIn.two (w0 := w) h e r.last)
      clear h kb hz he
      go_enter Tryd.func58, Tryd.ntmps58
      go_wp2_with fail
      go_end0
      exact ⟨rfl, h2.out.1, by rw [hf.out]; exact h2.out.2⟩
  · have t1 : (r.e == 0) = false := by simpa using he
    have hf : Hid (r.fail e = r) := hid (by unfold Rr.fail; rw [if_neg (by rintro ⟨h, _⟩; exact he h)])
    generalize r.e = re at *
    clear h he kb
    go_enter Tryd.func58, Tryd.ntmps58
    go_wp2_with fail
    go_end0
    exact ⟨rfl, Upd.refl _ _, by rw [hf.out]; exact H.out⟩
def Rr.why (r : Rr) : Int × Nat := if r.e = 0 then (0, 0) else (r.e, r.spot)
set_option maxRecDepth 100000 in
theorem cWhy_any {S : Nat → Prop} {w : World} {g : Nat} {A : Option Addr} {c : Nat} {r : Rr} (h : CrIn S w g A c r) : Calls Tryd.prog 22 #[.pointer (some ⟨g, 0, none⟩)] w fun en w' => en = .returned (.tuple #[.int .i64 r.why.1, .int .i64 (r.why.2 : Nat)]) ∧ Upd (fun k => k = g) w w' ∧ CrIn S w' g A c r := by
  have H := hid h
  have kb := h.blk
  have x0 := kb.cell 0
  have x1 := kb.cell 1
  have x2 := kb.cell 2
  have x3 := kb.cell 3
  have x4 := kb.cell 4
  simp only [List.getElem?_toArray, List.getElem?_cons_zero, List.getElem?_cons_succ] at x0 x1 x2 x3 x4
  have fz := fun q => kb.frozen q
  have hlt := kb.lt
  by_cases he : r.e = 0
  · have t1 : (r.e == 0) = true := by simpa using he
    have hf : Hid (r.why = (0, 0)) := hid (by unfold Rr.why; rw [if_pos he])
    clear h he kb
    go_enter Tryd.func22, Tryd.ntmps22
    go_wp2_with fail
    go_ret2
    rw [hf.out]
    exact ⟨rfl, Upd.refl _ _, H.out⟩
  · have t1 : (r.e == 0) = false := by simpa using he
    have hf : Hid (r.why = (r.e, r.spot)) := hid (by unfold Rr.why; rw [if_neg he])
    clear h he kb
    go_enter Tryd.func22, Tryd.ntmps22
    go_upto_region 3 with fail
    go_quiet (fail)
    go_wp2_with fail
    go_ret2
    rw [hf.out]
    exact ⟨rfl, (Upd.refl _ _).drewN _, H.out.drewN _⟩
set_option maxRecDepth 100000 in
theorem cRest_any {S : Nat → Prop} {w : World} {g : Nat} {A : Option Addr} {c : Nat} {r : Rr} (h : CrIn S w g A c r) : Calls Tryd.prog 23 #[.pointer (some ⟨g, 0, none⟩)] w fun en w' => en = .returned (.int .i64 (r.rest : Nat)) ∧ Upd (fun k => k = g) w w' ∧ CrIn S w' g A c r := by
  have H := hid h
  have kb := h.blk
  have x0 := kb.cell 0
  have x1 := kb.cell 1
  have x2 := kb.cell 2
  have x3 := kb.cell 3
  have x4 := kb.cell 4
  simp only [List.getElem?_toArray, List.getElem?_cons_zero, List.getElem?_cons_succ] at x0 x1 x2 x3 x4
  have fz := fun q => kb.frozen q
  have hlt := kb.lt
  by_cases he : r.e = 0
  · have t1 : (r.e != 0) = false := by simpa using he
    have hf : Hid (r.rest = r.b.length - r.at_) := hid (by unfold Rr.rest; rw [if_neg (by simp [he])])
    have f1 : IntKind.i64.wrap ((r.b.length : Int) - (r.at_ : Int)) = ((r.b.length - r.at_ : Nat) : Int) := by have := h.at_le; have := h.len; rw [IntKind.wrap_i64]; omega
    generalize hq : r.b.length - r.at_ = q at *
    clear h he kb hq
    go_enter Tryd.func23, Tryd.ntmps23
    go_upto_region 3 with fail
    go_quiet (fail)
    go_wp2_with fail
    go_ret
    rw [hf.out]
    exact ⟨rfl, (Upd.refl _ _).drewN _, H.out.drewN _⟩
  · have t1 : (r.e != 0) = true := by simpa using he
    have hf : Hid (r.rest = 0) := hid (by unfold Rr.rest; rw [if_pos he])
    clear h he kb
    go_enter Tryd.func23, Tryd.ntmps23
    go_wp2_with fail
    go_ret
    rw [hf.out]
    exact ⟨rfl, Upd.refl _ _, H.out⟩
set_option maxRecDepth 100000 in
set_option maxHeartbeats 1000000 in
theorem cNew_any (S : Nat → Prop) (A0 : Option Addr) (c0 : Nat) (bs : List Nat) (w : World) (ha : Rd S w 1 A0 bs.length (bcells bs)) (hl : bs.length ≤ 140737488351232) (hb : ∀ x ∈ bs, x < 256) :
    Calls Tryd.prog 18 #[.slice A0 bs.length c0] w fun e w' => ∃ g A c S', e = .returned (.pointer (some ⟨g, 0, none⟩)) ∧ Below w.heap.size w w' ∧ w.heap.size ≤ g ∧ (∀ k, S' k → w.heap.size ≤ k) ∧ CrIn S' w' g A c (Rr.new bs) := by
  have hcl := hid (cloneB_any S A0 bs c0 w ha (by omega))
  have hbl := hid hl
  have hbb := hid hb
  clear ha hl hb
  go_enter Tryd.func18, Tryd.ntmps18
  go_wp2_with fail
  refine hcl.out.mono ?_
  rintro e w2 ⟨v, rfl, hown0, hB20⟩
  obtain ⟨A, c, rfl, hcp0, _⟩ := own_form hown0
  have hcp : Hid (bs.length ≤ c) := hid (by omega)
  have hown2 := hid hown0
  have hB2 := hid hB20
  clear hown0 hB20 hcp0 hcl
  go_wp2_with fail
  go_ret
  have hrd := Rd.of_own hown2.out
  have hlt := fun k hk => hown2.out.lt k hk
  refine ⟨w2.heap.size, A, c, fun b => some b = (Value.slice A bs.length c).ownBlock, rfl, hB2.out.alloc hB2.out.size _, hB2.out.size, fun k hk => (hlt k hk.symm).1, ⟨Blk.new w2 78 _, hrd.alloc _, fun k hk => ?_, Nat.zero_le _, hbl.out, hbb.out, hcp.out⟩⟩
  have := (hlt k hk.symm).2
  omega

end Go.Proofs.YtbnpidmlcjofiaaDoor

namespace Go.Proofs.YtbnpidmlcjofiaaDoor
open Go.RowKit
set_option linter.unusedVariables false
set_option linter.unusedSimpArgs false

theorem Rr.why_e (r : Rr) : r.why.1 = r.e := by
  unfold Rr.why
  split
  · rename_i h; exact h.symm
  · rfl
set_option maxRecDepth 100000 in
set_option maxHeartbeats 1000000 in
theorem cTake_any {S : Nat → Prop} {w : World} {g : Nat} {A : Option Addr} {c : Nat} {r : Rr} (h : CrIn S w g A c r) : Calls Tryd.prog 20 #[.pointer (some ⟨g, 0, none⟩)] w fun e w' => e = .returned (.agg #[.int .i64 r.take.1.k, .int .i64 r.take.1.n, .string r.take.1.s]) ∧ Upd (fun k => k = g) w w' ∧ CrIn S w' g A c r.take.2 := by
  have hne := hid h.ne
  have hgb := hid h.blk.lt
  have hb := h.bound
  obtain ⟨W, hW⟩ : ∃ W, W = (w.alloc (.cells #[.int .i64 0, .int .i64 0, .string ⟨#[]⟩] 24)).alloc (.cells #[.int .i64 0, .int .i64 0, .string ⟨#[]⟩] 24) := ⟨_, rfl⟩
  have hB1 : Below w.heap.size w W := by subst hW; exact ((Below.refl _ _).alloc (Nat.le_refl _) _).alloc (by simp) _
  have htW : Hid (TK 78 (fun k => S k ∧ k < w.heap.size) w W g A c r (w.heap.size + 1) vl0 vl0) := hid ⟨hb.below_all hB1, fun k hk => hk.2, hgb.out, by subst hW; exact (Blk.new w _ _).alloc _, by subst hW; exact Blk.new' _ _ _ (by simp), Nat.lt_succ_self _, Upd.of_below' hB1 _⟩
  clear h hb hB1
  go_enter Tryd.func20, Tryd.ntmps20
  go_upto_region 2 with fail
  rw [← hW]
  clear hW
  obtain ⟨y, hy⟩ : ∃ y, y = w.heap.size + 1 := ⟨_, rfl⟩
  rw [← hy] at htW
  have hyh := hid hy
  simp only [← hy]
  clear hy
  go_wp2_with fail
  refine (cByte_any htW.out.rd).mono ?_
  rintro e w3 ⟨rfl, hu0, hr0⟩
  obtain ⟨q, r1, hq⟩ : ∃ q r1, r.byte = (q, r1) := ⟨_, _, rfl⟩
  have hbad := hid (show r1.e ≠ 0 → q = 0 from fun h => by have := Rr.byte_bad (r := r); rw [hq] at this; exact this h)
  rw [hq] at hr0
  simp only at hr0
  have ht3 := hid (htW.out.call hu0 hr0)
  have hq8 := hid hq
  rw [hq]
  simp only
  clear hq hu0 hr0 htW
  obtain ⟨e3, z0, z1, z2, y0, y1, y2, fz, fy, hlz, hly⟩ := ht3.out.cells
  have z0 : w3.cell? ⟨w.heap.size, 0, none⟩ = some (.int .i64 0) := z0
  have z1 : w3.cell? ⟨w.heap.size, 1, none⟩ = some (.int .i64 0) := z1
  have z2 : w3.cell? ⟨w.heap.size, 2, none⟩ = some (.string ⟨#[]⟩) := z2
  have y0 : w3.cell? ⟨y, 0, none⟩ = some (.int .i64 0) := y0
  have y1 : w3.cell? ⟨y, 1, none⟩ = some (.int .i64 0) := y1
  have y2 : w3.cell? ⟨y, 2, none⟩ = some (.string ⟨#[]⟩) := y2
  by_cases h0 : q = 0
  · have t1 : ((q : Int) == 1) = false := by simp [h0]
    have t2 : ((q : Int) == 2) = false := by simp [h0]
    have t3 : ¬ ((2 : Int) < (q : Int)) := by omega
    have h0h := hid h0
    clear h0
    go_wp2_with fail
    clear e3 z0 z1 z2 y0 y1 y2 fz fy hlz hly
    refine (cWhy_any ht3.out.rd).mono ?_
    rintro e w4 ⟨rfl, hu0, hr0⟩
    have ht4 := hid (ht3.out.call hu0 hr0)
    clear hu0 hr0
    obtain ⟨e3, z0, z1, z2, y0, y1, y2, fz, fy, hlz, hly⟩ := ht4.out.cells
    have z0 : w4.cell? ⟨w.heap.size, 0, none⟩ = some (.int .i64 0) := z0
    have z1 : w4.cell? ⟨w.heap.size, 1, none⟩ = some (.int .i64 0) := z1
    have z2 : w4.cell? ⟨w.heap.size, 2, none⟩ = some (.string ⟨#[]⟩) := z2
    have y0 : w4.cell? ⟨y, 0, none⟩ = some (.int .i64 0) := y0
    have y1 : w4.cell? ⟨y, 1, none⟩ = some (.int .i64 0) := y1
    have y2 : w4.cell? ⟨y, 2, none⟩ = some (.string ⟨#[]⟩) := y2
    obtain ⟨re, hre⟩ : ∃ re, re = (r1).why.1 := ⟨_, rfl⟩
    rw [← hre]
    rw [Rr.why_e] at hre
    by_cases hee : re = 0
    · have te : (re != 0) = false := by simpa [hre] using hee
      have hfin : Hid (r.take = (vl0, r1)) := hid (by rw [hre] at hee; unfold Rr.take; rw [hq8.out]; simp [h0h.out])
      clear hee hre
      go_wp2_with fail
      have hT := ht4.out.putZ vl0
      refine bodyPost_ret (v := .agg #[.int .i64 0, .int .i64 0, .string ⟨#[]⟩]) ?_ rfl ⟨by first | (rw [hfin.out]; done) | (rw [hfin.out]; rfl), hT.up, by rw [hfin.out]; exact hT.rd.unbound hne.out⟩
      exact results_cell_row (P := Tryd.prog) rfl _ _ w.heap.size 24 _ (0, 0) _ rfl hT.zv Tryd.underlying24 rfl (by kernel_rfl)
    · have te : (re != 0) = true := by simpa [hre] using hee
      have hfin : Hid (r.take = (vl0, r1)) := hid (by rw [hre] at hee; unfold Rr.take; rw [hq8.out]; simp [h0h.out])
      clear hee hre
      go_wp2_with fail
      have hT := ht4.out.putZ vl0
      refine bodyPost_ret (v := .agg #[.int .i64 0, .int .i64 0, .string ⟨#[]⟩]) ?_ rfl ⟨by first | (rw [hfin.out]; done) | (rw [hfin.out]; rfl), hT.up, by rw [hfin.out]; exact hT.rd.unbound hne.out⟩
      exact results_cell_row (P := Tryd.prog) rfl _ _ w.heap.size 24 _ (0, 0) _ rfl hT.zv Tryd.underlying24 rfl (by kernel_rfl)
  · by_cases h1 : q = 1
    · have t1 : ((q : Int) == 1) = true := by simp [h1]
      have h1h := hid h1
      clear h0 h1
      obtain ⟨n, r2, hi⟩ : ∃ n r2, r1.int = (n, r2) := ⟨_, _, rfl⟩
      have hih := hid hi
      go_wp2_with fail
      refine (cInt_any ht3.out.rd).mono ?_
      rw [hi]
      rintro e w4 ⟨rfl, hu0, hr0⟩
      have ht4 := hid (ht3.out.call hu0 hr0)
      clear e3 z0 z1 z2 y0 y1 y2 fz fy hlz hly
      clear hu0 hr0 hi
      go_wp2_with fail
      refine (of_any n w4).mono ?_
      rintro e w5 ⟨rfl, hb0⟩
      have ht5 := hid (ht4.out.below hb0)
      clear hb0
      obtain ⟨e3, z0, z1, z2, y0, y1, y2, fz, fy, hlz, hly⟩ := ht5.out.cells
      have z0 : w5.cell? ⟨w.heap.size, 0, none⟩ = some (.int .i64 0) := z0
      have z1 : w5.cell? ⟨w.heap.size, 1, none⟩ = some (.int .i64 0) := z1
      have z2 : w5.cell? ⟨w.heap.size, 2, none⟩ = some (.string ⟨#[]⟩) := z2
      have y0 : w5.cell? ⟨y, 0, none⟩ = some (.int .i64 0) := y0
      have y1 : w5.cell? ⟨y, 1, none⟩ = some (.int .i64 0) := y1
      have y2 : w5.cell? ⟨y, 2, none⟩ = some (.string ⟨#[]⟩) := y2
      go_upto_region 11 with fail
      have ht6 := hid (ht5.out.putY (⟨1, n, ⟨#[]⟩⟩ : Vl))
      generalize ((w5.setCell ⟨y, 0, none⟩ (.int .i64 1)).setCell ⟨y, 1, none⟩ (.int .i64 n)).setCell ⟨y, 2, none⟩ (.string ⟨#[]⟩) = w6 at *
      clear e3 z0 z1 z2 y0 y1 y2 fz fy hlz hly
      obtain ⟨e3, z0, z1, z2, y0, y1, y2, fz, fy, hlz, hly⟩ := ht6.out.cells
      have z0 : w6.cell? ⟨w.heap.size, 0, none⟩ = some (.int .i64 0) := z0
      have z1 : w6.cell? ⟨w.heap.size, 1, none⟩ = some (.int .i64 0) := z1
      have z2 : w6.cell? ⟨w.heap.size, 2, none⟩ = some (.string ⟨#[]⟩) := z2
      have y0 : w6.cell? ⟨y, 0, none⟩ = some (.int .i64 1) := y0
      have y1 : w6.cell? ⟨y, 1, none⟩ = some (.int .i64 n) := y1
      have y2 : w6.cell? ⟨y, 2, none⟩ = some (.string ⟨#[]⟩) := y2
      go_wp2_with fail
      clear e3 z0 z1 z2 y0 y1 y2 fz fy hlz hly
      refine (cWhy_any ht6.out.rd).mono ?_
      rintro e w7 ⟨rfl, hu0, hr0⟩
      have ht7 := hid (ht6.out.call hu0 hr0)
      clear hu0 hr0
      obtain ⟨e3, z0, z1, z2, y0, y1, y2, fz, fy, hlz, hly⟩ := ht7.out.cells
      have z0 : w7.cell? ⟨w.heap.size, 0, none⟩ = some (.int .i64 0) := z0
      have z1 : w7.cell? ⟨w.heap.size, 1, none⟩ = some (.int .i64 0) := z1
      have z2 : w7.cell? ⟨w.heap.size, 2, none⟩ = some (.string ⟨#[]⟩) := z2
      have y0 : w7.cell? ⟨y, 0, none⟩ = some (.int .i64 1) := y0
      have y1 : w7.cell? ⟨y, 1, none⟩ = some (.int .i64 n) := y1
      have y2 : w7.cell? ⟨y, 2, none⟩ = some (.string ⟨#[]⟩) := y2
      obtain ⟨re, hre⟩ : ∃ re, re = (r2).why.1 := ⟨_, rfl⟩
      rw [← hre]
      rw [Rr.why_e] at hre
      by_cases hee : re = 0
      · have te : (re != 0) = false := by simpa [hre] using hee
        have hfin : Hid (r.take = ((⟨1, n, ⟨#[]⟩⟩ : Vl), r2)) := hid (by rw [hre] at hee; unfold Rr.take; rw [hq8.out]; simp [h1h.out, hih.out, hee])
        clear hee hre
        go_wp2_with fail
        have hT := ht7.out.putZ (⟨1, n, ⟨#[]⟩⟩ : Vl)
        refine bodyPost_ret (v := .agg #[.int .i64 1, .int .i64 n, .string ⟨#[]⟩]) ?_ rfl ⟨by first | (rw [hfin.out]; done) | (rw [hfin.out]; rfl), hT.up, by rw [hfin.out]; exact hT.rd.unbound hne.out⟩
        exact results_cell_row (P := Tryd.prog) rfl _ _ w.heap.size 24 _ (0, 0) _ rfl hT.zv Tryd.underlying24 rfl (by kernel_rfl)
      · have te : (re != 0) = true := by simpa [hre] using hee
        have hfin : Hid (r.take = (vl0, r2)) := hid (by rw [hre] at hee; unfold Rr.take; rw [hq8.out]; simp [h1h.out, hih.out, hee])
        clear hee hre
        go_wp2_with fail
        have hT := ht7.out.putZ vl0
        refine bodyPost_ret (v := .agg #[.int .i64 0, .int .i64 0, .string ⟨#[]⟩]) ?_ rfl ⟨by first | (rw [hfin.out]; done) | (rw [hfin.out]; rfl), hT.up, by rw [hfin.out]; exact hT.rd.unbound hne.out⟩
        exact results_cell_row (P := Tryd.prog) rfl _ _ w.heap.size 24 _ (0, 0) _ rfl hT.zv Tryd.underlying24 rfl (by kernel_rfl)
    · have t1 : ((q : Int) == 1) = false := by simp; omega
      by_cases h2 : q = 2
      · have t2 : ((q : Int) == 2) = true := by simp [h2]
        have h2h := hid h2
        clear h0 h1 h2
        obtain ⟨s, r2, hi⟩ : ∃ s r2, r1.text 64 = (s, r2) := ⟨_, _, rfl⟩
        have hih := hid hi
        have hsz : Hid (s.size ≤ 64) := hid (by have := r1.text_le 64; rw [show ((64 : Nat) : Int) = 64 from rfl, hi] at this; exact this)
        have hsb : Hid (r2.e ≠ 0 → s = ⟨#[]⟩) := hid (fun h => by have := Rr.text_bad (r := r1) (most := 64); rw [hi] at this; exact this h)
        go_wp2_with fail
        refine (cText_any ht3.out.rd 64 (by decide)).mono ?_
        rw [hi]
        rintro e w4 ⟨rfl, hu0, hr0⟩
        have ht4 := hid (ht3.out.call hu0 hr0)
        clear e3 z0 z1 z2 y0 y1 y2 fz fy hlz hly
        clear hu0 hr0 hi
        go_wp2_with fail
        refine (word2_any s w4).mono ?_
        rintro e w5 ⟨rfl, hb0⟩
        have ht5 := hid (ht4.out.below hb0)
        clear hb0
        obtain ⟨e3, z0, z1, z2, y0, y1, y2, fz, fy, hlz, hly⟩ := ht5.out.cells
        have z0 : w5.cell? ⟨w.heap.size, 0, none⟩ = some (.int .i64 0) := z0
        have z1 : w5.cell? ⟨w.heap.size, 1, none⟩ = some (.int .i64 0) := z1
        have z2 : w5.cell? ⟨w.heap.size, 2, none⟩ = some (.string ⟨#[]⟩) := z2
        have y0 : w5.cell? ⟨y, 0, none⟩ = some (.int .i64 0) := y0
        have y1 : w5.cell? ⟨y, 1, none⟩ = some (.int .i64 0) := y1
        have y2 : w5.cell? ⟨y, 2, none⟩ = some (.string ⟨#[]⟩) := y2
        go_upto_region 7 with fail
        have ht6 := hid (ht5.out.putY (⟨2, 0, s⟩ : Vl))
        generalize ((w5.setCell ⟨y, 0, none⟩ (.int .i64 2)).setCell ⟨y, 1, none⟩ (.int .i64 0)).setCell ⟨y, 2, none⟩ (.string s) = w6 at *
        clear e3 z0 z1 z2 y0 y1 y2 fz fy hlz hly
        obtain ⟨e3, z0, z1, z2, y0, y1, y2, fz, fy, hlz, hly⟩ := ht6.out.cells
        have z0 : w6.cell? ⟨w.heap.size, 0, none⟩ = some (.int .i64 0) := z0
        have z1 : w6.cell? ⟨w.heap.size, 1, none⟩ = some (.int .i64 0) := z1
        have z2 : w6.cell? ⟨w.heap.size, 2, none⟩ = some (.string ⟨#[]⟩) := z2
        have y0 : w6.cell? ⟨y, 0, none⟩ = some (.int .i64 2) := y0
        have y1 : w6.cell? ⟨y, 1, none⟩ = some (.int .i64 0) := y1
        have y2 : w6.cell? ⟨y, 2, none⟩ = some (.string s) := y2
        have hpr := hid (printable_any s w6 (by have := hsz.out; omega))
        go_wp2_with fail
        refine hpr.out.mono ?_
        rintro e w7 ⟨rfl, rfl⟩
        by_cases hk : okT s = true
        · have hkh := hid hk
          rw [hk]
          clear hk hpr
          go_wp2_with fail
          clear e3 z0 z1 z2 y0 y1 y2 fz fy hlz hly
          refine (cWhy_any ht6.out.rd).mono ?_
          rintro e w9 ⟨rfl, hu0, hr0⟩
          have ht9 := hid (ht6.out.call hu0 hr0)
          clear hu0 hr0
          obtain ⟨e3, z0, z1, z2, y0, y1, y2, fz, fy, hlz, hly⟩ := ht9.out.cells
          have z0 : w9.cell? ⟨w.heap.size, 0, none⟩ = some (.int .i64 0) := z0
          have z1 : w9.cell? ⟨w.heap.size, 1, none⟩ = some (.int .i64 0) := z1
          have z2 : w9.cell? ⟨w.heap.size, 2, none⟩ = some (.string ⟨#[]⟩) := z2
          have y0 : w9.cell? ⟨y, 0, none⟩ = some (.int .i64 2) := y0
          have y1 : w9.cell? ⟨y, 1, none⟩ = some (.int .i64 0) := y1
          have y2 : w9.cell? ⟨y, 2, none⟩ = some (.string s) := y2
          obtain ⟨re, hre⟩ : ∃ re, re = (r2).why.1 := ⟨_, rfl⟩
          rw [← hre]
          rw [Rr.why_e] at hre
          by_cases hee : re = 0
          · have te : (re != 0) = false := by simpa [hre] using hee
            have hfin : Hid (r.take = ((⟨2, 0, s⟩ : Vl), r2)) := hid (by rw [hre] at hee; unfold Rr.take; rw [hq8.out]; simp [h2h.out, hih.out, hkh.out, hee])
            clear hee hre
            go_wp2_with fail
            have hT := ht9.out.putZ (⟨2, 0, s⟩ : Vl)
            refine bodyPost_ret (v := .agg #[.int .i64 2, .int .i64 0, .string s]) ?_ rfl ⟨by first | (rw [hfin.out]; done) | (rw [hfin.out]; rfl), hT.up, by rw [hfin.out]; exact hT.rd.unbound hne.out⟩
            exact results_cell_row (P := Tryd.prog) rfl _ _ w.heap.size 24 _ (0, 0) _ rfl hT.zv Tryd.underlying24 rfl (by kernel_rfl)
          · have te : (re != 0) = true := by simpa [hre] using hee
            have hfin : Hid (r.take = (vl0, r2)) := hid (by rw [hre] at hee; unfold Rr.take; rw [hq8.out]; simp [h2h.out, hih.out, hkh.out, hee])
            clear hee hre
            go_wp2_with fail
            have hT := ht9.out.putZ vl0
            refine bodyPost_ret (v := .agg #[.int .i64 0, .int .i64 0, .string ⟨#[]⟩]) ?_ rfl ⟨by first | (rw [hfin.out]; done) | (rw [hfin.out]; rfl), hT.up, by rw [hfin.out]; exact hT.rd.unbound hne.out⟩
            exact results_cell_row (P := Tryd.prog) rfl _ _ w.heap.size 24 _ (0, 0) _ rfl hT.zv Tryd.underlying24 rfl (by kernel_rfl)
        · have hk0 : okT s = false := by simpa using hk
          have hkh := hid hk0
          rw [hk0]
          clear hk hk0 hpr
          go_wp2_with fail
          refine (cFail_any ht6.out.rd 20).mono ?_
          rintro e w8 ⟨rfl, hu0, hr0⟩
          have ht8 := hid (ht6.out.call hu0 hr0)
          clear hu0 hr0
          clear e3 z0 z1 z2 y0 y1 y2 fz fy hlz hly
          go_wp2_with fail
          refine (cWhy_any ht8.out.rd).mono ?_
          rintro e w9 ⟨rfl, hu0, hr0⟩
          have ht9 := hid (ht8.out.call hu0 hr0)
          clear hu0 hr0
          obtain ⟨e3, z0, z1, z2, y0, y1, y2, fz, fy, hlz, hly⟩ := ht9.out.cells
          have z0 : w9.cell? ⟨w.heap.size, 0, none⟩ = some (.int .i64 0) := z0
          have z1 : w9.cell? ⟨w.heap.size, 1, none⟩ = some (.int .i64 0) := z1
          have z2 : w9.cell? ⟨w.heap.size, 2, none⟩ = some (.string ⟨#[]⟩) := z2
          have y0 : w9.cell? ⟨y, 0, none⟩ = some (.int .i64 2) := y0
          have y1 : w9.cell? ⟨y, 1, none⟩ = some (.int .i64 0) := y1
          have y2 : w9.cell? ⟨y, 2, none⟩ = some (.string s) := y2
          obtain ⟨re, hre⟩ : ∃ re, re = ((r2.fail 20)).why.1 := ⟨_, rfl⟩
          rw [← hre]
          rw [Rr.why_e] at hre
          by_cases hee : re = 0
          · have te : (re != 0) = false := by simpa [hre] using hee
            have hfin : Hid (r.take = ((⟨2, 0, s⟩ : Vl), (r2.fail 20))) := hid (by rw [hre] at hee; exfalso; have h5 := hsb.out; have h6 := hkh.out; unfold Rr.fail at hee; by_cases h7 : r2.e = 0; (rw [if_pos ⟨h7, by decide⟩] at hee; simp at hee); rw [h5 h7] at h6; exact absurd h6 (by decide))
            clear hee hre
            go_wp2_with fail
            have hT := ht9.out.putZ (⟨2, 0, s⟩ : Vl)
            refine bodyPost_ret (v := .agg #[.int .i64 2, .int .i64 0, .string s]) ?_ rfl ⟨by first | (rw [hfin.out]; done) | (rw [hfin.out]; rfl), hT.up, by rw [hfin.out]; exact hT.rd.unbound hne.out⟩
            exact results_cell_row (P := Tryd.prog) rfl _ _ w.heap.size 24 _ (0, 0) _ rfl hT.zv Tryd.underlying24 rfl (by kernel_rfl)
          · have te : (re != 0) = true := by simpa [hre] using hee
            have hfin : Hid (r.take = (vl0, (r2.fail 20))) := hid (by rw [hre] at hee; unfold Rr.take; rw [hq8.out]; simp [h2h.out, hih.out, hkh.out])
            clear hee hre
            go_wp2_with fail
            have hT := ht9.out.putZ vl0
            refine bodyPost_ret (v := .agg #[.int .i64 0, .int .i64 0, .string ⟨#[]⟩]) ?_ rfl ⟨by first | (rw [hfin.out]; done) | (rw [hfin.out]; rfl), hT.up, by rw [hfin.out]; exact hT.rd.unbound hne.out⟩
            exact results_cell_row (P := Tryd.prog) rfl _ _ w.heap.size 24 _ (0, 0) _ rfl hT.zv Tryd.underlying24 rfl (by kernel_rfl)
      · have t2 : ((q : Int) == 2) = false := by simp; omega
        have t3 : (2 : Int) < (q : Int) := by omega
        have hqn : Hid (q ≠ 0 ∧ q ≠ 1 ∧ q ≠ 2) := hid ⟨h0, h1, h2⟩
        clear h0 h1 h2
        go_wp2_with fail
        refine (cFail_any ht3.out.rd 20).mono ?_
        rintro e w4 ⟨rfl, hu0, hr0⟩
        have ht4 := hid (ht3.out.call hu0 hr0)
        clear hu0 hr0
        clear e3 z0 z1 z2 y0 y1 y2 fz fy hlz hly
        go_wp2_with fail
        refine (cWhy_any ht4.out.rd).mono ?_
        rintro e w5 ⟨rfl, hu0, hr0⟩
        have ht5 := hid (ht4.out.call hu0 hr0)
        clear hu0 hr0
        obtain ⟨e3, z0, z1, z2, y0, y1, y2, fz, fy, hlz, hly⟩ := ht5.out.cells
        have z0 : w5.cell? ⟨w.heap.size, 0, none⟩ = some (.int .i64 0) := z0
        have z1 : w5.cell? ⟨w.heap.size, 1, none⟩ = some (.int .i64 0) := z1
        have z2 : w5.cell? ⟨w.heap.size, 2, none⟩ = some (.string ⟨#[]⟩) := z2
        have y0 : w5.cell? ⟨y, 0, none⟩ = some (.int .i64 0) := y0
        have y1 : w5.cell? ⟨y, 1, none⟩ = some (.int .i64 0) := y1
        have y2 : w5.cell? ⟨y, 2, none⟩ = some (.string ⟨#[]⟩) := y2
        obtain ⟨re, hre⟩ : ∃ re, re = ((r1.fail 20)).why.1 := ⟨_, rfl⟩
        rw [← hre]
        rw [Rr.why_e] at hre
        by_cases hee : re = 0
        · have te : (re != 0) = false := by simpa [hre] using hee
          have hfin : Hid (r.take = (vl0, (r1.fail 20))) := hid (by rw [hre] at hee; exfalso; have h5 := hqn.out; have h6 := hbad.out; unfold Rr.fail at hee; by_cases h7 : r1.e = 0; (rw [if_pos ⟨h7, by decide⟩] at hee; simp at hee); exact absurd (h6 h7) h5.1)
          clear hee hre
          go_wp2_with fail
          have hT := ht5.out.putZ vl0
          refine bodyPost_ret (v := .agg #[.int .i64 0, .int .i64 0, .string ⟨#[]⟩]) ?_ rfl ⟨by first | (rw [hfin.out]; done) | (rw [hfin.out]; rfl), hT.up, by rw [hfin.out]; exact hT.rd.unbound hne.out⟩
          exact results_cell_row (P := Tryd.prog) rfl _ _ w.heap.size 24 _ (0, 0) _ rfl hT.zv Tryd.underlying24 rfl (by kernel_rfl)
        · have te : (re != 0) = true := by simpa [hre] using hee
          have hfin : Hid (r.take = (vl0, (r1.fail 20))) := hid (by rw [hre] at hee; have h5 := hqn.out; unfold Rr.take; rw [hq8.out]; simp [h5.1, h5.2.1, h5.2.2])
          clear hee hre
          go_wp2_with fail
          have hT := ht5.out.putZ vl0
          refine bodyPost_ret (v := .agg #[.int .i64 0, .int .i64 0, .string ⟨#[]⟩]) ?_ rfl ⟨by first | (rw [hfin.out]; done) | (rw [hfin.out]; rfl), hT.up, by rw [hfin.out]; exact hT.rd.unbound hne.out⟩
          exact results_cell_row (P := Tryd.prog) rfl _ _ w.heap.size 24 _ (0, 0) _ rfl hT.zv Tryd.underlying24 rfl (by kernel_rfl)

end Go.Proofs.YtbnpidmlcjofiaaDoor

namespace Go.Proofs.YtbnpidmlcjofiaaDoor
open Go.RowKit
set_option linter.unusedVariables false
set_option linter.unusedSimpArgs false

def abV : Vl := ⟨2, 0, ⟨#[97, 98]⟩⟩
theorem ab_put : vput abV = [2, 2, 97, 98] := by decide +kernel
theorem ab_take : (Rr.new [2, 2, 97, 98]).take.1 = abV := by decide +kernel
theorem seven_lit : printL (intV (-7)) = [45, 55] := by
  unfold printL litL intV
  rw [if_pos (by decide), if_pos rfl]
  simp only
  unfold Lib.itoa
  rw [if_pos (by decide)]
  show 45 :: Lib.decDigits 7 = [45, 55]
  rw [Lib.decDigits_one (by decide)]
  rfl
theorem seven_e : printE (intV (-7)) = 0 := by decide
theorem a_parse : parseL [34, 97, 34] = ⟨⟨2, 0, ⟨#[97]⟩⟩, 0, 0⟩ := by decide +kernel
theorem five_parse : parseL [48, 53] = ⟨vl0, 21, 1⟩ := by decide +kernel
theorem num_any (n : Int) (w : World) : Calls Tryd.prog 17 #[.int .i64 n] w fun e w' => e = .returned (.int .i64 n) ∧ w' = w := by
  go_enter Tryd.func17, Tryd.ntmps17
  go_wp2_with fail
  go_ret
  exact ⟨rfl, rfl⟩
theorem lv_put (w : World) : Calls Tryd.prog 11 #[.slice none 0 0, .agg #[.int .i64 2, .int .i64 0, .string ⟨#[97, 98]⟩]] w fun e w' => ∃ A c, e = .returned (.slice A 4 c) ∧ Rd (fun _ => True) w' 1 A 4 (bcells [2, 2, 97, 98]) ∧ Below w.heap.size w w' := by
  have h := vput_any (fun _ => True) none 0 [] abV w Rd.nil_ (by decide) (by decide) (by decide) (by decide)
  refine h.mono ?_
  rintro e w' ⟨v, rfl, hown, hb⟩
  rw [List.nil_append, ab_put] at hown
  obtain ⟨A, c, rfl, _⟩ := own_form hown
  exact ⟨A, c, rfl, (Rd.of_own hown).more fun _ _ _ => trivial, hb⟩
theorem lv_new {A : Option Addr} {c : Nat} {w : World} (h : Rd (fun _ => True) w 1 A 4 (bcells [2, 2, 97, 98])) : Calls Tryd.prog 18 #[.slice A 4 c] w fun e w' => ∃ g B c' S', e = .returned (.pointer (some ⟨g, 0, none⟩)) ∧ Below w.heap.size w w' ∧ w.heap.size ≤ g ∧ (∀ k, S' k → w.heap.size ≤ k ∧ k < w'.heap.size) ∧ CrIn S' w' g B c' (Rr.new [2, 2, 97, 98]) := by
  refine (cNew_any (fun _ => True) A c [2, 2, 97, 98] w h (by decide) (by decide)).mono ?_
  rintro e w' ⟨g, B, c', S', rfl, hb, hg, hS, hr⟩
  exact ⟨g, B, c', _, rfl, hb, hg, fun k hk => ⟨hS k hk.1, hk.2⟩, hr.bound⟩
theorem lv_print (w : World) (he : Env w) : Calls Tryd.prog 26 #[.agg #[.int .i64 1, .int .i64 (-7), .string ⟨#[]⟩]] w fun e w' => e = .returned (.tuple #[.string ⟨#[45, 55]⟩, .int .i64 0]) ∧ Below w.heap.size w w' := by
  have h := print_any (intV (-7)) w (by decide) ⟨by decide, by decide⟩ he
  unfold PrOut at h
  rw [seven_lit, seven_e] at h
  exact h
theorem lv_parse1 (w : World) (he : Env w) : Calls Tryd.prog 15 #[.string ⟨#[34, 97, 34]⟩] w fun e w' => e = .returned (.tuple #[.agg #[.int .i64 2, .int .i64 0, .string ⟨#[97]⟩], .int .i64 0, .int .i64 0]) ∧ Below w.heap.size w w' := by
  have h := parse_any ⟨#[34, 97, 34]⟩ w (by decide) he
  unfold PzOut at h
  rw [show (⟨#[34, 97, 34]⟩ : ByteArray).data.toList = [34, 97, 34] from rfl, a_parse] at h
  exact h
theorem lv_parse2 (w : World) (he : Env w) : Calls Tryd.prog 15 #[.string ⟨#[48, 53]⟩] w fun e w' => e = .returned (.tuple #[.agg #[.int .i64 0, .int .i64 0, .string ⟨#[]⟩], .int .i64 21, .int .i64 1]) ∧ Below w.heap.size w w' := by
  have h := parse_any ⟨#[48, 53]⟩ w (by decide) he
  unfold PzOut at h
  rw [show (⟨#[48, 53]⟩ : ByteArray).data.toList = [48, 53] from rfl, five_parse] at h
  exact h
theorem lv_take {S : Nat → Prop} {w : World} {g : Nat} {A : Option Addr} {c : Nat} (h : CrIn S w g A c (Rr.new [2, 2, 97, 98])) : Calls Tryd.prog 20 #[.pointer (some ⟨g, 0, none⟩)] w fun e w' => e = .returned (.agg #[.int .i64 2, .int .i64 0, .string ⟨#[97, 98]⟩]) ∧ Upd (fun k => k = g) w w' := by
  refine (cTake_any h).mono ?_
  rintro e w' ⟨rfl, hu, _⟩
  rw [ab_take]
  exact ⟨rfl, hu⟩
set_option maxRecDepth 100000 in
set_option maxHeartbeats 4000000 in
theorem live_any (w : World) (he : Env w) : Calls Tryd.prog 14 #[] w fun e w' => e = .returned (.bool true) ∧ Below w.heap.size w w' := by
  have he0 := hid he
  clear he
  go_enter Tryd.func14, Tryd.ntmps14
  go_wp2_with fail
  refine (word2_any _ _).mono ?_
  rintro e w1 ⟨rfl, hb10⟩
  have hb1 := hid hb10
  clear hb10
  go_wp2_with fail
  refine (lv_put w1).mono ?_
  rintro e w2 ⟨A, c, rfl, hr0, hb20⟩
  have hr := hid hr0; have hb2 := hid (hb1.out.trans (hb20.mono hb1.out.size))
  clear hr0 hb20 hb1
  go_wp2_with fail
  refine (lv_new (c := c) hr.out).mono ?_
  rintro e w3 ⟨g, B, c', S, rfl, hb30, hg0, hS0, hcr0⟩
  have hcr := hid hcr0; have hb3 := hid (hb2.out.trans (hb30.mono hb2.out.size))
  have hgg : Hid (w.heap.size ≤ g) := hid (Nat.le_trans hb2.out.size hg0)
  clear hb30 hg0 hS0 hcr0 hr hb2
  go_wp2_with fail
  refine (of_any _ _).mono ?_
  rintro e w4 ⟨rfl, hb40⟩
  have hb4 := hid (hb3.out.trans (hb40.mono hb3.out.size))
  have hcr4 := hid (hcr.out.below_all hb40)
  have he4 := hid (he0.out.below hb4.out)
  clear hb40 hb3 hcr
  go_wp2_with fail
  refine (lv_print w4 he4.out).mono ?_
  rintro e w5 ⟨rfl, hb50⟩
  have hb5 := hid (hb4.out.trans (hb50.mono hb4.out.size))
  have hcr5 := hid (hcr4.out.below_all hb50)
  have he5 := hid (he0.out.below hb5.out)
  clear hb50 hb4 hcr4 he4
  go_wp2_with fail
  refine (lv_parse1 w5 he5.out).mono ?_
  rintro e w6 ⟨rfl, hb60⟩
  have hb6 := hid (hb5.out.trans (hb60.mono hb5.out.size))
  have hcr6 := hid (hcr5.out.below_all hb60)
  clear hb60 hb5 hcr5 he5
  go_upto_region 4 with fail
  have kv7 := hid (Blk.new w6 24 #[.int .i64 2, .int .i64 0, .string ⟨#[97]⟩])
  have hB7 : Below w6.heap.size w6 (w6.alloc (.cells #[.int .i64 2, .int .i64 0, .string ⟨#[97]⟩] 24)) := (Below.refl _ _).alloc (Nat.le_refl _) _
  have hb7 := hid (hb6.out.trans (hB7.mono hb6.out.size))
  have hcr7 := hid (hcr6.out.below_all hB7)
  have he7 := hid (he0.out.below hb7.out)
  obtain ⟨p, hp⟩ : ∃ p, p = w6.heap.size := ⟨_, rfl⟩
  have hpg : Hid (g ≠ p) := hid (by have := hcr6.out.blk.lt; omega)
  rw [← hp] at kv7
  generalize w6.alloc (.cells #[.int .i64 2, .int .i64 0, .string ⟨#[97]⟩] 24) = w7 at *
  clear hB7 hb6 hcr6
  go_wp2_with fail
  rw [← hp]
  clear hp
  refine (lv_parse2 w7 he7.out).mono ?_
  rintro e w8 ⟨rfl, hb80⟩
  have hb8 := hid (hb7.out.trans (hb80.mono hb7.out.size))
  have hcr8 := hid (hcr7.out.below_all hb80)
  have kv8 := hid (kv7.out.below_all hb80)
  clear hb80 hb7 hcr7 he7 kv7
  go_upto_region 5 with fail
  have hB9 : Below w8.heap.size w8 (w8.alloc (.cells #[.int .i64 0, .int .i64 0, .string ⟨#[]⟩] 24)) := (Below.refl _ _).alloc (Nat.le_refl _) _
  have hb9 := hid (hb8.out.trans (hB9.mono hb8.out.size))
  have hcr9 := hid (hcr8.out.below_all hB9)
  have kv9 := hid (kv8.out.below_all hB9)
  generalize w8.alloc (.cells #[.int .i64 0, .int .i64 0, .string ⟨#[]⟩] 24) = w9 at *
  clear hB9 hb8 hcr8 kv8
  go_wp2_with fail
  refine (lv_take hcr9.out).mono ?_
  rintro e w10 ⟨rfl, hu0⟩
  have kv10 := hid (kv9.out.upd hu0 hpg.out.symm)
  have hb10 : Hid (Below w.heap.size w w10) := hid (hb9.out.trans (hu0.below (B := w.heap.size) hb9.out.size fun k hk e => by have := hgg.out; omega))
  clear hu0 hcr9 kv9 hb9
  have x0 : w10.cell? ⟨p, 0, none⟩ = some (.int .i64 2) := kv10.out.cell 0
  have x1 : w10.cell? ⟨p, 1, none⟩ = some (.int .i64 0) := kv10.out.cell 1
  have x2 : w10.cell? ⟨p, 2, none⟩ = some (.string ⟨#[97]⟩) := kv10.out.cell 2
  have heq1 := fun w => eql_vals ⟨2, 0, ⟨#[97, 98]⟩⟩ ⟨2, 0, ⟨#[97, 98]⟩⟩ w
  have heq2 := fun w => eql_vals ⟨2, 0, ⟨#[97]⟩⟩ ⟨2, 0, ⟨#[97]⟩⟩ w
  simp only [decide_true] at heq1 heq2
  have hgd := guardVal
  go_wp2_with (go_at_call 17; refine (num_any _ _).mono ?_; rintro e wq ⟨rfl, hwq⟩; obtain rfl := hwq.symm)
  go_ret
  exact ⟨rfl, hb10.out⟩
end Go.Proofs.YtbnpidmlcjofiaaDoor

namespace Go.Proofs.YtbnpidmlcjofiaaDoor
open Go.RowKit Go.ChangeShapes
set_option linter.unusedVariables false
set_option linter.unusedSimpArgs false
set_option maxRecDepth 100000

def lst : List (String × DataW Unit) := [("math/bits.deBruijn32tab", Rows.laid_math_bits_deBruijn32tab), ("math/bits.deBruijn64tab", Rows.laid_math_bits_deBruijn64tab), ("internal/strconv.uint64pow10", Rows.laid_internal_strconv_uint64pow10), ("strconv.ErrRange", Rows.laid_strconv_ErrRange), ("strconv.ErrSyntax", Rows.laid_strconv_ErrSyntax)]
theorem ty_pow : (Tryd.prog.globals[1]?).map (·.type) = some 127 := by kernel_rfl
theorem ty_rng : (Tryd.prog.globals[3]?).map (·.type) = some 95 := by kernel_rfl
theorem co_pow : Tryd.prog.cellsOf 127 = 20 := by kernel_rfl
theorem co_u64 : Tryd.prog.cellsOf 91 = 1 := by kernel_rfl
theorem co_es : Tryd.prog.cellsOf 140 = 1 := by kernel_rfl
theorem co_st : Tryd.prog.cellsOf 9 = 1 := by kernel_rfl
theorem star : "*" ++ "errors.errorString" = "*errors.errorString" := by decide
theorem row_es (u : TypeId) (h : Tryd.prog.typeName? 3 u = some "*errors.errorString") : u = 138 :=
  typeName_ptr_named (nm := "errors.errorString") (by rw [star]; kernel_rfl) (by kernel_rfl) (by decide) u (by rw [star]; exact h)
theorem pow_data : (Rows.laid_internal_strconv_uint64pow10 : DataW Unit) = Lib.tabData .u64 Lib.pow10Tab := by kernel_rfl
theorem env_of_laid {W : World} (h : laidMet Tryd.prog lst W) : Env W := by
  have h3 : laidMet Tryd.prog (("internal/strconv.uint64pow10", Lib.tabData .u64 Lib.pow10Tab) :: ("strconv.ErrRange", Rows.laid_strconv_ErrRange) :: [("strconv.ErrSyntax", Rows.laid_strconv_ErrSyntax)]) W := by
    have := h.tail.tail
    rw [pow_data] at this
    exact this
  obtain ⟨a, s, hv, _⟩ := laid_sentinel h3.tail gRng ty_rng Tryd.underlying95 row_es Tryd.underlying138 Tryd.underlying140 rfl rfl Tryd.underlying9 co_es co_st
  refine ⟨Lib.tabIs_of_head gPow ty_pow Tryd.underlying127 Tryd.underlying91 co_u64 co_pow h3, ⟨_, _, hv⟩, ?_⟩
  obtain ⟨ps, ⟨g', t', cs, fuel, p, q, hg', ht', hvar, _⟩, _⟩ := h.tail
  have e : Tryd.prog.globalNamed "math/bits.deBruijn64tab" = some 5 := by kernel_rfl
  unfold World.var? at hvar
  rw [e] at hvar
  simp only [Option.bind_some] at hvar
  have : ∃ o, W.heap[5]? = some o := by
    cases ho : W.heap[5]? with
    | none => rw [ho] at hvar; cases hvar
    | some o => exact ⟨o, rfl⟩
  obtain ⟨o, ho⟩ := this
  have := (Array.getElem?_eq_some_iff.1 ho).1
  omega
/-- so many blocks has the settled world -/
noncomputable def low : Nat := (World.holding Tryd.prog default ⟨#[], #[], []⟩).heap.size
def u8s (l : List Int) : Array Value := (l.map fun n => Value.int .u8 n).toArray
noncomputable def laidWorld (os : Os) : World :=
  let w0 := World.holding Tryd.prog os ⟨#[.cells #[.string ⟨#[118, 97, 108, 117, 101, 32, 111, 117, 116, 32, 111, 102, 32, 114, 97, 110, 103, 101]⟩] 140, .cells #[.string ⟨#[105, 110, 118, 97, 108, 105, 100, 32, 115, 121, 110, 116, 97, 120]⟩] 140], #[], []⟩
  { w0 with heap := ((((w0.heap.modify 3 fun
      | .cells _ t frozen => .cells #[.iface 138 (.pointer (some ⟨low, 0, none⟩))] t frozen
      | o => o).modify 2 fun
      | .cells _ t frozen => .cells #[.iface 138 (.pointer (some ⟨low + 1, 0, none⟩))] t frozen
      | o => o).modify 1 fun
      | .cells _ t frozen => .cells (Lib.pow10Tab.map fun z => Value.int .u64 z).toArray t frozen
      | o => o).modify 4 fun
      | .cells _ t frozen => .cells (u8s [0, 1, 28, 2, 29, 14, 24, 3, 30, 22, 20, 15, 25, 17, 4, 8, 31, 27, 13, 23, 21, 19, 16, 7, 26, 12, 18, 6, 11, 5, 10, 9]) t frozen
      | o => o).modify 5 fun
      | .cells _ t frozen => .cells (u8s [0, 1, 56, 2, 57, 49, 28, 3, 61, 58, 42, 50, 38, 29, 17, 4, 62, 47, 59, 36, 45, 43, 51, 22, 53, 39, 33, 30, 24, 18, 12, 5, 63, 55, 48, 27, 60, 41, 37, 16, 46, 35, 44, 21, 52, 32, 23, 11, 54, 26, 40, 15, 34, 20, 31, 10, 25, 14, 19, 9, 13, 8, 7, 6]) t frozen
      | o => o }
theorem laid_met (os : Os) (args : Array Value) : laidMet Tryd.prog lst ((laidWorld os).forCall (fun _ _ => 0) ⟨#[], args, []⟩).memory :=
  laidMet_of_run' 8 (by kernel_rfl) (by kernel_rfl)
end Go.Proofs.YtbnpidmlcjofiaaDoor


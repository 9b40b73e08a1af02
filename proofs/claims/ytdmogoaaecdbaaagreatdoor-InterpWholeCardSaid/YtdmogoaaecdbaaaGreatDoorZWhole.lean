/- InterpWhole: the walk. -/
import Derived.Test.YtdmogoaaecdbaaaGreatDoorZJb
import Derived.Test.YtdmogoaaecdbaaaGreatDoorZWholeP
import Derived.Test.YtdmogoaaecdbaaaGreatDoorZLocks
namespace Go.Proofs.YtdmogoaaecdbaaaGreatDoor
open Go.RowKit
set_option linter.unusedVariables false
set_option linter.unusedSimpArgs false

section
variable {w : World} {Ac Ai Aa Al : Option Addr} {cc ci ca cl : Nat} {p : Pr} {args : List Vl} {src : List Kv} {f : Int}
set_option maxRecDepth 100000 in
set_option maxHeartbeats 4000000 in
theorem wholeI_any (hj0 : JbArg w Ac Ai Aa Al p args src) (he0 : Env w) : Calls Tryz.prog 7 #[.agg #[.int .i64 p.args, .slice Ac p.cs.length cc, .slice Ai p.code.length ci, .slice Aa args.length ca, .slice Al src.length cl, .int .i64 f]] w fun e w' => e = .returned (.bool true) ∧ Below w.heap.size w w' := by
  have he := hid he0
  have hj := hid hj0
  have hB0 : Below w.heap.size w (w.alloc (.cells #[.int .i64 p.args, .slice Ac p.cs.length cc, .slice Ai p.code.length ci, .slice Aa args.length ca, .slice Al src.length cl, .int .i64 f] 36)) := (Below.refl _ _).alloc (Nat.le_refl _) _
  have kj := hid (Blk.new w 36 #[.int .i64 p.args, .slice Ac p.cs.length cc, .slice Ai p.code.length ci, .slice Aa args.length ca, .slice Al src.length cl, .int .i64 f])
  have hB := hid hB0
  have hlg := hid (fun W => longI_any (w := W) (p := p) (args := args) (src := src) (f := f) (Ac := Ac) (cc := cc) (Ai := Ai) (ci := ci) (Aa := Aa) (ca := ca) (Al := Al) (cl := cl) ⟨hj0.p.n.2, hj0.p.n.1, hj0.n.1, hj0.n.2⟩)
  clear hB0 hj0 he0
  go_enter Tryz.func7, Tryz.ntmps7
  go_upto_region 1 with fail
  generalize w.alloc (.cells #[.int .i64 p.args, .slice Ac p.cs.length cc, .slice Ai p.code.length ci, .slice Aa args.length ca, .slice Al src.length cl, .int .i64 f] 36) = w1 at *
  have x0 : w1.cell? ⟨w.heap.size, 0, none⟩ = some (.int .i64 p.args) := kj.out.cell 0
  have x1 : w1.cell? ⟨w.heap.size, 1, none⟩ = some (.slice Ac p.cs.length cc) := kj.out.cell 1
  have x2 : w1.cell? ⟨w.heap.size, 2, none⟩ = some (.slice Ai p.code.length ci) := kj.out.cell 2
  have x3 : w1.cell? ⟨w.heap.size, 3, none⟩ = some (.slice Aa args.length ca) := kj.out.cell 3
  have x4 : w1.cell? ⟨w.heap.size, 4, none⟩ = some (.slice Al src.length cl) := kj.out.cell 4
  have x5 : w1.cell? ⟨w.heap.size, 5, none⟩ = some (.int .i64 f) := kj.out.cell 5
  go_wp2_with fail
  refine (hlg.out _).mono ?_
  rintro e w2 ⟨rfl, hb0⟩
  have hB := hid (hB.out.trans (hb0.mono hB.out.size))
  have kj := hid (kj.out.below_all hb0)
  clear hlg hb0 x0 x1 x2 x3 x4 x5
  cases hl0 : longJ p args src f with
  | true =>
    clear hl0
    go_wp2_with fail
    refine (liveI_any _ (he.out.below hB.out)).mono ?_
    rintro e wd ⟨rfl, hb0⟩
    have hB := hid (hB.out.trans (hb0.mono hB.out.size))
    clear hb0
    go_wp2_with fail
    go_ret
    exact ⟨rfl, hB.out⟩
  | false =>
  have hji := hid (hj.out.jbIn hl0)
  clear hl0 hj
  have x0 : w2.cell? ⟨w.heap.size, 0, none⟩ = some (.int .i64 p.args) := kj.out.cell 0
  have x1 : w2.cell? ⟨w.heap.size, 1, none⟩ = some (.slice Ac p.cs.length cc) := kj.out.cell 1
  have x2 : w2.cell? ⟨w.heap.size, 2, none⟩ = some (.slice Ai p.code.length ci) := kj.out.cell 2
  have x3 : w2.cell? ⟨w.heap.size, 3, none⟩ = some (.slice Aa args.length ca) := kj.out.cell 3
  have x4 : w2.cell? ⟨w.heap.size, 4, none⟩ = some (.slice Al src.length cl) := kj.out.cell 4
  have x5 : w2.cell? ⟨w.heap.size, 5, none⟩ = some (.int .i64 f) := kj.out.cell 5
  have hr1 := hid (hji.out.run hB.out (he.out.below hB.out) f cc ci ca cl)
  go_wp2_with fail
  refine hr1.out.mono ?_
  rintro e w3 ⟨v, sb0, rfl, hoc, _, hb0, _⟩
  have hwh := hid (run_whole (p := p) (args := args) (src := src) (f := f) hji.out.cr hji.out.ar hji.out.sr)
  have hrd := hid (run_rd (p := p) (args := args) (src := src) (f := f) hji.out.cr hji.out.ar hji.out.sr)
  generalize runO p args src true f = o at *
  have hor0 := hoc.read
  obtain ⟨_, A1, ac1, A2, ac2, A3, ac3, A4, ac4, rfl, q1, q2, q3, q4⟩ := id hor0
  have hb9 : Below w3.heap.size w3 (w3.alloc (.cells #[.int .i64 o.code, .int .i64 o.at_, .int .i64 o.ab, .slice A1 o.out.length ac1, .slice A2 o.ws.length ac2, .slice A3 o.rd.length ac3, .slice A4 o.wr.length ac4, .int .i64 o.left] 29)) := (Below.refl _ _).alloc (Nat.le_refl _) _
  have ko := hid (Blk.new w3 29 #[.int .i64 o.code, .int .i64 o.at_, .int .i64 o.ab, .slice A1 o.out.length ac1, .slice A2 o.ws.length ac2, .slice A3 o.rd.length ac3, .slice A4 o.wr.length ac4, .int .i64 o.left])
  have r2 := hid (q2.below_all hb9)
  have r3 := hid (q3.below_all hb9)
  have r4 := hid (q4.below_all hb9)
  have hB4 := hid ((hB.out.trans (hb0.mono hB.out.size)).trans (hb9.mono (hB.out.trans (hb0.mono hB.out.size)).size))
  clear hb0 hb9 x0 x1 x2 x3 x4 x5 q1 q2 q3 q4 hoc hor0 hr1 hB
  go_upto_region 4 with fail
  generalize w3.alloc (.cells #[.int .i64 o.code, .int .i64 o.at_, .int .i64 o.ab, .slice A1 o.out.length ac1, .slice A2 o.ws.length ac2, .slice A3 o.rd.length ac3, .slice A4 o.wr.length ac4, .int .i64 o.left] 29) = w4 at *
  generalize w3.heap.size = no at *
  have hnol := hid ko.out.lt
  have x0 : w4.cell? ⟨no, 0, none⟩ = some (.int .i64 o.code) := ko.out.cell 0
  have x1 : w4.cell? ⟨no, 1, none⟩ = some (.int .i64 o.at_) := ko.out.cell 1
  have x2 : w4.cell? ⟨no, 2, none⟩ = some (.int .i64 o.ab) := ko.out.cell 2
  have x3 : w4.cell? ⟨no, 3, none⟩ = some (.slice A1 o.out.length ac1) := ko.out.cell 3
  have x4 : w4.cell? ⟨no, 4, none⟩ = some (.slice A2 o.ws.length ac2) := ko.out.cell 4
  have x5 : w4.cell? ⟨no, 5, none⟩ = some (.slice A3 o.rd.length ac3) := ko.out.cell 5
  have x6 : w4.cell? ⟨no, 6, none⟩ = some (.slice A4 o.wr.length ac4) := ko.out.cell 6
  have x7 : w4.cell? ⟨no, 7, none⟩ = some (.int .i64 o.left) := ko.out.cell 7
  go_wp2_with fail
  refine (numI_any _ _).mono ?_
  rintro e wq ⟨rfl, hwq⟩
  obtain rfl := hwq.symm
  by_cases hc0 : o.code = 0
  · have hcode := hid hc0
    have tc : (o.code != 0) = false := by simpa using hc0
    have t1 : ((o.ws.length : Int) != (o.wr.length : Int)) = false := by have := hwh.out.len hc0; simp; omega
    have t2 : decide (16 < (o.out.length : Int)) = false := decide_eq_false (by have := hwh.out.out; omega)
    have t2' : decide (16 < o.out.length) = false := decide_eq_false (by have := hwh.out.out; omega)
    have t3 : decide (32 < (o.ws.length : Int)) = false := decide_eq_false (by have := hwh.out.ws; omega)
    have t3' : decide (32 < o.ws.length) = false := decide_eq_false (by have := hwh.out.ws; omega)
    have t4 : decide (64 < ((srtK (o.rd ++ o.wr)).length : Int)) = false := decide_eq_false (by have := hwh.out.few; omega)
    have t4' : decide (64 < (srtK (o.rd ++ o.wr)).length) = false := decide_eq_false (by have := hwh.out.few; omega)
    have hlk := hid (locksI_any (c := ac3) (d := ac4) r3.out r4.out (by have := hrd.out; omega) (by have := hwh.out.len hc0; have := hwh.out.ws; omega))
    generalize srtK (o.rd ++ o.wr) = ks at *
    clear hc0
    go_wp2_with fail
    refine hlk.out.mono ?_
    rintro e w5 ⟨A9, c9, rfl, hb0⟩
    have hB5 := hid (hB4.out.trans (hb0.mono hB4.out.size))
    have ko := hid (ko.out.below_all hb0)
    have r2 := hid ((r2.out.below_all hb0).more (S' := fun b => b < w5.heap.size) fun b hb hl => hl)
    have r4 := hid ((r4.out.below_all hb0).more (S' := fun b => b < w5.heap.size) fun b hb hl => hl)
    have hnol := hid ko.out.lt
    clear hlk hb0 x0 x1 x2 x3 x4 x5 x6 x7
    go_wp2_with fail
    go_loopw [5] (fun v wr => ∃ i : Nat, v = .int .i64 i ∧ i ≤ o.ws.length ∧ Below w5.heap.size w5 wr) (fun v _ => o.ws.length - (intOf v).toNat)
    case atStart => exact ⟨0, rfl, Nat.zero_le _, Below.refl _ _⟩
    case round =>
      obtain ⟨i, rfl, hi, hBr0⟩ := hrel
      have hBr := hid hBr0
      have hi9 := hid (show i ≤ 32 by have := hwh.out.ws; omega)
      have y4 : wr.cell? ⟨no, 4, none⟩ = some (.slice A2 o.ws.length ac2) := (ko.out.below hBr0 hnol.out).cell 4
      clear hBr0
      by_cases hlt : i < o.ws.length
      · have i1 : (i : Int) < (o.ws.length : Int) := by omega
        have i2 : IntKind.i64.wrap ((i : Int) + 1) = (i : Int) + 1 := by rw [IntKind.wrap_i64]; have := hi9.out; omega
        obtain ⟨x, hx0⟩ : ∃ x, o.ws[i]? = some x := ⟨_, List.getElem?_eq_getElem hlt⟩
        have hxe : o.ws[i] = x := by rw [List.getElem?_eq_getElem hlt] at hx0; injection hx0
        have hkey := hid (hwh.out.key i x hx0)
        have hi4 : i < o.wr.length := by have := hwh.out.len hcode.out; omega
        have hltH := hid hlt
        obtain ⟨b2, o2, hA2, _, v0, v1, v2, v3, v4⟩ := ((r2.out.below hBr.out fun b hb => hb).wcells_at hlt)
        rw [hxe] at v0 v1 v2 v3 v4
        obtain ⟨b4, o4, hA4, _, _, hc4⟩ := (r4.out.below hBr.out fun b hb => hb).at_ hi4
        have j4 : (i : Int) < (o.wr.length : Int) := by omega
        have hwx := hid (Blk.new wr 57 #[.string x.key, .bool x.gone, .int .i64 x.v.k, .int .i64 x.v.n, .string x.v.s])
        have hbx := hid ((Below.refl wr.heap.size wr).alloc (Nat.le_refl _) (.cells #[.string x.key, .bool x.gone, .int .i64 x.v.k, .int .i64 x.v.n, .string x.v.s] 57))
        rw [hA2] at y4
        clear hxe hx0 hlt hi
        go_upto_region 11 with fail
        go_upto_region 12 with fail
        clear y4 v0 v1 v2 v3 v4
        obtain ⟨wx, hwxe⟩ : ∃ wx, wr.alloc (.cells #[.string x.key, .bool x.gone, .int .i64 x.v.k, .int .i64 x.v.n, .string x.v.s] 57) = wx := ⟨_, rfl⟩
        rw [hwxe] at hwx hbx ⊢
        clear hwxe
        have hX := hid (fun W (hW : Below wx.heap.size wx W) => (show W.cell? ⟨no, 6, none⟩ = some (.slice A4 o.wr.length ac4) ∧ W.cell? ⟨b4, o4 + i, none⟩ = some (.string x.key) ∧ True ∧ W.cell? ⟨wr.heap.size, 0, none⟩ = some (.string x.key) ∧ W.cell? ⟨wr.heap.size, 1, none⟩ = some (.bool x.gone) ∧ W.cell? ⟨wr.heap.size, 2, none⟩ = some (.int .i64 x.v.k) ∧ W.cell? ⟨wr.heap.size, 3, none⟩ = some (.int .i64 x.v.n) ∧ W.cell? ⟨wr.heap.size, 4, none⟩ = some (.string x.v.s) from by
          have hWW := hBr.out.trans ((hbx.out.trans (hW.mono hbx.out.size)).mono hBr.out.size)
          obtain ⟨b4', o4', hA4', _, _, hc4'⟩ := (r4.out.below hWW fun b hb => hb).at_ hi4
          rw [hA4] at hA4'
          injection hA4' with hA4'
          injection hA4' with e1 e2
          subst e1 e2
          have h9 := hwx.out.below_all hW
          exact ⟨(ko.out.below hWW hnol.out).cell 6, hc4' i (.string x.key) (by have h8 := hkey.out.1; simp [strs, h8]), trivial, h9.cell 0, h9.cell 1, h9.cell 2, h9.cell 3, h9.cell 4⟩))
        subst hA4
        clear hc4 hi4
        have tk : (x.key.toList != x.key.toList) = false := by simp
        obtain ⟨xk, xg, xv⟩ := x
        cases xg with
        | true =>
          obtain rfl : xv = vl0 := hkey.out.2.1 rfl
          have hX2 := hid (fun W (hW : Below wx.heap.size wx W) => (show W.cell? ⟨no, 6, none⟩ = some (.slice (some ⟨b4, o4, none⟩) o.wr.length ac4) ∧ W.cell? ⟨b4, o4 + i, none⟩ = some (.string xk) ∧ True ∧ W.cell? ⟨wr.heap.size, 0, none⟩ = some (.string xk) ∧ W.cell? ⟨wr.heap.size, 1, none⟩ = some (.bool true) ∧ W.cell? ⟨wr.heap.size, 2, none⟩ = some (.int .i64 0) ∧ W.cell? ⟨wr.heap.size, 3, none⟩ = some (.int .i64 0) ∧ W.cell? ⟨wr.heap.size, 4, none⟩ = some (.string ⟨#[]⟩) from hX.out W hW))
          clear hX
          have hX := hid hX2.out
          clear hX2
          refine wp_region_held_drew (S := fun w'' => Below wx.heap.size wx w'') (by kernel_rfl) ?_ (fun hHeld => ?_)
          · exact (Below.refl _ _).drew
          have hbd : Hid (Below wx.heap.size wx wx.drew) := hid ((Below.refl _ _).drew)
          generalize World.drew wx = wd at *
          refine wpAnyH_take (i := 0) (v := ?v1) rfl (by kernel_rfl) (by kernel_rfl) (by kernel_rfl) (fun _ _ _ h => h) (Or.inl ⟨by rfl, ?hy1⟩) (by assumption) ?rest1
          case hy1 => intro w' hSw; obtain ⟨y5, y6, yk, z0, z1, z2, z3, z4⟩ := hX.out w' hSw; (try dsimp only at hSw); go_simp; try with_reducible rfl
          (try simp only [Act.put, List.setIfInBounds_toArray, List.set_cons_zero, List.set_cons_succ, List.getElem_toArray, List.getElem_cons_zero, List.getElem_cons_succ])
          refine wpAnyH_take (i := 1) (v := ?v2) rfl (by kernel_rfl) (by kernel_rfl) (by kernel_rfl) (fun _ _ _ h => h) (Or.inl ⟨by rfl, ?hy2⟩) (by assumption) ?rest2
          case hy2 => intro w' hSw; obtain ⟨y5, y6, yk, z0, z1, z2, z3, z4⟩ := hX.out w' hSw; (try dsimp only at hSw); go_simp; try with_reducible rfl
          (try simp only [Act.put, List.setIfInBounds_toArray, List.set_cons_zero, List.set_cons_succ, List.getElem_toArray, List.getElem_cons_zero, List.getElem_cons_succ])
          refine wpAnyH_take (i := 2) (v := ?v3) rfl (by kernel_rfl) (by kernel_rfl) (by kernel_rfl) (fun _ _ _ h => h) (Or.inl ⟨by rfl, ?hy3⟩) (by assumption) ?rest3
          case hy3 => intro w' hSw; obtain ⟨y5, y6, yk, z0, z1, z2, z3, z4⟩ := hX.out w' hSw; (try dsimp only at hSw); go_simp; try with_reducible rfl
          (try simp only [Act.put, List.setIfInBounds_toArray, List.set_cons_zero, List.set_cons_succ, List.getElem_toArray, List.getElem_cons_zero, List.getElem_cons_succ])
          refine wpAnyH_take (i := 3) (v := ?v4) rfl (by kernel_rfl) (by kernel_rfl) (by kernel_rfl) (fun _ _ _ h => h) (Or.inl ⟨by rfl, ?hy4⟩) (by assumption) ?rest4
          case hy4 => intro w' hSw; obtain ⟨y5, y6, yk, z0, z1, z2, z3, z4⟩ := hX.out w' hSw; (try dsimp only at hSw); go_simp; try with_reducible rfl
          (try simp only [Act.put, List.setIfInBounds_toArray, List.set_cons_zero, List.set_cons_succ, List.getElem_toArray, List.getElem_cons_zero, List.getElem_cons_succ])
          refine wpAnyH_take (i := 4) (v := ?v5) rfl (by kernel_rfl) (by kernel_rfl) (by kernel_rfl) (fun _ _ _ h => h) (Or.inl ⟨by rfl, ?hy5⟩) (by assumption) ?rest5
          case hy5 => intro w' hSw; obtain ⟨y5, y6, yk, z0, z1, z2, z3, z4⟩ := hX.out w' hSw; (try dsimp only at hSw); go_simp; try with_reducible rfl
          (try simp only [Act.put, List.setIfInBounds_toArray, List.set_cons_zero, List.set_cons_succ, List.getElem_toArray, List.getElem_cons_zero, List.getElem_cons_succ])
          refine wpAnyH_take (i := 5) (v := ?v6) rfl (by kernel_rfl) (by kernel_rfl) (by kernel_rfl) (fun _ _ _ h => h) (Or.inl ⟨by rfl, ?hy6⟩) (by assumption) ?rest6
          case hy6 => intro w' hSw; obtain ⟨y5, y6, yk, z0, z1, z2, z3, z4⟩ := hX.out w' hSw; (try dsimp only at hSw); go_simp; try with_reducible rfl
          (try simp only [Act.put, List.setIfInBounds_toArray, List.set_cons_zero, List.set_cons_succ, List.getElem_toArray, List.getElem_cons_zero, List.getElem_cons_succ])
          refine wpAnyH_take (i := 6) (v := ?v7) rfl (by kernel_rfl) (by kernel_rfl) (by kernel_rfl) (fun _ _ _ h => h) (Or.inl ⟨by rfl, ?hy7⟩) (by assumption) ?rest7
          case hy7 => intro w' hSw; obtain ⟨y5, y6, yk, z0, z1, z2, z3, z4⟩ := hX.out w' hSw; (try dsimp only at hSw); go_simp; try with_reducible rfl
          (try simp only [Act.put, List.setIfInBounds_toArray, List.set_cons_zero, List.set_cons_succ, List.getElem_toArray, List.getElem_cons_zero, List.getElem_cons_succ])
          refine wpAnyH_take (i := 7) (v := ?v8) rfl (by kernel_rfl) (by kernel_rfl) (by kernel_rfl) (fun _ _ _ h => h) (Or.inl ⟨by rfl, ?hy8⟩) (by assumption) ?rest8
          case hy8 => intro w' hSw; obtain ⟨y5, y6, yk, z0, z1, z2, z3, z4⟩ := hX.out w' hSw; (try dsimp only at hSw); go_simp; try with_reducible rfl
          (try simp only [Act.put, List.setIfInBounds_toArray, List.set_cons_zero, List.set_cons_succ, List.getElem_toArray, List.getElem_cons_zero, List.getElem_cons_succ])
          refine wpAnyH_take (i := 8) (v := ?v9) rfl (by kernel_rfl) (by kernel_rfl) (by kernel_rfl) (fun _ _ _ h => h) (Or.inl ⟨by rfl, ?hy9⟩) (by assumption) ?rest9
          case hy9 => intro w' hSw; obtain ⟨y5, y6, yk, z0, z1, z2, z3, z4⟩ := hX.out w' hSw; (try dsimp only at hSw); go_simp; try with_reducible rfl
          (try simp only [Act.put, List.setIfInBounds_toArray, List.set_cons_zero, List.set_cons_succ, List.getElem_toArray, List.getElem_cons_zero, List.getElem_cons_succ])
          refine wpAnyH_take (i := 9) (v := ?v10) rfl (by kernel_rfl) (by kernel_rfl) (by kernel_rfl) (fun _ _ _ h => h) (Or.inl ⟨by rfl, ?hy10⟩) (by assumption) ?rest10
          case hy10 => intro w' hSw; obtain ⟨y5, y6, yk, z0, z1, z2, z3, z4⟩ := hX.out w' hSw; (try dsimp only at hSw); go_simp; try with_reducible rfl
          (try simp only [Act.put, List.setIfInBounds_toArray, List.set_cons_zero, List.set_cons_succ, List.getElem_toArray, List.getElem_cons_zero, List.getElem_cons_succ])
          refine wpAnyH_take (i := 10) (v := ?v11) rfl (by kernel_rfl) (by kernel_rfl) (by kernel_rfl) (fun _ _ _ h => h) (Or.inl ⟨by rfl, ?hy11⟩) (by assumption) ?rest11
          case hy11 => intro w' hSw; obtain ⟨y5, y6, yk, z0, z1, z2, z3, z4⟩ := hX.out w' hSw; (try dsimp only at hSw); go_simp; try with_reducible rfl
          (try simp only [Act.put, List.setIfInBounds_toArray, List.set_cons_zero, List.set_cons_succ, List.getElem_toArray, List.getElem_cons_zero, List.getElem_cons_succ])
          refine wpAnyH_take (i := 11) (v := ?v12) rfl (by kernel_rfl) (by kernel_rfl) (by kernel_rfl) (fun _ _ _ h => h) (Or.inl ⟨by rfl, ?hy12⟩) (by assumption) ?rest12
          case hy12 => intro w' hSw; obtain ⟨y5, y6, yk, z0, z1, z2, z3, z4⟩ := hX.out w' hSw; (try dsimp only at hSw); go_simp; try with_reducible rfl
          (try simp only [Act.put, List.setIfInBounds_toArray, List.set_cons_zero, List.set_cons_succ, List.getElem_toArray, List.getElem_cons_zero, List.getElem_cons_succ])
          refine wpAnyH_take (i := 12) (v := ?v13) rfl (by kernel_rfl) (by kernel_rfl) (by kernel_rfl) (fun _ _ _ h => h) (Or.inl ⟨by rfl, ?hy13⟩) (by assumption) ?rest13
          case hy13 => intro w' hSw; obtain ⟨y5, y6, yk, z0, z1, z2, z3, z4⟩ := hX.out w' hSw; (try dsimp only at hSw); go_simp; try with_reducible rfl
          (try simp only [Act.put, List.setIfInBounds_toArray, List.set_cons_zero, List.set_cons_succ, List.getElem_toArray, List.getElem_cons_zero, List.getElem_cons_succ])
          refine wpAnyH_take (i := 13) (v := ?v14) rfl (by kernel_rfl) (by kernel_rfl) (by kernel_rfl) (fun _ _ _ h => h) (Or.inl ⟨by rfl, ?hy14⟩) (by assumption) ?rest14
          case hy14 => intro w' hSw; obtain ⟨y5, y6, yk, z0, z1, z2, z3, z4⟩ := hX.out w' hSw; (try dsimp only at hSw); go_simp; try with_reducible rfl
          (try simp only [Act.put, List.setIfInBounds_toArray, List.set_cons_zero, List.set_cons_succ, List.getElem_toArray, List.getElem_cons_zero, List.getElem_cons_succ])
          refine wpAnyH_take (i := 14) (v := ?v15) rfl (by kernel_rfl) (by kernel_rfl) (by kernel_rfl) (fun _ _ _ h => h) (Or.inl ⟨by rfl, ?hy15⟩) (by assumption) ?rest15
          case hy15 => intro w' hSw; obtain ⟨y5, y6, yk, z0, z1, z2, z3, z4⟩ := hX.out w' hSw; (try dsimp only at hSw); go_simp; try with_reducible rfl
          (try simp only [Act.put, List.setIfInBounds_toArray, List.set_cons_zero, List.set_cons_succ, List.getElem_toArray, List.getElem_cons_zero, List.getElem_cons_succ])
          refine wpAnyH_take (i := 15) (v := ?v16) rfl (by kernel_rfl) (by kernel_rfl) (by kernel_rfl) (fun _ _ _ h => h) (Or.inl ⟨by rfl, ?hy16⟩) (by assumption) ?rest16
          case hy16 => intro w' hSw; obtain ⟨y5, y6, yk, z0, z1, z2, z3, z4⟩ := hX.out w' hSw; (try dsimp only at hSw); go_simp; try with_reducible rfl
          (try simp only [Act.put, List.setIfInBounds_toArray, List.set_cons_zero, List.set_cons_succ, List.getElem_toArray, List.getElem_cons_zero, List.getElem_cons_succ])
          refine wpAnyH_take (i := 16) (v := ?v17) rfl (by kernel_rfl) (by kernel_rfl) (by kernel_rfl) (fun _ _ _ h => h) (Or.inl ⟨by rfl, ?hy17⟩) (by assumption) ?rest17
          case hy17 => intro w' hSw; obtain ⟨y5, y6, yk, z0, z1, z2, z3, z4⟩ := hX.out w' hSw; (try dsimp only at hSw); go_simp; try with_reducible rfl
          (try simp only [Act.put, List.setIfInBounds_toArray, List.set_cons_zero, List.set_cons_succ, List.getElem_toArray, List.getElem_cons_zero, List.getElem_cons_succ])
          refine wpAnyH_take (i := 17) (v := ?v18) rfl (by kernel_rfl) (by kernel_rfl) (by kernel_rfl) (fun _ _ _ h => h) (Or.inl ⟨by rfl, ?hy18⟩) (by assumption) ?rest18
          case hy18 => intro w' hSw; obtain ⟨y5, y6, yk, z0, z1, z2, z3, z4⟩ := hX.out w' hSw; (try dsimp only at hSw); go_simp; try with_reducible rfl
          (try simp only [Act.put, List.setIfInBounds_toArray, List.set_cons_zero, List.set_cons_succ, List.getElem_toArray, List.getElem_cons_zero, List.getElem_cons_succ])
          refine wpAnyH_take (i := 18) (v := ?v19) rfl (by kernel_rfl) (by kernel_rfl) (by kernel_rfl) (fun _ _ _ h => h) (Or.inl ⟨by rfl, ?hy19⟩) (by assumption) ?rest19
          case hy19 => intro w' hSw; obtain ⟨y5, y6, yk, z0, z1, z2, z3, z4⟩ := hX.out w' hSw; (try dsimp only at hSw); go_simp; try with_reducible rfl
          (try simp only [Act.put, List.setIfInBounds_toArray, List.set_cons_zero, List.set_cons_succ, List.getElem_toArray, List.getElem_cons_zero, List.getElem_cons_succ])
          refine wpAnyH_take (i := 19) (v := ?v20) rfl (by kernel_rfl) (by kernel_rfl) (by kernel_rfl) (fun _ _ _ h => h) (Or.inl ⟨by rfl, ?hy20⟩) (by assumption) ?rest20
          case hy20 => intro w' hSw; obtain ⟨y5, y6, yk, z0, z1, z2, z3, z4⟩ := hX.out w' hSw; (try dsimp only at hSw); go_simp; try with_reducible rfl
          (try simp only [Act.put, List.setIfInBounds_toArray, List.set_cons_zero, List.set_cons_succ, List.getElem_toArray, List.getElem_cons_zero, List.getElem_cons_succ])
          refine wpAnyH_take (i := 20) (v := ?v21) rfl (by kernel_rfl) (by kernel_rfl) (by kernel_rfl) (fun _ _ _ h => h) (Or.inl ⟨by rfl, ?hy21⟩) (by assumption) ?rest21
          case hy21 => intro w' hSw; obtain ⟨y5, y6, yk, z0, z1, z2, z3, z4⟩ := hX.out w' hSw; (try dsimp only at hSw); go_simp; try with_reducible rfl
          (try simp only [Act.put, List.setIfInBounds_toArray, List.set_cons_zero, List.set_cons_succ, List.getElem_toArray, List.getElem_cons_zero, List.getElem_cons_succ])
          refine wpAnyH_take (i := 21) (v := ?v22) rfl (by kernel_rfl) (by kernel_rfl) (by kernel_rfl) (fun _ _ _ h => h) (Or.inl ⟨by rfl, ?hy22⟩) (by assumption) ?rest22
          case hy22 => intro w' hSw; obtain ⟨y5, y6, yk, z0, z1, z2, z3, z4⟩ := hX.out w' hSw; (try dsimp only at hSw); go_simp; try with_reducible rfl
          (try simp only [Act.put, List.setIfInBounds_toArray, List.set_cons_zero, List.set_cons_succ, List.getElem_toArray, List.getElem_cons_zero, List.getElem_cons_succ])
          refine wpAnyH_take (i := 22) (v := ?v23) rfl (by kernel_rfl) (by kernel_rfl) (by kernel_rfl) (fun _ _ _ h => h) (Or.inl ⟨by rfl, ?hy23⟩) (by assumption) ?rest23
          case hy23 => intro w' hSw; obtain ⟨y5, y6, yk, z0, z1, z2, z3, z4⟩ := hX.out w' hSw; (try dsimp only at hSw); go_simp; try with_reducible rfl
          (try simp only [Act.put, List.setIfInBounds_toArray, List.set_cons_zero, List.set_cons_succ, List.getElem_toArray, List.getElem_cons_zero, List.getElem_cons_succ])
          refine wpAnyH_take (i := 23) (v := ?v24) rfl (by kernel_rfl) (by kernel_rfl) (by kernel_rfl) (fun _ _ _ h => h) (Or.inl ⟨by rfl, ?hy24⟩) (by assumption) ?rest24
          case hy24 => intro w' hSw; obtain ⟨y5, y6, yk, z0, z1, z2, z3, z4⟩ := hX.out w' hSw; (try dsimp only at hSw); go_simp; try with_reducible rfl
          (try simp only [Act.put, List.setIfInBounds_toArray, List.set_cons_zero, List.set_cons_succ, List.getElem_toArray, List.getElem_cons_zero, List.getElem_cons_succ])
          refine wpAnyH_take (i := 24) (v := undef) rfl (by kernel_rfl) (by kernel_rfl) (by kernel_rfl) (fun _ _ _ h => h) (Or.inr ⟨by rfl, rfl⟩) (by assumption) ?_
          (try simp only [Act.put, List.setIfInBounds_toArray, List.set_cons_zero, List.set_cons_succ, List.getElem_toArray, List.getElem_cons_zero, List.getElem_cons_succ])
          refine wpAnyH_take (i := 25) (v := undef) rfl (by kernel_rfl) (by kernel_rfl) (by kernel_rfl) (fun _ _ _ h => h) (Or.inr ⟨by rfl, rfl⟩) (by assumption) ?_
          (try simp only [Act.put, List.setIfInBounds_toArray, List.set_cons_zero, List.set_cons_succ, List.getElem_toArray, List.getElem_cons_zero, List.getElem_cons_succ])
          refine wpAnyH_take (i := 26) (v := undef) rfl (by kernel_rfl) (by kernel_rfl) (by kernel_rfl) (fun _ _ _ h => h) (Or.inr ⟨by rfl, rfl⟩) (by assumption) ?_
          (try simp only [Act.put, List.setIfInBounds_toArray, List.set_cons_zero, List.set_cons_succ, List.getElem_toArray, List.getElem_cons_zero, List.getElem_cons_succ])
          refine wpAnyH_take (i := 27) (v := undef) rfl (by kernel_rfl) (by kernel_rfl) (by kernel_rfl) (fun _ _ _ h => h) (Or.inr ⟨by rfl, rfl⟩) (by assumption) ?_
          (try simp only [Act.put, List.setIfInBounds_toArray, List.set_cons_zero, List.set_cons_succ, List.getElem_toArray, List.getElem_cons_zero, List.getElem_cons_succ])
          refine wpAnyH_take (i := 28) (v := undef) rfl (by kernel_rfl) (by kernel_rfl) (by kernel_rfl) (fun _ _ _ h => h) (Or.inr ⟨by rfl, rfl⟩) (by assumption) ?_
          (try simp only [Act.put, List.setIfInBounds_toArray, List.set_cons_zero, List.set_cons_succ, List.getElem_toArray, List.getElem_cons_zero, List.getElem_cons_succ])
          refine wpAnyH_take (i := 29) (v := undef) rfl (by kernel_rfl) (by kernel_rfl) (by kernel_rfl) (fun _ _ _ h => h) (Or.inr ⟨by rfl, rfl⟩) (by assumption) ?_
          (try simp only [Act.put, List.setIfInBounds_toArray, List.set_cons_zero, List.set_cons_succ, List.getElem_toArray, List.getElem_cons_zero, List.getElem_cons_succ])
          refine wpAnyH_take (i := 30) (v := undef) rfl (by kernel_rfl) (by kernel_rfl) (by kernel_rfl) (fun _ _ _ h => h) (Or.inr ⟨by rfl, rfl⟩) (by assumption) ?_
          (try simp only [Act.put, List.setIfInBounds_toArray, List.set_cons_zero, List.set_cons_succ, List.getElem_toArray, List.getElem_cons_zero, List.getElem_cons_succ])
          refine wpAnyH_take (i := 31) (v := undef) rfl (by kernel_rfl) (by kernel_rfl) (by kernel_rfl) (fun _ _ _ h => h) (Or.inr ⟨by rfl, rfl⟩) (by assumption) ?_
          (try simp only [Act.put, List.setIfInBounds_toArray, List.set_cons_zero, List.set_cons_succ, List.getElem_toArray, List.getElem_cons_zero, List.getElem_cons_succ])
          refine wpAnyH_take (i := 32) (v := undef) rfl (by kernel_rfl) (by kernel_rfl) (by kernel_rfl) (fun _ _ _ h => h) (Or.inr ⟨by rfl, rfl⟩) (by assumption) ?_
          (try simp only [Act.put, List.setIfInBounds_toArray, List.set_cons_zero, List.set_cons_succ, List.getElem_toArray, List.getElem_cons_zero, List.getElem_cons_succ])
          refine wpAnyH_take (i := 33) (v := undef) rfl (by kernel_rfl) (by kernel_rfl) (by kernel_rfl) (fun _ _ _ h => h) (Or.inr ⟨by rfl, rfl⟩) (by assumption) ?_
          (try simp only [Act.put, List.setIfInBounds_toArray, List.set_cons_zero, List.set_cons_succ, List.getElem_toArray, List.getElem_cons_zero, List.getElem_cons_succ])
          refine wpAnyH_take (i := 34) (v := ?v25) rfl (by kernel_rfl) (by kernel_rfl) (by kernel_rfl) (fun _ _ _ h => h) (Or.inl ⟨by rfl, ?hy25⟩) (by assumption) ?rest25
          case hy25 => intro w' hSw; obtain ⟨y5, y6, yk, z0, z1, z2, z3, z4⟩ := hX.out w' hSw; (try dsimp only at hSw); go_simp; try with_reducible rfl
          (try simp only [Act.put, List.setIfInBounds_toArray, List.set_cons_zero, List.set_cons_succ, List.getElem_toArray, List.getElem_cons_zero, List.getElem_cons_succ])
          refine wpAnyH_take (i := 35) (v := ?v26) rfl (by kernel_rfl) (by kernel_rfl) (by kernel_rfl) (fun _ _ _ h => h) (Or.inl ⟨by rfl, ?hy26⟩) (by assumption) ?rest26
          case hy26 => intro w' hSw; obtain ⟨y5, y6, yk, z0, z1, z2, z3, z4⟩ := hX.out w' hSw; (try dsimp only at hSw); go_simp; try with_reducible rfl
          (try simp only [Act.put, List.setIfInBounds_toArray, List.set_cons_zero, List.set_cons_succ, List.getElem_toArray, List.getElem_cons_zero, List.getElem_cons_succ])
          refine wpAnyH_done (by kernel_rfl) ?_ _
          go_wp2_with fail
          go_roundw
          case rel => exact ⟨i + 1, rfl, by have := hltH.out; omega, (hBr.out.trans (hbx.out.mono hBr.out.size)).trans (hbd.out.mono (hBr.out.trans (hbx.out.mono hBr.out.size)).size)⟩
          case measure => simp [intOf]; have := hltH.out; omega
        | false =>
          have hk3 := hkey.out.2.2 rfl
          have tk0 : (xv.k == 0) = false := by simpa using hk3.1
          have hvo := hid (show xv.ok = true from hk3.2)
          have hvs := hid (show xv.s.size ≤ 9223372036854775806 by have h9 : xv.s.size ≤ 64 := isz_le hk3.2; omega)
          clear hk3
          refine wp_region_held_drew (S := fun w'' => Below wx.heap.size wx w'') (by kernel_rfl) ?_ (fun hHeld => ?_)
          · exact (Below.refl _ _).drew
          have hbd : Hid (Below wx.heap.size wx wx.drew) := hid ((Below.refl _ _).drew)
          generalize World.drew wx = wd at *
          refine wpAnyH_take (i := 0) (v := ?v27) rfl (by kernel_rfl) (by kernel_rfl) (by kernel_rfl) (fun _ _ _ h => h) (Or.inl ⟨by rfl, ?hy27⟩) (by assumption) ?rest27
          case hy27 => intro w' hSw; obtain ⟨y5, y6, yk, z0, z1, z2, z3, z4⟩ := hX.out w' hSw; (try dsimp only at hSw); go_simp; try with_reducible rfl
          (try simp only [Act.put, List.setIfInBounds_toArray, List.set_cons_zero, List.set_cons_succ, List.getElem_toArray, List.getElem_cons_zero, List.getElem_cons_succ])
          refine wpAnyH_take (i := 1) (v := ?v28) rfl (by kernel_rfl) (by kernel_rfl) (by kernel_rfl) (fun _ _ _ h => h) (Or.inl ⟨by rfl, ?hy28⟩) (by assumption) ?rest28
          case hy28 => intro w' hSw; obtain ⟨y5, y6, yk, z0, z1, z2, z3, z4⟩ := hX.out w' hSw; (try dsimp only at hSw); go_simp; try with_reducible rfl
          (try simp only [Act.put, List.setIfInBounds_toArray, List.set_cons_zero, List.set_cons_succ, List.getElem_toArray, List.getElem_cons_zero, List.getElem_cons_succ])
          refine wpAnyH_take (i := 2) (v := ?v29) rfl (by kernel_rfl) (by kernel_rfl) (by kernel_rfl) (fun _ _ _ h => h) (Or.inl ⟨by rfl, ?hy29⟩) (by assumption) ?rest29
          case hy29 => intro w' hSw; obtain ⟨y5, y6, yk, z0, z1, z2, z3, z4⟩ := hX.out w' hSw; (try dsimp only at hSw); go_simp; try with_reducible rfl
          (try simp only [Act.put, List.setIfInBounds_toArray, List.set_cons_zero, List.set_cons_succ, List.getElem_toArray, List.getElem_cons_zero, List.getElem_cons_succ])
          refine wpAnyH_take (i := 3) (v := ?v30) rfl (by kernel_rfl) (by kernel_rfl) (by kernel_rfl) (fun _ _ _ h => h) (Or.inl ⟨by rfl, ?hy30⟩) (by assumption) ?rest30
          case hy30 => intro w' hSw; obtain ⟨y5, y6, yk, z0, z1, z2, z3, z4⟩ := hX.out w' hSw; (try dsimp only at hSw); go_simp; try with_reducible rfl
          (try simp only [Act.put, List.setIfInBounds_toArray, List.set_cons_zero, List.set_cons_succ, List.getElem_toArray, List.getElem_cons_zero, List.getElem_cons_succ])
          refine wpAnyH_take (i := 4) (v := ?v31) rfl (by kernel_rfl) (by kernel_rfl) (by kernel_rfl) (fun _ _ _ h => h) (Or.inl ⟨by rfl, ?hy31⟩) (by assumption) ?rest31
          case hy31 => intro w' hSw; obtain ⟨y5, y6, yk, z0, z1, z2, z3, z4⟩ := hX.out w' hSw; (try dsimp only at hSw); go_simp; try with_reducible rfl
          (try simp only [Act.put, List.setIfInBounds_toArray, List.set_cons_zero, List.set_cons_succ, List.getElem_toArray, List.getElem_cons_zero, List.getElem_cons_succ])
          refine wpAnyH_take (i := 5) (v := ?v32) rfl (by kernel_rfl) (by kernel_rfl) (by kernel_rfl) (fun _ _ _ h => h) (Or.inl ⟨by rfl, ?hy32⟩) (by assumption) ?rest32
          case hy32 => intro w' hSw; obtain ⟨y5, y6, yk, z0, z1, z2, z3, z4⟩ := hX.out w' hSw; (try dsimp only at hSw); go_simp; try with_reducible rfl
          (try simp only [Act.put, List.setIfInBounds_toArray, List.set_cons_zero, List.set_cons_succ, List.getElem_toArray, List.getElem_cons_zero, List.getElem_cons_succ])
          refine wpAnyH_take (i := 6) (v := ?v33) rfl (by kernel_rfl) (by kernel_rfl) (by kernel_rfl) (fun _ _ _ h => h) (Or.inl ⟨by rfl, ?hy33⟩) (by assumption) ?rest33
          case hy33 => intro w' hSw; obtain ⟨y5, y6, yk, z0, z1, z2, z3, z4⟩ := hX.out w' hSw; (try dsimp only at hSw); go_simp; try with_reducible rfl
          (try simp only [Act.put, List.setIfInBounds_toArray, List.set_cons_zero, List.set_cons_succ, List.getElem_toArray, List.getElem_cons_zero, List.getElem_cons_succ])
          refine wpAnyH_take (i := 7) (v := ?v34) rfl (by kernel_rfl) (by kernel_rfl) (by kernel_rfl) (fun _ _ _ h => h) (Or.inl ⟨by rfl, ?hy34⟩) (by assumption) ?rest34
          case hy34 => intro w' hSw; obtain ⟨y5, y6, yk, z0, z1, z2, z3, z4⟩ := hX.out w' hSw; (try dsimp only at hSw); go_simp; try with_reducible rfl
          (try simp only [Act.put, List.setIfInBounds_toArray, List.set_cons_zero, List.set_cons_succ, List.getElem_toArray, List.getElem_cons_zero, List.getElem_cons_succ])
          refine wpAnyH_take (i := 8) (v := ?v35) rfl (by kernel_rfl) (by kernel_rfl) (by kernel_rfl) (fun _ _ _ h => h) (Or.inl ⟨by rfl, ?hy35⟩) (by assumption) ?rest35
          case hy35 => intro w' hSw; obtain ⟨y5, y6, yk, z0, z1, z2, z3, z4⟩ := hX.out w' hSw; (try dsimp only at hSw); go_simp; try with_reducible rfl
          (try simp only [Act.put, List.setIfInBounds_toArray, List.set_cons_zero, List.set_cons_succ, List.getElem_toArray, List.getElem_cons_zero, List.getElem_cons_succ])
          refine wpAnyH_take (i := 9) (v := ?v36) rfl (by kernel_rfl) (by kernel_rfl) (by kernel_rfl) (fun _ _ _ h => h) (Or.inl ⟨by rfl, ?hy36⟩) (by assumption) ?rest36
          case hy36 => intro w' hSw; obtain ⟨y5, y6, yk, z0, z1, z2, z3, z4⟩ := hX.out w' hSw; (try dsimp only at hSw); go_simp; try with_reducible rfl
          (try simp only [Act.put, List.setIfInBounds_toArray, List.set_cons_zero, List.set_cons_succ, List.getElem_toArray, List.getElem_cons_zero, List.getElem_cons_succ])
          refine wpAnyH_take (i := 10) (v := ?v37) rfl (by kernel_rfl) (by kernel_rfl) (by kernel_rfl) (fun _ _ _ h => h) (Or.inl ⟨by rfl, ?hy37⟩) (by assumption) ?rest37
          case hy37 => intro w' hSw; obtain ⟨y5, y6, yk, z0, z1, z2, z3, z4⟩ := hX.out w' hSw; (try dsimp only at hSw); go_simp; try with_reducible rfl
          (try simp only [Act.put, List.setIfInBounds_toArray, List.set_cons_zero, List.set_cons_succ, List.getElem_toArray, List.getElem_cons_zero, List.getElem_cons_succ])
          refine wpAnyH_take (i := 11) (v := ?v38) rfl (by kernel_rfl) (by kernel_rfl) (by kernel_rfl) (fun _ _ _ h => h) (Or.inl ⟨by rfl, ?hy38⟩) (by assumption) ?rest38
          case hy38 => intro w' hSw; obtain ⟨y5, y6, yk, z0, z1, z2, z3, z4⟩ := hX.out w' hSw; (try dsimp only at hSw); go_simp; try with_reducible rfl
          (try simp only [Act.put, List.setIfInBounds_toArray, List.set_cons_zero, List.set_cons_succ, List.getElem_toArray, List.getElem_cons_zero, List.getElem_cons_succ])
          refine wpAnyH_take (i := 12) (v := ?v39) rfl (by kernel_rfl) (by kernel_rfl) (by kernel_rfl) (fun _ _ _ h => h) (Or.inl ⟨by rfl, ?hy39⟩) (by assumption) ?rest39
          case hy39 => intro w' hSw; obtain ⟨y5, y6, yk, z0, z1, z2, z3, z4⟩ := hX.out w' hSw; (try dsimp only at hSw); go_simp; try with_reducible rfl
          (try simp only [Act.put, List.setIfInBounds_toArray, List.set_cons_zero, List.set_cons_succ, List.getElem_toArray, List.getElem_cons_zero, List.getElem_cons_succ])
          refine wpAnyH_take (i := 13) (v := undef) rfl (by kernel_rfl) (by kernel_rfl) (by kernel_rfl) (fun _ _ _ h => h) (Or.inr ⟨by rfl, rfl⟩) (by assumption) ?_
          (try simp only [Act.put, List.setIfInBounds_toArray, List.set_cons_zero, List.set_cons_succ, List.getElem_toArray, List.getElem_cons_zero, List.getElem_cons_succ])
          refine wpAnyH_take (i := 14) (v := undef) rfl (by kernel_rfl) (by kernel_rfl) (by kernel_rfl) (fun _ _ _ h => h) (Or.inr ⟨by rfl, rfl⟩) (by assumption) ?_
          (try simp only [Act.put, List.setIfInBounds_toArray, List.set_cons_zero, List.set_cons_succ, List.getElem_toArray, List.getElem_cons_zero, List.getElem_cons_succ])
          refine wpAnyH_take (i := 15) (v := undef) rfl (by kernel_rfl) (by kernel_rfl) (by kernel_rfl) (fun _ _ _ h => h) (Or.inr ⟨by rfl, rfl⟩) (by assumption) ?_
          (try simp only [Act.put, List.setIfInBounds_toArray, List.set_cons_zero, List.set_cons_succ, List.getElem_toArray, List.getElem_cons_zero, List.getElem_cons_succ])
          refine wpAnyH_take (i := 16) (v := undef) rfl (by kernel_rfl) (by kernel_rfl) (by kernel_rfl) (fun _ _ _ h => h) (Or.inr ⟨by rfl, rfl⟩) (by assumption) ?_
          (try simp only [Act.put, List.setIfInBounds_toArray, List.set_cons_zero, List.set_cons_succ, List.getElem_toArray, List.getElem_cons_zero, List.getElem_cons_succ])
          refine wpAnyH_take (i := 17) (v := ?v40) rfl (by kernel_rfl) (by kernel_rfl) (by kernel_rfl) (fun _ _ _ h => h) (Or.inl ⟨by rfl, ?hy40⟩) (by assumption) ?rest40
          case hy40 => intro w' hSw; obtain ⟨y5, y6, yk, z0, z1, z2, z3, z4⟩ := hX.out w' hSw; (try dsimp only at hSw); go_simp; try with_reducible rfl
          (try simp only [Act.put, List.setIfInBounds_toArray, List.set_cons_zero, List.set_cons_succ, List.getElem_toArray, List.getElem_cons_zero, List.getElem_cons_succ])
          refine wpAnyH_take (i := 18) (v := ?v41) rfl (by kernel_rfl) (by kernel_rfl) (by kernel_rfl) (fun _ _ _ h => h) (Or.inl ⟨by rfl, ?hy41⟩) (by assumption) ?rest41
          case hy41 => intro w' hSw; obtain ⟨y5, y6, yk, z0, z1, z2, z3, z4⟩ := hX.out w' hSw; (try dsimp only at hSw); go_simp; try with_reducible rfl
          (try simp only [Act.put, List.setIfInBounds_toArray, List.set_cons_zero, List.set_cons_succ, List.getElem_toArray, List.getElem_cons_zero, List.getElem_cons_succ])
          refine wpAnyH_take (i := 19) (v := ?v42) rfl (by kernel_rfl) (by kernel_rfl) (by kernel_rfl) (fun _ _ _ h => h) (Or.inl ⟨by rfl, ?hy42⟩) (by assumption) ?rest42
          case hy42 => intro w' hSw; obtain ⟨y5, y6, yk, z0, z1, z2, z3, z4⟩ := hX.out w' hSw; (try dsimp only at hSw); go_simp; try with_reducible rfl
          (try simp only [Act.put, List.setIfInBounds_toArray, List.set_cons_zero, List.set_cons_succ, List.getElem_toArray, List.getElem_cons_zero, List.getElem_cons_succ])
          refine wpAnyH_take (i := 20) (v := ?v43) rfl (by kernel_rfl) (by kernel_rfl) (by kernel_rfl) (fun _ _ _ h => h) (Or.inl ⟨by rfl, ?hy43⟩) (by assumption) ?rest43
          case hy43 => intro w' hSw; obtain ⟨y5, y6, yk, z0, z1, z2, z3, z4⟩ := hX.out w' hSw; (try dsimp only at hSw); go_simp; try with_reducible rfl
          (try simp only [Act.put, List.setIfInBounds_toArray, List.set_cons_zero, List.set_cons_succ, List.getElem_toArray, List.getElem_cons_zero, List.getElem_cons_succ])
          refine wpAnyH_take (i := 21) (v := ?v44) rfl (by kernel_rfl) (by kernel_rfl) (by kernel_rfl) (fun _ _ _ h => h) (Or.inl ⟨by rfl, ?hy44⟩) (by assumption) ?rest44
          case hy44 => intro w' hSw; obtain ⟨y5, y6, yk, z0, z1, z2, z3, z4⟩ := hX.out w' hSw; (try dsimp only at hSw); go_simp; try with_reducible rfl
          (try simp only [Act.put, List.setIfInBounds_toArray, List.set_cons_zero, List.set_cons_succ, List.getElem_toArray, List.getElem_cons_zero, List.getElem_cons_succ])
          refine wpAnyH_take (i := 22) (v := ?v45) rfl (by kernel_rfl) (by kernel_rfl) (by kernel_rfl) (fun _ _ _ h => h) (Or.inl ⟨by rfl, ?hy45⟩) (by assumption) ?rest45
          case hy45 => intro w' hSw; obtain ⟨y5, y6, yk, z0, z1, z2, z3, z4⟩ := hX.out w' hSw; (try dsimp only at hSw); go_simp; try with_reducible rfl
          (try simp only [Act.put, List.setIfInBounds_toArray, List.set_cons_zero, List.set_cons_succ, List.getElem_toArray, List.getElem_cons_zero, List.getElem_cons_succ])
          refine wpAnyH_take (i := 23) (v := ?v46) rfl (by kernel_rfl) (by kernel_rfl) (by kernel_rfl) (fun _ _ _ h => h) (Or.inl ⟨by rfl, ?hy46⟩) (by assumption) ?rest46
          case hy46 => intro w' hSw; obtain ⟨y5, y6, yk, z0, z1, z2, z3, z4⟩ := hX.out w' hSw; (try dsimp only at hSw); go_simp; try with_reducible rfl
          (try simp only [Act.put, List.setIfInBounds_toArray, List.set_cons_zero, List.set_cons_succ, List.getElem_toArray, List.getElem_cons_zero, List.getElem_cons_succ])
          refine wpAnyH_take (i := 24) (v := ?v47) rfl (by kernel_rfl) (by kernel_rfl) (by kernel_rfl) (fun _ _ _ h => h) (Or.inl ⟨by rfl, ?hy47⟩) (by assumption) ?rest47
          case hy47 => intro w' hSw; obtain ⟨y5, y6, yk, z0, z1, z2, z3, z4⟩ := hX.out w' hSw; (try dsimp only at hSw); go_simp; try with_reducible rfl
          (try simp only [Act.put, List.setIfInBounds_toArray, List.set_cons_zero, List.set_cons_succ, List.getElem_toArray, List.getElem_cons_zero, List.getElem_cons_succ])
          refine wpAnyH_take (i := 25) (v := ?v48) rfl (by kernel_rfl) (by kernel_rfl) (by kernel_rfl) (fun _ _ _ h => h) (Or.inl ⟨by rfl, ?hy48⟩) (by assumption) ?rest48
          case hy48 => intro w' hSw; obtain ⟨y5, y6, yk, z0, z1, z2, z3, z4⟩ := hX.out w' hSw; (try dsimp only at hSw); go_simp; try with_reducible rfl
          (try simp only [Act.put, List.setIfInBounds_toArray, List.set_cons_zero, List.set_cons_succ, List.getElem_toArray, List.getElem_cons_zero, List.getElem_cons_succ])
          refine wpAnyH_take (i := 26) (v := ?v49) rfl (by kernel_rfl) (by kernel_rfl) (by kernel_rfl) (fun _ _ _ h => h) (Or.inl ⟨by rfl, ?hy49⟩) (by assumption) ?rest49
          case hy49 => intro w' hSw; obtain ⟨y5, y6, yk, z0, z1, z2, z3, z4⟩ := hX.out w' hSw; (try dsimp only at hSw); go_simp; try with_reducible rfl
          (try simp only [Act.put, List.setIfInBounds_toArray, List.set_cons_zero, List.set_cons_succ, List.getElem_toArray, List.getElem_cons_zero, List.getElem_cons_succ])
          refine wpAnyH_take (i := 27) (v := ?v50) rfl (by kernel_rfl) (by kernel_rfl) (by kernel_rfl) (fun _ _ _ h => h) (Or.inl ⟨by rfl, ?hy50⟩) (by assumption) ?rest50
          case hy50 => intro w' hSw; obtain ⟨y5, y6, yk, z0, z1, z2, z3, z4⟩ := hX.out w' hSw; (try dsimp only at hSw); go_simp; try with_reducible rfl
          (try simp only [Act.put, List.setIfInBounds_toArray, List.set_cons_zero, List.set_cons_succ, List.getElem_toArray, List.getElem_cons_zero, List.getElem_cons_succ])
          refine wpAnyH_take (i := 28) (v := ?v51) rfl (by kernel_rfl) (by kernel_rfl) (by kernel_rfl) (fun _ _ _ h => h) (Or.inl ⟨by rfl, ?hy51⟩) (by assumption) ?rest51
          case hy51 => intro w' hSw; obtain ⟨y5, y6, yk, z0, z1, z2, z3, z4⟩ := hX.out w' hSw; (try dsimp only at hSw); go_simp; try with_reducible rfl
          (try simp only [Act.put, List.setIfInBounds_toArray, List.set_cons_zero, List.set_cons_succ, List.getElem_toArray, List.getElem_cons_zero, List.getElem_cons_succ])
          refine wpAnyH_take (i := 29) (v := ?v52) rfl (by kernel_rfl) (by kernel_rfl) (by kernel_rfl) (fun _ _ _ h => h) (Or.inl ⟨by rfl, ?hy52⟩) (by assumption) ?rest52
          case hy52 => intro w' hSw; obtain ⟨y5, y6, yk, z0, z1, z2, z3, z4⟩ := hX.out w' hSw; (try dsimp only at hSw); go_simp; try with_reducible rfl
          (try simp only [Act.put, List.setIfInBounds_toArray, List.set_cons_zero, List.set_cons_succ, List.getElem_toArray, List.getElem_cons_zero, List.getElem_cons_succ])
          refine wpAnyH_take (i := 30) (v := ?v53) rfl (by kernel_rfl) (by kernel_rfl) (by kernel_rfl) (fun _ _ _ h => h) (Or.inl ⟨by rfl, ?hy53⟩) (by assumption) ?rest53
          case hy53 => intro w' hSw; obtain ⟨y5, y6, yk, z0, z1, z2, z3, z4⟩ := hX.out w' hSw; (try dsimp only at hSw); go_simp; try with_reducible rfl
          (try simp only [Act.put, List.setIfInBounds_toArray, List.set_cons_zero, List.set_cons_succ, List.getElem_toArray, List.getElem_cons_zero, List.getElem_cons_succ])
          refine wpAnyH_ready (rs := [31]) (by kernel_rfl) (by simp) ?_
          refine AllReadyH.cons rfl (fun K hK => ?_) AllReadyH.nil
          rw [if_pos (by rfl)]
          go_simp
          refine (rvalid_any xv wd hvs.out).mono ?_
          rw [hvo.out]
          rintro e wg ⟨rfl, hb9⟩
          have hbg := hid (hbd.out.trans (hb9.mono hbd.out.size))
          clear hb9
          refine hK.out _ _ ?_ (fun hHeld => ?_)
          · exact hbg.out
          clear hK K
          (try simp only [Act.put, List.setIfInBounds_toArray, List.set_cons_zero, List.set_cons_succ, List.getElem_toArray, List.getElem_cons_zero, List.getElem_cons_succ])
          refine wpAnyH_take (i := 32) (v := ?v54) rfl (by kernel_rfl) (by kernel_rfl) (by kernel_rfl) (fun _ _ _ h => h) (Or.inl ⟨by rfl, ?hy54⟩) (by assumption) ?rest54
          case hy54 => intro w' hSw; obtain ⟨y5, y6, yk, z0, z1, z2, z3, z4⟩ := hX.out w' hSw; (try dsimp only at hSw); go_simp; try with_reducible rfl
          (try simp only [Act.put, List.setIfInBounds_toArray, List.set_cons_zero, List.set_cons_succ, List.getElem_toArray, List.getElem_cons_zero, List.getElem_cons_succ])
          refine wpAnyH_take (i := 33) (v := ?v55) rfl (by kernel_rfl) (by kernel_rfl) (by kernel_rfl) (fun _ _ _ h => h) (Or.inl ⟨by rfl, ?hy55⟩) (by assumption) ?rest55
          case hy55 => intro w' hSw; obtain ⟨y5, y6, yk, z0, z1, z2, z3, z4⟩ := hX.out w' hSw; (try dsimp only at hSw); go_simp; try with_reducible rfl
          (try simp only [Act.put, List.setIfInBounds_toArray, List.set_cons_zero, List.set_cons_succ, List.getElem_toArray, List.getElem_cons_zero, List.getElem_cons_succ])
          refine wpAnyH_take (i := 34) (v := ?v56) rfl (by kernel_rfl) (by kernel_rfl) (by kernel_rfl) (fun _ _ _ h => h) (Or.inl ⟨by rfl, ?hy56⟩) (by assumption) ?rest56
          case hy56 => intro w' hSw; obtain ⟨y5, y6, yk, z0, z1, z2, z3, z4⟩ := hX.out w' hSw; (try dsimp only at hSw); go_simp; try with_reducible rfl
          (try simp only [Act.put, List.setIfInBounds_toArray, List.set_cons_zero, List.set_cons_succ, List.getElem_toArray, List.getElem_cons_zero, List.getElem_cons_succ])
          refine wpAnyH_take (i := 35) (v := ?v57) rfl (by kernel_rfl) (by kernel_rfl) (by kernel_rfl) (fun _ _ _ h => h) (Or.inl ⟨by rfl, ?hy57⟩) (by assumption) ?rest57
          case hy57 => intro w' hSw; obtain ⟨y5, y6, yk, z0, z1, z2, z3, z4⟩ := hX.out w' hSw; (try dsimp only at hSw); go_simp; try with_reducible rfl
          (try simp only [Act.put, List.setIfInBounds_toArray, List.set_cons_zero, List.set_cons_succ, List.getElem_toArray, List.getElem_cons_zero, List.getElem_cons_succ])
          refine wpAnyH_done (by kernel_rfl) ?_ _
          go_wp2_with fail
          go_roundw
          case rel => exact ⟨i + 1, rfl, by have := hltH.out; omega, (hBr.out.trans (hbx.out.mono hBr.out.size)).trans (hbg.out.mono (hBr.out.trans (hbx.out.mono hBr.out.size)).size)⟩
          case measure => simp [intOf]; have := hltH.out; omega
      · have i1 : ¬ ((i : Int) < (o.ws.length : Int)) := by omega
        clear hlt hi
        have hB := hid (hB5.out.trans (hBr.out.mono hB5.out.size))
        go_wp2_with fail
        refine (liveI_any _ (he.out.below hB.out)).mono ?_
        rintro e wd ⟨rfl, hb0⟩
        have hB := hid (hB.out.trans (hb0.mono hB.out.size))
        clear hb0
        go_wp2_with fail
        go_ret
        exact ⟨rfl, hB.out⟩
  · have tc : (o.code != 0) = true := by simpa using hc0
    have hw1 := hwh.out.err hc0
    have t1 : ((o.out.length : Int) == 0) = true := by rw [hw1.1]; rfl
    have t2 : ((o.ws.length : Int) == 0) = true := by rw [hw1.2]; rfl
    clear hc0 hw1
    have hB := hid hB4.out
    go_wp2_with fail
    refine (liveI_any _ (he.out.below hB.out)).mono ?_
    rintro e wd ⟨rfl, hb0⟩
    have hB := hid (hB.out.trans (hb0.mono hB.out.size))
    clear hb0
    go_wp2_with fail
    go_ret
    exact ⟨rfl, hB.out⟩
end
end Go.Proofs.YtdmogoaaecdbaaaGreatDoor

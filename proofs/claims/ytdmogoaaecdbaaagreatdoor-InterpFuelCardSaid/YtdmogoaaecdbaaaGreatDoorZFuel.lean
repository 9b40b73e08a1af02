/- InterpFuel: the walk. -/
import Derived.Test.YtdmogoaaecdbaaaGreatDoorZJb
import Derived.Test.YtdmogoaaecdbaaaGreatDoorZRCheck
namespace Go.Proofs.YtdmogoaaecdbaaaGreatDoor
open Go.RowKit
set_option linter.unusedVariables false
set_option linter.unusedSimpArgs false

theorem OcR.left {w : World} {c a b l : Int} {A1 A2 A3 A4 : Option Addr} {n1 n2 n3 n4 c1 c2 c3 c4 : Nat} {o : Oc} (h : OcR w (.agg #[.int .i64 c, .int .i64 a, .int .i64 b, .slice A1 n1 c1, .slice A2 n2 c2, .slice A3 n3 c3, .slice A4 n4 c4, .int .i64 l]) o) (k : Int) : OcR w (.agg #[.int .i64 c, .int .i64 a, .int .i64 b, .slice A1 n1 c1, .slice A2 n2 c2, .slice A3 n3 c3, .slice A4 n4 c4, .int .i64 k]) { o with left := k } := by
  obtain ⟨hl, B1, d1, B2, d2, B3, d3, B4, d4, e, h1, h2, h3, h4⟩ := h
  injection e with e
  injection e with e
  simp only [List.cons.injEq, Value.int.injEq, Value.slice.injEq, true_and, and_true] at e
  obtain ⟨e1, e2, e3, ⟨e4, e5, e6⟩, ⟨e7, e8, e9⟩, ⟨f1, f2, f3⟩, ⟨f4, f5, f6⟩, f7⟩ := e
  refine ⟨hl, A1, c1, A2, c2, A3, c3, A4, c4, ?_, ?_, ?_, ?_, ?_⟩
  · subst e1 e2 e3 e5 e8 f2 f5; rfl
  · rw [e4]; exact h1
  · rw [e7]; exact h2
  · rw [f1]; exact h3
  · rw [f4]; exact h4
theorem runP_left {p : Pr} {args : List Vl} {src : List Kv} : ∀ (n : Nat) (m : Mc), (runP p args src n m).2.fuel ≤ m.fuel
  | 0, m => Nat.le_refl _
  | n + 1, m => by
    unfold runP
    cases hs : stepP p args src m with
    | inl x =>
      unfold stepP at hs
      split at hs
      · cases hs; exact Nat.le_refl _
      split at hs
      · cases hs; exact Nat.sub_le _ _
      split at hs
      · cases hs
      · cases hs; exact Nat.sub_le _ _
    | inr m' =>
      have := step_fuel hs
      exact Nat.le_trans (runP_left n m') (by omega)
theorem run_left {p : Pr} {args : List Vl} {src : List Kv} {f : Int} (hf : 0 ≤ f) : 0 ≤ (runO p args src true f).left ∧ (runO p args src true f).left ≤ f := by
  unfold runO
  split
  · exact ⟨Int.le_refl _, hf⟩
  split
  · exact ⟨Int.le_refl _, hf⟩
  · have h := runP_left (p := p) (args := args) (src := src) ((mc0 f.toNat).fuel + 1) (mc0 f.toNat)
    have h2 : (endP p args src (mc0 f.toNat)).2.fuel ≤ f.toNat := h
    show 0 ≤ ((endP p args src (mc0 f.toNat)).2.fuel : Int) ∧ ((endP p args src (mc0 f.toNat)).2.fuel : Int) ≤ f
    omega
theorem fuel_law {p : Pr} {args : List Vl} {src : List Kv} {f more : Int} (hf : 0 ≤ f) (hm : 0 ≤ more) (hfm : f + more ≤ 100000) (h73 : (runO p args src true f).code ≠ 73) (h2 : ¬ ((runO p args src true f).code = 2 ∧ (runO p args src true f).left = 0 ∧ (runO p args src true f).at_ = 0)) :
    runO p args src true (f + more) = if p.check.1 = 0 then { runO p args src true f with left := (runO p args src true f).left + more } else runO p args src true f := by
  by_cases hc : p.check.1 = 0
  · rw [if_pos hc]
    have hc' : ¬ p.check.1 ≠ 0 := by simpa using hc
    unfold runO at h73 h2 ⊢
    simp only [if_neg hc'] at h73 h2 ⊢
    by_cases hn : (okArgs p args true f && args.all okA) = false
    · rw [if_pos hn] at h2
      exact absurd ⟨rfl, rfl, rfl⟩ h2
    · rw [if_neg hn] at h73
      have hn2 : ¬ (okArgs p args true (f + more) && args.all okA) = false := by
        rw [Bool.not_eq_false, Bool.and_eq_true] at hn ⊢
        refine ⟨?_, hn.2⟩
        have h1 := hn.1
        unfold okArgs at h1 ⊢
        simp only [Bool.and_eq_true, decide_eq_true_eq] at h1 ⊢
        exact ⟨⟨h1.1.1, by omega⟩, hfm⟩
      rw [if_neg hn, if_neg hn2, show (f + more).toNat = f.toNat + more.toNat by omega, end_fl f.toNat more.toNat h73]
      have e : ∀ (r : Er × Mc) (k : Nat), endO (r.1, r.2.fl (r.2.fuel + k)) = { endO r with left := (endO r).left + (k : Int) } := fun r k => by
        show Oc.mk _ _ _ _ _ _ _ _ = Oc.mk _ _ _ _ _ _ _ _
        congr 1
      rw [e, show ((more.toNat : Nat) : Int) = more by omega]
  · rw [if_neg hc]
    unfold runO
    rw [if_pos hc, if_pos hc]
section
variable {w : World} {Ac Ai Aa Al : Option Addr} {cc ci ca cl : Nat} {p : Pr} {args : List Vl} {src : List Kv} {f more : Int}
set_option maxRecDepth 100000 in
set_option maxHeartbeats 4000000 in
theorem fuelI_any (hj0 : JbArg w Ac Ai Aa Al p args src) (hfr : -9223372036854775808 ≤ f ∧ f ≤ 9223372036854775807) (hmr : -9223372036854775808 ≤ more ∧ more ≤ 9223372036854775807) (he0 : Env w) : Calls Tryz.prog 5 #[.agg #[.int .i64 p.args, .slice Ac p.cs.length cc, .slice Ai p.code.length ci, .slice Aa args.length ca, .slice Al src.length cl, .int .i64 f], .int .i64 more] w fun e w' => e = .returned (.bool true) ∧ Below w.heap.size w w' := by
  have he := hid he0
  have hj := hid hj0
  have hB0 : Below w.heap.size w (w.alloc (.cells #[.int .i64 p.args, .slice Ac p.cs.length cc, .slice Ai p.code.length ci, .slice Aa args.length ca, .slice Al src.length cl, .int .i64 f] 36)) := (Below.refl _ _).alloc (Nat.le_refl _) _
  have kj := hid (Blk.new w 36 #[.int .i64 p.args, .slice Ac p.cs.length cc, .slice Ai p.code.length ci, .slice Aa args.length ca, .slice Al src.length cl, .int .i64 f])
  have hB := hid hB0
  have hlg := hid (fun W => longI_any (w := W) (p := p) (args := args) (src := src) (f := f) (Ac := Ac) (cc := cc) (Ai := Ai) (ci := ci) (Aa := Aa) (ca := ca) (Al := Al) (cl := cl) ⟨hj0.p.n.2, hj0.p.n.1, hj0.n.1, hj0.n.2⟩)
  have hfr' := hid hfr
  have hmr' := hid hmr
  clear hB0 hj0 he0 hfr hmr
  go_enter Tryz.func5, Tryz.ntmps5
  go_upto_region 1 with fail
  generalize w.alloc (.cells #[.int .i64 p.args, .slice Ac p.cs.length cc, .slice Ai p.code.length ci, .slice Aa args.length ca, .slice Al src.length cl, .int .i64 f] 36) = w1 at *
  have x0 : w1.cell? ⟨w.heap.size, 0, none⟩ = some (.int .i64 p.args) := kj.out.cell 0
  have x1 : w1.cell? ⟨w.heap.size, 1, none⟩ = some (.slice Ac p.cs.length cc) := kj.out.cell 1
  have x2 : w1.cell? ⟨w.heap.size, 2, none⟩ = some (.slice Ai p.code.length ci) := kj.out.cell 2
  have x3 : w1.cell? ⟨w.heap.size, 3, none⟩ = some (.slice Aa args.length ca) := kj.out.cell 3
  have x4 : w1.cell? ⟨w.heap.size, 4, none⟩ = some (.slice Al src.length cl) := kj.out.cell 4
  have x5 : w1.cell? ⟨w.heap.size, 5, none⟩ = some (.int .i64 f) := kj.out.cell 5
  go_wp2_with fail
  refine (hlg.out _).mono ?_
  rintro e w2 ⟨rfl, hb0⟩
  have hB := hid (hB.out.trans (hb0.mono hB.out.size))
  have kj := hid (kj.out.below_all hb0)
  clear hlg hb0 x0 x1 x2 x3 x4 x5
  have x5 : w2.cell? ⟨w.heap.size, 5, none⟩ = some (.int .i64 f) := kj.out.cell 5
  cases hl0 : longJ p args src f with
  | true =>
    clear hl0
    go_wp2_with fail
    refine (liveI_any _ (he.out.below hB.out)).mono ?_
    rintro e wd ⟨rfl, hb0⟩
    have hB := hid (hB.out.trans (hb0.mono hB.out.size))
    clear hb0
    go_wp2_with fail
    go_ret
    exact ⟨rfl, hB.out⟩
  | false =>
  have hji := hid (hj.out.jbIn hl0)
  clear hl0 hj
  by_cases c1 : more < 0
  · have d1 : decide (more < 0) = true := decide_eq_true c1
    clear c1
    go_wp2_with fail
    refine (liveI_any _ (he.out.below hB.out)).mono ?_
    rintro e wd ⟨rfl, hb0⟩
    have hB := hid (hB.out.trans (hb0.mono hB.out.size))
    clear hb0
    go_wp2_with fail
    go_ret
    exact ⟨rfl, hB.out⟩
  have d1 : decide (more < 0) = false := decide_eq_false c1
  have h1 := hid (show 0 ≤ more by omega)
  clear c1
  by_cases c2 : f < 0
  · have d2 : decide (f < 0) = true := decide_eq_true c2
    clear c2
    go_wp2_with fail
    refine (liveI_any _ (he.out.below hB.out)).mono ?_
    rintro e wd ⟨rfl, hb0⟩
    have hB := hid (hB.out.trans (hb0.mono hB.out.size))
    clear hb0
    go_wp2_with fail
    go_ret
    exact ⟨rfl, hB.out⟩
  have d2 : decide (f < 0) = false := decide_eq_false c2
  have h2 := hid (show 0 ≤ f by omega)
  clear c2
  by_cases c3 : 5000 < f
  · have d3 : decide (5000 < f) = true := decide_eq_true c3
    clear c3
    go_wp2_with fail
    refine (liveI_any _ (he.out.below hB.out)).mono ?_
    rintro e wd ⟨rfl, hb0⟩
    have hB := hid (hB.out.trans (hb0.mono hB.out.size))
    clear hb0
    go_wp2_with fail
    go_ret
    exact ⟨rfl, hB.out⟩
  have d3 : decide (5000 < f) = false := decide_eq_false c3
  have h3 := hid (show f ≤ 5000 by omega)
  clear c3
  have s1 : IntKind.i64.wrap (5000 - f) = 5000 - f := by rw [IntKind.wrap_i64]; have := h2.out; have := h3.out; omega
  by_cases c4 : 5000 - f < more
  · have d4 : decide (5000 - f < more) = true := decide_eq_true c4
    clear c4
    go_wp2_with fail
    refine (liveI_any _ (he.out.below hB.out)).mono ?_
    rintro e wd ⟨rfl, hb0⟩
    have hB := hid (hB.out.trans (hb0.mono hB.out.size))
    clear hb0
    go_wp2_with fail
    go_ret
    exact ⟨rfl, hB.out⟩
  have d4 : decide (5000 - f < more) = false := decide_eq_false c4
  have h4 := hid (show f + more ≤ 5000 by omega)
  clear c4
  have x0 : w2.cell? ⟨w.heap.size, 0, none⟩ = some (.int .i64 p.args) := kj.out.cell 0
  have x1 : w2.cell? ⟨w.heap.size, 1, none⟩ = some (.slice Ac p.cs.length cc) := kj.out.cell 1
  have x2 : w2.cell? ⟨w.heap.size, 2, none⟩ = some (.slice Ai p.code.length ci) := kj.out.cell 2
  have x3 : w2.cell? ⟨w.heap.size, 3, none⟩ = some (.slice Aa args.length ca) := kj.out.cell 3
  have x4 : w2.cell? ⟨w.heap.size, 4, none⟩ = some (.slice Al src.length cl) := kj.out.cell 4
  have hr1 := hid (hji.out.run hB.out (he.out.below hB.out) f cc ci ca cl)
  go_wp2_with fail
  refine hr1.out.mono ?_
  rintro e w3 ⟨v, sb, rfl, hoc, _, hb0, _⟩
  have hO := hid (fuel_law (p := p) (args := args) (src := src) h2.out h1.out (by have := h4.out; omega))
  have hL := hid (run_left (p := p) (args := args) (src := src) h2.out)
  generalize hoo : runO p args src true f = o at *
  have hoo := hid hoo
  obtain ⟨A1, ac1, A2, ac2, A3, ac3, A4, ac4, rfl, r1, r2, r3, r4⟩ := hoc
  have ho := hid (show OcV w2.heap.size w3 (.agg #[.int .i64 o.code, .int .i64 o.at_, .int .i64 o.ab, .slice A1 o.out.length ac1, .slice A2 o.ws.length ac2, .slice A3 o.rd.length ac3, .slice A4 o.wr.length ac4, .int .i64 o.left]) o from ⟨A1, ac1, A2, ac2, A3, ac3, A4, ac4, rfl, r1, r2, r3, r4⟩)
  clear r1 r2 r3 r4 hr1
  have hb9 : Below w3.heap.size w3 (w3.alloc (.cells #[.int .i64 o.code, .int .i64 o.at_, .int .i64 o.ab, .slice A1 o.out.length ac1, .slice A2 o.ws.length ac2, .slice A3 o.rd.length ac3, .slice A4 o.wr.length ac4, .int .i64 o.left] 29)) := (Below.refl _ _).alloc (Nat.le_refl _) _
  have ko := hid (Blk.new w3 29 #[.int .i64 o.code, .int .i64 o.at_, .int .i64 o.ab, .slice A1 o.out.length ac1, .slice A2 o.ws.length ac2, .slice A3 o.rd.length ac3, .slice A4 o.wr.length ac4, .int .i64 o.left])
  have ho := hid (ho.out.below hb9)
  have kj := hid ((kj.out.below_all hb0).below_all hb9)
  have hB := hid ((hB.out.trans (hb0.mono hB.out.size)).trans (hb9.mono (hB.out.trans (hb0.mono hB.out.size)).size))
  have hjl := hid (show w.heap.size < w3.heap.size from Nat.lt_of_lt_of_le (cell_lt x5) hb0.size)
  clear hb0 hb9 x0 x1 x2 x3 x4 x5
  go_upto_region 4 with fail
  generalize w3.alloc (.cells #[.int .i64 o.code, .int .i64 o.at_, .int .i64 o.ab, .slice A1 o.out.length ac1, .slice A2 o.ws.length ac2, .slice A3 o.rd.length ac3, .slice A4 o.wr.length ac4, .int .i64 o.left] 29) = w4 at *
  generalize w3.heap.size = no at *
  have x0 : w4.cell? ⟨w.heap.size, 0, none⟩ = some (.int .i64 p.args) := kj.out.cell 0
  have x1 : w4.cell? ⟨w.heap.size, 1, none⟩ = some (.slice Ac p.cs.length cc) := kj.out.cell 1
  have x2 : w4.cell? ⟨w.heap.size, 2, none⟩ = some (.slice Ai p.code.length ci) := kj.out.cell 2
  have x3 : w4.cell? ⟨w.heap.size, 3, none⟩ = some (.slice Aa args.length ca) := kj.out.cell 3
  have x4 : w4.cell? ⟨w.heap.size, 4, none⟩ = some (.slice Al src.length cl) := kj.out.cell 4
  have x5 : w4.cell? ⟨w.heap.size, 5, none⟩ = some (.int .i64 f) := kj.out.cell 5
  go_upto_region 5 with fail
  have hb9 : Below w4.heap.size w4 (w4.alloc (.cells #[.int .i64 p.args, .slice Ac p.cs.length cc, .slice Ai p.code.length ci, .slice Aa args.length ca, .slice Al src.length cl, .int .i64 f] 36)) := (Below.refl _ _).alloc (Nat.le_refl _) _
  have kk := hid (Blk.new w4 36 #[.int .i64 p.args, .slice Ac p.cs.length cc, .slice Ai p.code.length ci, .slice Aa args.length ca, .slice Al src.length cl, .int .i64 f])
  have ho := hid (ho.out.below hb9)
  have hnl := hid (show no < w4.heap.size from ko.out.lt)
  have ko := hid (ko.out.below_all hb9)
  have kj := hid (kj.out.below_all hb9)
  have hB := hid (hB.out.trans (hb9.mono hB.out.size))
  clear hb9 x0 x1 x2 x3 x4 x5
  generalize w4.alloc (.cells #[.int .i64 p.args, .slice Ac p.cs.length cc, .slice Ai p.code.length ci, .slice Aa args.length ca, .slice Al src.length cl, .int .i64 f] 36) = w5 at *
  generalize w4.heap.size = nk at *
  have x5 : w5.cell? ⟨w.heap.size, 5, none⟩ = some (.int .i64 f) := kj.out.cell 5
  have y5 : w5.cell? ⟨nk, 5, none⟩ = some (.int .i64 f) := kk.out.cell 5
  have fz := kk.out.frozen 5
  have s2 : IntKind.i64.wrap (f + more) = f + more := by rw [IntKind.wrap_i64]; have := h1.out; have := h2.out; have := h4.out; omega
  go_upto_region 6 with fail
  have u9 : Upd (fun q => q = nk) w5 (w5.setCell ⟨nk, 5, none⟩ (.int .i64 (f + more))) := (Upd.refl (fun q => q = nk) w5).setCell (p := ⟨nk, 5, none⟩) (fun _ => rfl) _
  have kj := hid (kj.out.upd u9 (by have := hjl.out; have := hnl.out; omega))
  have ko := hid (ko.out.upd u9 (by have := hnl.out; omega))
  have ho := hid (ho.out.upd u9 kk.out (by decide) (by decide) (by decide))
  have kk : Hid (Blk (w5.setCell ⟨nk, 5, none⟩ (.int .i64 (f + more))) nk 36 #[.int .i64 p.args, .slice Ac p.cs.length cc, .slice Ai p.code.length ci, .slice Aa args.length ca, .slice Al src.length cl, .int .i64 (f + more)]) := hid (kk.out.set_ 5 _)
  have hB := hid (hB.out.trans (u9.below hB.out.size fun q hq e => by have := hjl.out; have := hnl.out; omega))
  clear u9 x5 y5 fz s2
  generalize w5.setCell ⟨nk, 5, none⟩ (.int .i64 (f + more)) = w6 at *
  have y0 : w6.cell? ⟨nk, 0, none⟩ = some (.int .i64 p.args) := kk.out.cell 0
  have y1 : w6.cell? ⟨nk, 1, none⟩ = some (.slice Ac p.cs.length cc) := kk.out.cell 1
  have y2 : w6.cell? ⟨nk, 2, none⟩ = some (.slice Ai p.code.length ci) := kk.out.cell 2
  have y3 : w6.cell? ⟨nk, 3, none⟩ = some (.slice Aa args.length ca) := kk.out.cell 3
  have y4 : w6.cell? ⟨nk, 4, none⟩ = some (.slice Al src.length cl) := kk.out.cell 4
  have y5 : w6.cell? ⟨nk, 5, none⟩ = some (.int .i64 (f + more)) := kk.out.cell 5
  have hr2 := hid (hji.out.run hB.out (he.out.below hB.out) (f + more) cc ci ca cl)
  go_wp2_with fail
  refine hr2.out.mono ?_
  rintro e w7 ⟨v, sb2, rfl, hoc, _, hb0, _⟩
  generalize hxo : runO p args src true (f + more) = ox at *
  have hxo := hid hxo
  obtain ⟨B1, bc1, B2, bc2, B3, bc3, B4, bc4, rfl, r1, r2, r3, r4⟩ := hoc
  have hx := hid (show OcV w6.heap.size w7 (.agg #[.int .i64 ox.code, .int .i64 ox.at_, .int .i64 ox.ab, .slice B1 ox.out.length bc1, .slice B2 ox.ws.length bc2, .slice B3 ox.rd.length bc3, .slice B4 ox.wr.length bc4, .int .i64 ox.left]) ox from ⟨B1, bc1, B2, bc2, B3, bc3, B4, bc4, rfl, r1, r2, r3, r4⟩)
  clear r1 r2 r3 r4 hr2
  have hb9 : Below w7.heap.size w7 (w7.alloc (.cells #[.int .i64 ox.code, .int .i64 ox.at_, .int .i64 ox.ab, .slice B1 ox.out.length bc1, .slice B2 ox.ws.length bc2, .slice B3 ox.rd.length bc3, .slice B4 ox.wr.length bc4, .int .i64 ox.left] 29)) := (Below.refl _ _).alloc (Nat.le_refl _) _
  have kx := hid (Blk.new w7 29 #[.int .i64 ox.code, .int .i64 ox.at_, .int .i64 ox.ab, .slice B1 ox.out.length bc1, .slice B2 ox.ws.length bc2, .slice B3 ox.rd.length bc3, .slice B4 ox.wr.length bc4, .int .i64 ox.left])
  have hx := hid (hx.out.below hb9)
  have ho := hid ((ho.out.below hb0).below hb9)
  have hol := hid (show no < w7.heap.size from Nat.lt_of_lt_of_le ko.out.lt hb0.size)
  have ko := hid ((ko.out.below_all hb0).below_all hb9)
  have kj := hid ((kj.out.below_all hb0).below_all hb9)
  have hB := hid ((hB.out.trans (hb0.mono hB.out.size)).trans (hb9.mono (hB.out.trans (hb0.mono hB.out.size)).size))
  clear hb0 hb9 y0 y1 y2 y3 y4 y5 kk
  go_upto_region 7 with fail
  generalize w7.alloc (.cells #[.int .i64 ox.code, .int .i64 ox.at_, .int .i64 ox.ab, .slice B1 ox.out.length bc1, .slice B2 ox.ws.length bc2, .slice B3 ox.rd.length bc3, .slice B4 ox.wr.length bc4, .int .i64 ox.left] 29) = w8 at *
  generalize w7.heap.size = nx at *
  have z0 : w8.cell? ⟨no, 0, none⟩ = some (.int .i64 o.code) := ko.out.cell 0
  have z1 : w8.cell? ⟨no, 1, none⟩ = some (.int .i64 o.at_) := ko.out.cell 1
  have z7 : w8.cell? ⟨no, 7, none⟩ = some (.int .i64 o.left) := ko.out.cell 7
  go_cut [71] (fun u wx => wx = w8 ∧ u = .bool ((o.code == 73) || ((o.code == 2) && ((o.left == 0) && (o.at_ == 0)))))
  case first =>
    cases t1 : (o.code == 73) with
    | true =>
      have t1h := hid t1
      go_wp2_with fail
      refine (numI_any _ _).mono ?_
      rintro e wq ⟨rfl, hwq⟩
      obtain rfl := hwq.symm
      go_wp2_with fail
      go_meet
      case rel => exact ⟨rfl, by rw [t1h.out]; rfl⟩
    | false =>
    have t1h := hid t1
    go_wp2_with fail
    refine (numI_any _ _).mono ?_
    rintro e wq ⟨rfl, hwq⟩
    obtain rfl := hwq.symm
    go_wp2_with fail
    refine (numI_any _ _).mono ?_
    rintro e wq ⟨rfl, hwq⟩
    obtain rfl := hwq.symm
    cases t2 : (o.code == 2) with
    | false =>
      have t2h := hid t2
      go_wp2_with fail
      go_meet
      case rel => exact ⟨rfl, by rw [t1h.out, t2h.out]; rfl⟩
    | true =>
      have t2h := hid t2
      cases t3 : (o.left == 0) with
      | false =>
        have t3h := hid t3
        go_wp2_with fail
        go_meet
        case rel => exact ⟨rfl, by rw [t1h.out, t2h.out, t3h.out]; rfl⟩
      | true =>
        have t3h := hid t3
        cases t4 : (o.at_ == 0) with
        | false =>
          have t4h := hid t4
          go_wp2_with fail
          go_meet
          case rel => exact ⟨rfl, by rw [t1h.out, t2h.out, t3h.out, t4h.out]; rfl⟩
        | true =>
          have t4h := hid t4
          go_wp2_with fail
          go_meet
          case rel => exact ⟨rfl, by rw [t1h.out, t2h.out, t3h.out, t4h.out]; rfl⟩
  case rest =>
    obtain ⟨hwx0, rfl⟩ := hcut
    have hwx := hwx0.symm
    subst hwx
    clear hwx0
    clear z0 z1 z7
    cases hb : ((o.code == 73) || ((o.code == 2) && ((o.left == 0) && (o.at_ == 0)))) with
    | true =>
      clear hb
      go_wp2_with fail
      refine (liveI_any _ (he.out.below hB.out)).mono ?_
      rintro e wd ⟨rfl, hb0⟩
      have hB := hid (hB.out.trans (hb0.mono hB.out.size))
      clear hb0
      go_wp2_with fail
      go_ret
      exact ⟨rfl, hB.out⟩
    | false =>
    have hno := hid (show o.code ≠ 73 ∧ ¬ (o.code = 2 ∧ o.left = 0 ∧ o.at_ = 0) from by
      simp only [Bool.or_eq_false_iff, Bool.and_eq_false_iff, beq_eq_false_iff_ne, ne_eq] at hb
      exact ⟨hb.1, fun h => by rcases hb.2 with h1 | h1 | h1 <;> omega⟩)
    clear hb
    have hX := hid (hO.out hno.out.1 hno.out.2)
    clear hO hno
    go_upto_region 9 with fail
    have x0 : w8.cell? ⟨w.heap.size, 0, none⟩ = some (.int .i64 p.args) := kj.out.cell 0
    have x1 : w8.cell? ⟨w.heap.size, 1, none⟩ = some (.slice Ac p.cs.length cc) := kj.out.cell 1
    have x2 : w8.cell? ⟨w.heap.size, 2, none⟩ = some (.slice Ai p.code.length ci) := kj.out.cell 2
    go_wp2_with fail
    refine (rcheck_any p _ Ac Ai cc ci _ (hji.out.hp.below hB.out)).mono ?_
    rintro e w9 ⟨rfl, hb0⟩
    have hB := hid (hB.out.trans (hb0.mono hB.out.size))
    have ho := hid (ho.out.below hb0)
    have hx := hid (hx.out.below hb0)
    have ko := hid (ko.out.below_all hb0)
    have kx := hid (kx.out.below_all hb0)
    clear hb0 x0 x1 x2
    by_cases hc : p.check.1 = 0
    · have t5 : (p.check.1 == 0) = true := by simpa using hc
      have hX2 : Hid (ox = { o with left := o.left + more }) := hid (by have := hX.out; rw [if_pos hc] at this; exact this)
      clear hc
      have y7 : w9.cell? ⟨no, 7, none⟩ = some (.int .i64 o.left) := ko.out.cell 7
      have fz := ko.out.frozen 7
      have s2 : IntKind.i64.wrap (o.left + more) = o.left + more := by rw [IntKind.wrap_i64]; have := h1.out; have := h2.out; have := h4.out; have := hL.out; omega
      go_upto_region 12 with fail
      have u9 : Upd (fun q => q = no) w9 (w9.setCell ⟨no, 7, none⟩ (.int .i64 (o.left + more))) := (Upd.refl (fun q => q = no) w9).setCell (p := ⟨no, 7, none⟩) (fun _ => rfl) _
      have kx := hid (kx.out.upd u9 (by have := hol.out; omega))
      have hx := hid (hx.out.upd u9 ko.out (by decide) (by decide) (by decide))
      have ho := hid (ho.out.upd u9 ko.out (by decide) (by decide) (by decide))
      have ko : Hid (Blk (w9.setCell ⟨no, 7, none⟩ (.int .i64 (o.left + more))) no 29 #[.int .i64 o.code, .int .i64 o.at_, .int .i64 o.ab, .slice A1 o.out.length ac1, .slice A2 o.ws.length ac2, .slice A3 o.rd.length ac3, .slice A4 o.wr.length ac4, .int .i64 (o.left + more)]) := hid (ko.out.set_ 7 _)
      have hB := hid (hB.out.trans (u9.below hB.out.size fun q hq e => by have := hjl.out; omega))
      clear u9 y7 fz s2
      generalize w9.setCell ⟨no, 7, none⟩ (.int .i64 (o.left + more)) = w10 at *
      have hro : Hid (OcR w10 (.agg #[.int .i64 o.code, .int .i64 o.at_, .int .i64 o.ab, .slice A1 o.out.length ac1, .slice A2 o.ws.length ac2, .slice A3 o.rd.length ac3, .slice A4 o.wr.length ac4, .int .i64 (o.left + more)]) ox) := hid (by rw [hX2.out]; exact OcR.left ho.out.read (o.left + more))
      have hrx : Hid (OcR w10 (.agg #[.int .i64 ox.code, .int .i64 ox.at_, .int .i64 ox.ab, .slice B1 ox.out.length bc1, .slice B2 ox.ws.length bc2, .slice B3 ox.rd.length bc3, .slice B4 ox.wr.length bc4, .int .i64 ox.left]) ox) := hid hx.out.read
      have hsm := hid (rsameB_any hro.out hrx.out)
      have x0 : w10.cell? ⟨no, 0, none⟩ = some (.int .i64 o.code) := ko.out.cell 0
      have x1 : w10.cell? ⟨no, 1, none⟩ = some (.int .i64 o.at_) := ko.out.cell 1
      have x2 : w10.cell? ⟨no, 2, none⟩ = some (.int .i64 o.ab) := ko.out.cell 2
      have x3 : w10.cell? ⟨no, 3, none⟩ = some (.slice A1 o.out.length ac1) := ko.out.cell 3
      have x4 : w10.cell? ⟨no, 4, none⟩ = some (.slice A2 o.ws.length ac2) := ko.out.cell 4
      have x5 : w10.cell? ⟨no, 5, none⟩ = some (.slice A3 o.rd.length ac3) := ko.out.cell 5
      have x6 : w10.cell? ⟨no, 6, none⟩ = some (.slice A4 o.wr.length ac4) := ko.out.cell 6
      have x7 : w10.cell? ⟨no, 7, none⟩ = some (.int .i64 (o.left + more)) := ko.out.cell 7
      have y0 : w10.cell? ⟨nx, 0, none⟩ = some (.int .i64 ox.code) := kx.out.cell 0
      have y1 : w10.cell? ⟨nx, 1, none⟩ = some (.int .i64 ox.at_) := kx.out.cell 1
      have y2 : w10.cell? ⟨nx, 2, none⟩ = some (.int .i64 ox.ab) := kx.out.cell 2
      have y3 : w10.cell? ⟨nx, 3, none⟩ = some (.slice B1 ox.out.length bc1) := kx.out.cell 3
      have y4 : w10.cell? ⟨nx, 4, none⟩ = some (.slice B2 ox.ws.length bc2) := kx.out.cell 4
      have y5 : w10.cell? ⟨nx, 5, none⟩ = some (.slice B3 ox.rd.length bc3) := kx.out.cell 5
      have y6 : w10.cell? ⟨nx, 6, none⟩ = some (.slice B4 ox.wr.length bc4) := kx.out.cell 6
      have y7 : w10.cell? ⟨nx, 7, none⟩ = some (.int .i64 ox.left) := kx.out.cell 7
      go_wp2_with fail
      refine hsm.out.mono ?_
      rintro e w11 ⟨rfl, hb0⟩
      have hB := hid (hB.out.trans (hb0.mono hB.out.size))
      clear hb0 hsm x0 y0 x1 y1 x2 y2 x3 y3 x4 y4 x5 y5 x6 y6 x7 y7
      go_wp2_with fail
      refine (liveI_any _ (he.out.below hB.out)).mono ?_
      rintro e wd ⟨rfl, hb0⟩
      have hB := hid (hB.out.trans (hb0.mono hB.out.size))
      clear hb0
      go_wp2_with fail
      go_ret
      exact ⟨rfl, hB.out⟩
    · have t5 : (p.check.1 == 0) = false := by simpa using hc
      have hX2 : Hid (ox = o) := hid (by have := hX.out; rw [if_neg hc] at this; exact this)
      clear hc
      go_upto_region 12 with fail
      have hro : Hid (OcR w9 (.agg #[.int .i64 o.code, .int .i64 o.at_, .int .i64 o.ab, .slice A1 o.out.length ac1, .slice A2 o.ws.length ac2, .slice A3 o.rd.length ac3, .slice A4 o.wr.length ac4, .int .i64 o.left]) ox) := hid (by rw [hX2.out]; exact ho.out.read)
      have hrx : Hid (OcR w9 (.agg #[.int .i64 ox.code, .int .i64 ox.at_, .int .i64 ox.ab, .slice B1 ox.out.length bc1, .slice B2 ox.ws.length bc2, .slice B3 ox.rd.length bc3, .slice B4 ox.wr.length bc4, .int .i64 ox.left]) ox) := hid hx.out.read
      have hsm := hid (rsameB_any hro.out hrx.out)
      have x0 : w9.cell? ⟨no, 0, none⟩ = some (.int .i64 o.code) := ko.out.cell 0
      have x1 : w9.cell? ⟨no, 1, none⟩ = some (.int .i64 o.at_) := ko.out.cell 1
      have x2 : w9.cell? ⟨no, 2, none⟩ = some (.int .i64 o.ab) := ko.out.cell 2
      have x3 : w9.cell? ⟨no, 3, none⟩ = some (.slice A1 o.out.length ac1) := ko.out.cell 3
      have x4 : w9.cell? ⟨no, 4, none⟩ = some (.slice A2 o.ws.length ac2) := ko.out.cell 4
      have x5 : w9.cell? ⟨no, 5, none⟩ = some (.slice A3 o.rd.length ac3) := ko.out.cell 5
      have x6 : w9.cell? ⟨no, 6, none⟩ = some (.slice A4 o.wr.length ac4) := ko.out.cell 6
      have x7 : w9.cell? ⟨no, 7, none⟩ = some (.int .i64 o.left) := ko.out.cell 7
      have y0 : w9.cell? ⟨nx, 0, none⟩ = some (.int .i64 ox.code) := kx.out.cell 0
      have y1 : w9.cell? ⟨nx, 1, none⟩ = some (.int .i64 ox.at_) := kx.out.cell 1
      have y2 : w9.cell? ⟨nx, 2, none⟩ = some (.int .i64 ox.ab) := kx.out.cell 2
      have y3 : w9.cell? ⟨nx, 3, none⟩ = some (.slice B1 ox.out.length bc1) := kx.out.cell 3
      have y4 : w9.cell? ⟨nx, 4, none⟩ = some (.slice B2 ox.ws.length bc2) := kx.out.cell 4
      have y5 : w9.cell? ⟨nx, 5, none⟩ = some (.slice B3 ox.rd.length bc3) := kx.out.cell 5
      have y6 : w9.cell? ⟨nx, 6, none⟩ = some (.slice B4 ox.wr.length bc4) := kx.out.cell 6
      have y7 : w9.cell? ⟨nx, 7, none⟩ = some (.int .i64 ox.left) := kx.out.cell 7
      go_wp2_with fail
      refine hsm.out.mono ?_
      rintro e w11 ⟨rfl, hb0⟩
      have hB := hid (hB.out.trans (hb0.mono hB.out.size))
      clear hb0 hsm x0 y0 x1 y1 x2 y2 x3 y3 x4 y4 x5 y5 x6 y6 x7 y7
      go_wp2_with fail
      refine (liveI_any _ (he.out.below hB.out)).mono ?_
      rintro e wd ⟨rfl, hb0⟩
      have hB := hid (hB.out.trans (hb0.mono hB.out.size))
      clear hb0
      go_wp2_with fail
      go_ret
      exact ⟨rfl, hB.out⟩
end
end Go.Proofs.YtdmogoaaecdbaaaGreatDoor

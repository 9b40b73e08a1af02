/- Texts of the proof, joined: ILaw, ISame, ILive, INames. -/
import Derived.Test.YtdmogoaaecdbaaaGreatDoorJ18
import Derived.Deep.CutBlock
import Derived.Deep.DeepCutAuto
namespace Go.Proofs.YtdmogoaaecdbaaaGreatDoor
open Go.RowKit
set_option linter.unusedVariables false
set_option linter.unusedSimpArgs false

theorem OcV.base {n0 n1 : Nat} {w : World} {v : Value} {o : Oc} (h : OcV n0 w v o) (hl : n1 ≤ n0) : OcV n1 w v o := by
  obtain ⟨A1, c1, A2, c2, A3, c3, A4, c4, e, h1, h2, h3, h4⟩ := h
  exact ⟨A1, c1, A2, c2, A3, c3, A4, c4, e, own_base hl h1, own_base hl h2, own_base hl h3, own_base hl h4⟩
theorem AskV.base {n0 n1 : Nat} {w : World} {F : Fr} {ks : List ByteArray} (h : AskV n0 w F ks) (hl : n1 ≤ n0) : AskV n1 w F ks := by
  obtain ⟨A, c, h1, h2⟩ := h
  exact ⟨A, c, h1, own_base hl h2⟩
theorem OcV.upd {n0 b : Nat} {w w' : World} {v : Value} {o : Oc} {t : TypeId} {cs : Array Value} (h : OcV n0 w v o) (hu : Upd (fun q => q = b) w w') (hb : Blk w b t cs) (h1 : 55 ≠ t) (h2 : 57 ≠ t) (h3 : 9 ≠ t) : OcV n0 w' v o := by
  obtain ⟨A1, c1, A2, c2, A3, c3, A4, c4, e, r1, r2, r3, r4⟩ := h
  exact ⟨A1, c1, A2, c2, A3, c3, A4, c4, e, own_updG r1 hu hb h1, own_updG r2 hu hb h2, own_updG r3 hu hb h3, own_updG r4 hu hb h3⟩
theorem own_updO {w w' : World} {base base' : Nat} {e t : TypeId} {size n size' n' : Nat} {v v' : Value} {xs xs' : List Value} (h : w.ownsRow base e size v n xs) (hu : Upd (fun q => v'.ownBlock = some q) w w') (h' : w.ownsRow base' t size' v' n' xs') (hne : e ≠ t) : w'.ownsRow base e size v n xs := by
  refine own_keepI h fun q hq => ?_
  obtain ⟨cur, hc⟩ := own_blk0 h hq
  refine hu.block q hc.lt fun e2 => ?_
  obtain ⟨cur', hc'⟩ := own_blk0 h' e2
  exact hne (blk_ty hc hc')
theorem blk_updO {w w' : World} {b base' : Nat} {e t : TypeId} {size' n' : Nat} {v' : Value} {cs : Array Value} {xs' : List Value} (h : Blk w b e cs) (hu : Upd (fun q => v'.ownBlock = some q) w w') (h' : w.ownsRow base' t size' v' n' xs') (hne : e ≠ t) : Blk w' b e cs :=
  h.upd hu fun e2 => by
    obtain ⟨cur', hc'⟩ := own_blk0 h' e2
    exact hne (blk_ty h hc')
theorem OcV.updO {n0 base' : Nat} {w w' : World} {v v' : Value} {o : Oc} {t : TypeId} {size' n' : Nat} {xs' : List Value} (h : OcV n0 w v o) (hu : Upd (fun q => v'.ownBlock = some q) w w') (h' : w.ownsRow base' t size' v' n' xs') (h1 : 55 ≠ t) (h2 : 57 ≠ t) (h3 : 9 ≠ t) : OcV n0 w' v o := by
  obtain ⟨A1, c1, A2, c2, A3, c3, A4, c4, e, r1, r2, r3, r4⟩ := h
  exact ⟨A1, c1, A2, c2, A3, c3, A4, c4, e, own_updO r1 hu h' h1, own_updO r2 hu h' h2, own_updO r3 hu h' h3, own_updO r4 hu h' h3⟩
theorem AskV.updO {n0 base' : Nat} {w w' : World} {F : Fr} {ks : List ByteArray} {v' : Value} {t : TypeId} {size' n' : Nat} {xs' : List Value} (h : AskV n0 w F ks) (hu : Upd (fun q => v'.ownBlock = some q) w w') (h' : w.ownsRow base' t size' v' n' xs') (h1 : 50 ≠ t) (h3 : 9 ≠ t) : AskV n0 w' F ks := by
  obtain ⟨A, c, e1, e2⟩ := h
  exact ⟨A, c, blk_updO e1 hu h' h1, own_updO e2 hu h' h3⟩
/-- a row of one's own, away from a block of another type -/
theorem Rd.away {w : World} {base sb : Nat} {e t : TypeId} {size n c : Nat} {A : Option Addr} {xs : List Value} {cs : Array Value} (h : w.ownsRow base e size (.slice A n c) n xs) (hb : Blk w sb t cs) (hne : e ≠ t) : Rd (fun q => q < w.heap.size ∧ q ≠ sb) w size A n xs := by
  have h1 := Rd.of_own' h
  refine ⟨h1.1, fun hn => ?_⟩
  obtain ⟨b, o, e1, hS, hl, hc⟩ := h1.2 hn
  refine ⟨b, o, e1, ⟨hl, fun e2 => ?_⟩, hl, hc⟩
  subst e2
  obtain ⟨cur, hk⟩ := own_blk0 h (q := b) (by rw [e1]; rfl)
  exact hne (blk_ty hk hb)
theorem vcellsI_one (l : List Vl) : ∀ u ∈ vcells l, u.oneCell' = true := by
  intro u hu
  obtain ⟨x, _, hx⟩ := List.mem_flatMap.1 hu
  have hx : u ∈ [.int .i64 x.k, .int .i64 x.n, .string x.s] := hx
  simp only [List.mem_cons, List.not_mem_nil, or_false] at hx
  rcases hx with rfl | rfl | rfl <;> rfl
theorem icellsI_one (l : List Is) : ∀ u ∈ icells l, u.oneCell' = true := by
  intro u hu
  obtain ⟨x, _, hx⟩ := List.mem_flatMap.1 hu
  have hx : u ∈ [.int .i64 x.op, .int .i64 x.n] := hx
  simp only [List.mem_cons, List.not_mem_nil, or_false] at hx
  rcases hx with rfl | rfl <;> rfl
theorem srcCells_one (l : List Kv) : ∀ u ∈ srcCells l, u.oneCell' = true := by
  intro u hu
  obtain ⟨x, _, hx⟩ := List.mem_flatMap.1 hu
  simp only [List.mem_cons, List.not_mem_nil, or_false] at hx
  rcases hx with rfl | rfl | rfl | rfl <;> rfl
theorem info_insI : (Tryz.prog.info? 69).map (fun i => (i.zero, i.size, i.bytes)) = some (some (.agg #[.int .i64 0, .int .i64 0]), 2, 16) := by kernel_rfl
theorem info_itmI : (Tryz.prog.info? 63).map (fun i => (i.zero, i.size, i.bytes)) = some (some (.agg #[.string ⟨#[]⟩, .int .i64 0, .int .i64 0, .string ⟨#[]⟩]), 4, 48) := by kernel_rfl
theorem set_oc' {W : World} {m : Nat} {t : TypeId} {u0 u1 u2 u3 u4 u5 u6 u7 : Value} (h : Blk W m t #[u0, u1, u2, u3, u4, u5, u6, u7]) (v0 v1 v2 v3 v4 v5 v6 v7 : Value) :
    ∃ W', ((((((((W.setCell ⟨m, 0, none⟩ (v0)).setCell ⟨m, 1, none⟩ (v1)).setCell ⟨m, 2, none⟩ (v2)).setCell ⟨m, 3, none⟩ (v3)).setCell ⟨m, 4, none⟩ (v4)).setCell ⟨m, 5, none⟩ (v5)).setCell ⟨m, 6, none⟩ (v6)).setCell ⟨m, 7, none⟩ (v7)) = W' ∧ Blk W' m t #[v0, v1, v2, v3, v4, v5, v6, v7] ∧ Upd (fun q => q = m) W W' :=
  ⟨_, rfl, by simpa using (((((((h.set_ 0 v0).set_ 1 v1).set_ 2 v2).set_ 3 v3).set_ 4 v4).set_ 5 v5).set_ 6 v6).set_ 7 v7, ((((((((Upd.refl (fun q => q = m) W).setCell (p := ⟨m, 0, none⟩) (fun _ => rfl) v0).setCell (p := ⟨m, 1, none⟩) (fun _ => rfl) v1).setCell (p := ⟨m, 2, none⟩) (fun _ => rfl) v2).setCell (p := ⟨m, 3, none⟩) (fun _ => rfl) v3).setCell (p := ⟨m, 4, none⟩) (fun _ => rfl) v4).setCell (p := ⟨m, 5, none⟩) (fun _ => rfl) v5).setCell (p := ⟨m, 6, none⟩) (fun _ => rfl) v6).setCell (p := ⟨m, 7, none⟩) (fun _ => rfl) v7⟩
section
variable {w : World} {F : Fr}
theorem run_all (f : Int) (h : FrIn w F) (han : F.args.length ≤ 1000000) (hsz0 : ∀ v ∈ F.args, v.s.size ≤ 9223372036854775806) (hcs : ∀ v ∈ F.p.cs, v.rng) (har : ∀ v ∈ F.args, v.rng) (hsr : ∀ x ∈ F.src, x.2.rng) (hsrc : ∀ x ∈ F.src, x.2.s.size ≤ 9223372036854775806) (hsl : F.src.length ≤ 1000000) :
    Calls Tryz.prog 14 #[.agg #[.int .i64 F.p.args, .slice F.Ac F.p.cs.length F.cc, .slice F.Ai F.p.code.length F.ci], .slice F.Aa F.args.length F.ca, .iface 41 (.pointer (some ⟨F.sb, 0, none⟩)), .int .i64 f] w fun e w' => ∃ v, e = .returned v ∧ OcV w.heap.size w' v (runO F.p F.args F.src true f) ∧ AskV w.heap.size w' F (askO F.p F.args F.src true f) ∧ Upd (fun q => q = F.sb) w w' := by
  have hnone : ∀ w', Below w.heap.size w w' → AskV w.heap.size w' F [] := fun w' hb => ⟨none, 0, h.sblk.below_all hb, World.ownsRow_nil _ _ _ _⟩
  by_cases hc : F.p.check.1 = 0
  · have hc' : ¬ F.p.check.1 ≠ 0 := by simpa using hc
    by_cases hno : (okArgs F.p F.args true f && F.args.all okA) = false
    · refine (run_refused (args := F.args) (Aa := F.Aa) (ca := F.ca) _ f 2 0 fun w1 hb => start_no _ true f (h.below hb).code hc (h.below hb).args han hsz0 (.inr ⟨rfl, F.sb, rfl⟩) hno).mono ?_
      rintro e w' ⟨rfl, hb⟩
      refine ⟨_, rfl, ?_, ?_, Upd.of_below' hb _⟩
      · unfold runO
        rw [if_neg hc', if_pos hno]
        exact ocv0 _ _ _ _
      · unfold askO
        rw [if_neg hc', if_pos hno]
        exact hnone _ hb
    · have hyes : okArgs F.p F.args true f = true ∧ F.args.all okA = true := by
        rw [Bool.not_eq_false, Bool.and_eq_true] at hno; exact hno
      have hk := hyes.1
      unfold okArgs at hk
      simp only [Bool.and_eq_true, decide_eq_true_eq] at hk
      obtain ⟨k, rfl⟩ : ∃ k : Nat, f = k := ⟨f.toNat, by omega⟩
      refine (run_goes k h hc han hsz0 hk.1.1.1 (by omega) hyes.2 hcs har hsr hsrc hsl).mono ?_
      rintro e w' ⟨v, rfl, h1, h2, h3⟩
      refine ⟨v, rfl, ?_, ?_, h3⟩
      · unfold runO
        rw [if_neg hc', if_neg hno]
        exact h1
      · unfold askO
        rw [if_neg hc', if_neg hno]
        exact h2
  · refine (run_refused (args := F.args) (Aa := F.Aa) (ca := F.ca) _ f F.p.check.1 F.p.check.2 fun w1 hb => start_bad _ f (h.below hb).code hc).mono ?_
    rintro e w' ⟨rfl, hb⟩
    refine ⟨_, rfl, ?_, ?_, Upd.of_below' hb _⟩
    · unfold runO
      rw [if_pos hc]
      exact ocv0 _ _ _ _
    · unfold askO
      rw [if_pos hc]
      exact hnone _ hb
end
theorem below_grB {W W' : World} {base : Nat} {e : TypeId} {size n : Nat} {v : Value} {xs : List Value} (h : W.ownsRow base e size v n xs) (hl : base ≤ W.heap.size) (hg : W.grownBy W' v.ownBlock) : Below base W W' :=
  (Below.refl base W).grown hg hl fun k hk => (h.lt k hk).1
theorem Upd.of_own {W W' : World} {v : Value} (hg : W.grownBy W' v.ownBlock) : Upd (fun q => v.ownBlock = some q) W W' := (Upd.refl _ _).grown hg fun q hq _ => hq
theorem runL_res {W : World} {n : Nat} {c a b l : Int} {A1 A2 A3 A4 : Option Addr} {n1 n2 n3 n4 c1 c2 c3 c4 : Nat} {p : Value} {tmps : Array Value} (ha : Blk W n 29 #[.int .i64 c, .int .i64 a, .int .i64 b, .slice A1 n1 c1, .slice A2 n2 c2, .slice A3 n3 c3, .slice A4 n4 c4, .int .i64 l]) (h2 : tmps.getD 2 undef = .pointer (some ⟨n, 0, none⟩)) (h3 : tmps.getD 3 undef = p) :
    (results Tryz.f19 tmps).run Tryz.prog W = .ok (.tuple #[.agg #[.int .i64 c, .int .i64 a, .int .i64 b, .slice A1 n1 c1, .slice A2 n2 c2, .slice A3 n3 c3, .slice A4 n4 c4, .int .i64 l], p]) W := by
  have x0 := ha.cell 0
  have x1 := ha.cell 1
  have x2 := ha.cell 2
  have x3 := ha.cell 3
  have x4 := ha.cell 4
  have x5 := ha.cell 5
  have x6 := ha.cell 6
  have x7 := ha.cell 7
  simp only [List.getElem?_toArray, List.getElem?_cons_zero, List.getElem?_cons_succ] at x0 x1 x2 x3 x4 x5 x6 x7
  have g2 : tmps[2]?.getD undef = .pointer (some ⟨n, 0, none⟩) := by simpa using h2
  have g3 : tmps[3]?.getD undef = p := by simpa using h3
  simp [Go.results, Tryz.results19, asAddr, g2, g3, go_sem, x0, x1, x2, x3, x4, x5, x6, x7]
theorem row_blk {w : World} {base : Nat} {e : TypeId} {size n c : Nat} {A : Option Addr} {xs : List Value} (h : w.ownsRow base e size (.slice A n c) n xs) (hn : 0 < n) : ∃ b cs, A = some ⟨b, 0, none⟩ ∧ Blk w b e cs ∧ n * size ≤ cs.size := by
  rcases h.2 with ⟨h0, h1⟩ | ⟨g', cap', cur, hv', _, hh, hc', _, hs', _⟩
  · injection h0 with _ h0; omega
  · injection hv' with h1
    exact ⟨g', cur, h1, hh, by rw [hs']; exact Nat.mul_le_mul_right _ hc'⟩
section
variable {w : World} {p : Pr} {args : List Vl} {src : List Kv} {Ac Ai Aa Al : Option Addr} {cc ci ca cl : Nat} {f : Int} {Sp Sa Sl : Nat → Prop}
/-- what lies behind the law's run: the source's list and what was asked -/
def SrcV (n0 : Nat) (w : World) (sb : Nat) (src : List Kv) (ks : List ByteArray) : Prop := ∃ Bl dl A c, Blk w sb 50 #[.slice Bl src.length dl, .slice A ks.length c] ∧ w.ownsRow n0 63 4 (.slice Bl src.length dl) src.length (srcCells src) ∧ w.ownsRow n0 9 1 (.slice A ks.length c) ks.length (strs ks)
set_option maxRecDepth 100000 in
set_option maxHeartbeats 4000000 in
theorem runL_any (hp : PrIn Sp w Ac Ai p) (ha : Rd Sa w 3 Aa args.length (vcells args)) (hs : Rd Sl w 4 Al src.length (srcCells src)) (hbd0 : p.cs.length ≤ 2000 ∧ p.code.length ≤ 2000 ∧ args.length ≤ 2000 ∧ src.length ≤ 2000) (hsz0 : ∀ v ∈ args, v.s.size ≤ 9223372036854775806) (hcs : ∀ v ∈ p.cs, v.rng) (har : ∀ v ∈ args, v.rng) (hsr : ∀ x ∈ src, x.2.rng) (hsrc : ∀ x ∈ src, x.2.s.size ≤ 9223372036854775806) (he : Env w) :
    Calls Tryz.prog 19 #[.agg #[.int .i64 p.args, .slice Ac p.cs.length cc, .slice Ai p.code.length ci, .slice Aa args.length ca, .slice Al src.length cl, .int .i64 f]] w fun e w' => ∃ v sb, e = .returned (.tuple #[v, .pointer (some ⟨sb, 0, none⟩)]) ∧ OcV w.heap.size w' v (runO p args src true f) ∧ SrcV w.heap.size w' sb src (askO p args src true f) ∧ Below w.heap.size w w' ∧ w.heap.size ≤ sb := by
  have hrunA := hid (fun (W : World) (G : Fr) (e1 : G.p = p) (e2 : G.args = args) (e3 : G.src = src) (hG : FrIn W G) => run_all (F := G) f hG (by rw [e2]; omega) (by rw [e2]; exact hsz0) (by rw [e1]; exact hcs) (by rw [e2]; exact har) (by rw [e3]; exact hsr) (by rw [e3]; exact hsrc) (by rw [e3]; omega))
  have hpr := hid (show (∀ v ∈ p.cs, v.s.size ≤ 9223372036854775806) ∧ p.cs.length ≤ 1000000000 ∧ p.code.length ≤ 1000000000 from ⟨hp.t, hp.l⟩)
  have hbd := hid hbd0
  have hE := hid he
  have hB0 : Below w.heap.size w ((w.alloc (.cells #[.int .i64 p.args, .slice Ac p.cs.length cc, .slice Ai p.code.length ci, .slice Aa args.length ca, .slice Al src.length cl, .int .i64 f] 36)).alloc (.cells #[.int .i64 0, .int .i64 0, .int .i64 0, .slice none 0 0, .slice none 0 0, .slice none 0 0, .slice none 0 0, .int .i64 0] 29)) := below_two _ _
  have kj := hid (show Blk ((w.alloc (.cells #[.int .i64 p.args, .slice Ac p.cs.length cc, .slice Ai p.code.length ci, .slice Aa args.length ca, .slice Al src.length cl, .int .i64 f] 36)).alloc (.cells #[.int .i64 0, .int .i64 0, .int .i64 0, .slice none 0 0, .slice none 0 0, .slice none 0 0, .slice none 0 0, .int .i64 0] 29)) w.heap.size 36 #[.int .i64 p.args, .slice Ac p.cs.length cc, .slice Ai p.code.length ci, .slice Aa args.length ca, .slice Al src.length cl, .int .i64 f] from (Blk.new w _ _).alloc _)
  have ko := hid (show Blk ((w.alloc (.cells #[.int .i64 p.args, .slice Ac p.cs.length cc, .slice Ai p.code.length ci, .slice Aa args.length ca, .slice Al src.length cl, .int .i64 f] 36)).alloc (.cells #[.int .i64 0, .int .i64 0, .int .i64 0, .slice none 0 0, .slice none 0 0, .slice none 0 0, .slice none 0 0, .int .i64 0] 29)) (w.heap.size + 1) 29 #[.int .i64 0, .int .i64 0, .int .i64 0, .slice none 0 0, .slice none 0 0, .slice none 0 0, .slice none 0 0, .int .i64 0] from Blk.new' _ _ _ (by simp))
  have hs1 : Hid (((w.alloc (.cells #[.int .i64 p.args, .slice Ac p.cs.length cc, .slice Ai p.code.length ci, .slice Aa args.length ca, .slice Al src.length cl, .int .i64 f] 36)).alloc (.cells #[.int .i64 0, .int .i64 0, .int .i64 0, .slice none 0 0, .slice none 0 0, .slice none 0 0, .slice none 0 0, .int .i64 0] 29)).heap.size = w.heap.size + 2) := hid (by simp)
  have hB1 := hid hB0
  have hrc := hid (hp.c.all.below_all hB0)
  have hri := hid (hp.i.all.below_all hB0)
  have hra := hid (ha.all.below_all hB0)
  have hrl := hid (hs.all.below_all hB0)
  obtain ⟨iv, hiv, hiv0, hiv1, hiv2⟩ := info_parts info_valI
  obtain ⟨ii, hii, hii0, hii1, hii2⟩ := info_parts info_insI
  obtain ⟨il, hil, hil0, hil1, hil2⟩ := info_parts info_itmI
  clear hB0 hp ha hs hbd0 hsz0 hcs har hsr hsrc he
  go_enter Tryz.func19, Tryz.ntmps19
  go_upto_region 1 with fail
  generalize (w.alloc (.cells #[.int .i64 p.args, .slice Ac p.cs.length cc, .slice Ai p.code.length ci, .slice Aa args.length ca, .slice Al src.length cl, .int .i64 f] 36)).alloc (.cells #[.int .i64 0, .int .i64 0, .int .i64 0, .slice none 0 0, .slice none 0 0, .slice none 0 0, .slice none 0 0, .int .i64 0] 29) = w1 at *
  have x4 : (w1.alloc (.cells #[] 63)).cell? ⟨w.heap.size, 4, none⟩ = some (.slice Al src.length cl) := (kj.out.alloc _).cell 4
  go_upto_region 2 with (
    at_builtin
    refine wpList_copy_rd w1 rfl (.tmp 8) (.tmp 10) 34 rfl 63 il _ 4 48 Tryz.underlying34 hil hil0 hil1 hil2 rfl (by omega) _ rfl rfl _ Al src.length cl (srcCells src) rfl hrl.out (srcCells_one src) (by have := hbd.out; simp only [maxLen]; omega) (by have := hbd.out; omega) ?_
    intro Bl dl wa hown0 hba0
    have hownwa := hid hown0
    have hbawa := hid hba0
    clear hown0 hba0)
  have ksb := hid (Blk.new wa 50 #[.slice Bl src.length dl, .slice none 0 0])
  have hB2 : Hid (Below w1.heap.size w1 (wa.alloc (.cells #[.slice Bl src.length dl, .slice none 0 0] 50))) := hid (hbawa.out.alloc hbawa.out.size _)
  have osrc : Hid ((wa.alloc (.cells #[.slice Bl src.length dl, .slice none 0 0] 50)).ownsRow w1.heap.size 63 4 (.slice Bl src.length dl) src.length (srcCells src)) := hid (own_below hownwa.out ((Below.refl _ _).alloc (Nat.le_refl _) _))
  have hsb0 := hid hbawa.out.size
  clear hownwa hbawa x4 hrl
  generalize wa.alloc (.cells #[.slice Bl src.length dl, .slice none 0 0] 50) = w2 at *
  generalize wa.heap.size = sb at *
  have kj2 := hid (kj.out.below_all hB2.out)
  have ko2 := hid (ko.out.below_all hB2.out)
  clear kj ko
  have x0 : w2.cell? ⟨w.heap.size, 0, none⟩ = some (.int .i64 p.args) := kj2.out.cell 0
  have x1 : w2.cell? ⟨w.heap.size, 1, none⟩ = some (.slice Ac p.cs.length cc) := kj2.out.cell 1
  have x2 : w2.cell? ⟨w.heap.size, 2, none⟩ = some (.slice Ai p.code.length ci) := kj2.out.cell 2
  go_upto_region 3 with fail
  have kp := hid (Blk.new w2 33 #[.int .i64 p.args, .slice Ac p.cs.length cc, .slice Ai p.code.length ci])
  have hb9 : Below w2.heap.size w2 (w2.alloc (.cells #[.int .i64 p.args, .slice Ac p.cs.length cc, .slice Ai p.code.length ci] 33)) := (Below.refl _ _).alloc (Nat.le_refl _) _
  have hB3 := hid (hB2.out.alloc hB2.out.size (.cells #[.int .i64 p.args, .slice Ac p.cs.length cc, .slice Ai p.code.length ci] 33))
  have kj3 := hid (kj2.out.below_all hb9)
  have ko3 := hid (ko2.out.below_all hb9)
  have ksb3 := hid (ksb.out.below_all hb9)
  have osrc3 := hid (own_below osrc.out hb9)
  have hnp0 := hid (show w1.heap.size ≤ w2.heap.size from hB2.out.size)
  have hsbl := hid (show sb < w2.heap.size from ksb.out.lt)
  clear hb9 x0 x1 x2 kj2 ko2 ksb osrc hB2
  generalize w2.alloc (.cells #[.int .i64 p.args, .slice Ac p.cs.length cc, .slice Ai p.code.length ci] 33) = w3 at *
  generalize w2.heap.size = np at *
  have x1 : (w3.alloc (.cells #[] 55)).cell? ⟨w.heap.size, 1, none⟩ = some (.slice Ac p.cs.length cc) := (kj3.out.alloc _).cell 1
  have rc3 := hid (hrc.out.below_all hB3.out)
  have fzp := fun W (h : Below w3.heap.size w3 W) => (kp.out.below_all h).frozen 1
  have fzp := hid fzp
  go_upto_region 4 with (
    at_builtin
    refine wpList_copy_rd w3 rfl (.tmp 16) (.tmp 19) 23 rfl 55 iv _ 3 32 Tryz.underlying23 hiv hiv0 hiv1 hiv2 rfl (by omega) _ rfl rfl _ Ac p.cs.length cc (vcells p.cs) rfl rc3.out (vcellsI_one p.cs) (by have := hbd.out; simp only [maxLen]; omega) (by have := hbd.out; omega) ?_
    intro Bc dc wb hown0 hba0
    have hownwb := hid hown0
    have hbawb := hid hba0
    have fz1 := fzp.out _ hba0
    have xp1 : wb.cell? ⟨np, 1, none⟩ = some (.slice Ac p.cs.length cc) := (kp.out.below_all hba0).cell 1
    clear hown0 hba0)
  have kp4 := hid ((kp.out.below_all hbawb.out).set_ 1 (.slice Bc p.cs.length dc))
  have U4 : Hid (Upd (fun q => q = np) w3 (wb.setCell ⟨np, 1, none⟩ (.slice Bc p.cs.length dc))) := hid ((Upd.of_below' hbawb.out (fun q => q = np)).setCell (p := ⟨np, 1, none⟩) (fun _ => rfl) _)
  have oc4 := hid (own_setOtherI hownwb.out (kp.out.below_all hbawb.out) (by decide) 1 (.slice Bc p.cs.length dc))
  have hnw3 := hid (show np < w3.heap.size from kp.out.lt)
  have hB4 : Hid (Below w1.heap.size w1 (wb.setCell ⟨np, 1, none⟩ (.slice Bc p.cs.length dc))) := hid ((hB3.out.trans (hbawb.out.mono hB3.out.size)).setCell (p := ⟨np, 1, none⟩) hnp0.out _)
  have kj4 := hid (kj3.out.upd U4.out (by have := hs1.out; have := hnp0.out; omega))
  have ko4 := hid (ko3.out.upd U4.out (by have := hs1.out; have := hnp0.out; omega))
  have ksb4 := hid (ksb3.out.upd U4.out (by have := hsbl.out; omega))
  have osrc4 := hid (own_updG osrc3.out U4.out kp.out (by decide))
  clear hownwb hbawb kp x1 fz1 xp1 fzp rc3 hB3 kj3 ko3 ksb3 osrc3
  generalize wb.setCell ⟨np, 1, none⟩ (.slice Bc p.cs.length dc) = w4 at *
  have x2 : (w4.alloc (.cells #[] 69)).cell? ⟨w.heap.size, 2, none⟩ = some (.slice Ai p.code.length ci) := (kj4.out.alloc _).cell 2
  have ri4 := hid (hri.out.below_all hB4.out)
  go_upto_region 5 with (
    at_builtin
    refine wpList_copy_rd w4 rfl (.tmp 22) (.tmp 25) 31 rfl 69 ii _ 2 16 Tryz.underlying31 hii hii0 hii1 hii2 rfl (by omega) _ rfl rfl _ Ai p.code.length ci (icells p.code) rfl ri4.out (icellsI_one p.code) (by have := hbd.out; simp only [maxLen]; omega) (by have := hbd.out; omega) ?_
    intro Bi di wc hown0 hba0
    have hownwc := hid hown0
    have hbawc := hid hba0
    have fz1 := (kp4.out.below_all hba0).frozen 2
    have xp1 : wc.cell? ⟨np, 2, none⟩ = some (.slice Ai p.code.length ci) := (kp4.out.below_all hba0).cell 2
    clear hown0 hba0)
  have kp5 : Hid (Blk (wc.setCell ⟨np, 2, none⟩ (.slice Bi p.code.length di)) np 33 #[.int .i64 p.args, .slice Bc p.cs.length dc, .slice Bi p.code.length di]) := hid ((kp4.out.below_all hbawc.out).set_ 2 (.slice Bi p.code.length di))
  have U5 : Hid (Upd (fun q => q = np) w4 (wc.setCell ⟨np, 2, none⟩ (.slice Bi p.code.length di))) := hid ((Upd.of_below' hbawc.out (fun q => q = np)).setCell (p := ⟨np, 2, none⟩) (fun _ => rfl) _)
  have oi5 := hid (own_setOtherI hownwc.out (kp4.out.below_all hbawc.out) (by decide) 2 (.slice Bi p.code.length di))
  have hB5 : Hid (Below w1.heap.size w1 (wc.setCell ⟨np, 2, none⟩ (.slice Bi p.code.length di))) := hid ((hB4.out.trans (hbawc.out.mono hB4.out.size)).setCell (p := ⟨np, 2, none⟩) hnp0.out _)
  have kj5 := hid (kj4.out.upd U5.out (by have := hs1.out; have := hnp0.out; omega))
  have ko5 := hid (ko4.out.upd U5.out (by have := hs1.out; have := hnp0.out; omega))
  have ksb5 := hid (ksb4.out.upd U5.out (by have := hsbl.out; omega))
  have osrc5 := hid (own_updG osrc4.out U5.out kp4.out (by decide))
  have oc5 := hid (own_updG oc4.out U5.out kp4.out (by decide))
  have hw34 := hid (show w1.heap.size ≤ w4.heap.size ∧ w1.heap.size ≤ w3.heap.size ∧ w3.heap.size ≤ w4.heap.size from ⟨hB4.out.size, by have := hnw3.out; have := hnp0.out; omega, U4.out.size⟩)
  clear hownwc hbawc kp4 x2 fz1 xp1 ri4 hB4 kj4 ko4 ksb4 osrc4 oc4 U4 U5 hrc hri
  generalize wc.setCell ⟨np, 2, none⟩ (.slice Bi p.code.length di) = w5 at *
  have hle5 := hid (show w.heap.size ≤ w5.heap.size by have := hB5.out.size; have := hs1.out; omega)
  have hsb := hid (show sb < w5.heap.size from ksb5.out.lt)
  have hra := hid (show Rd (fun b => b < w5.heap.size) w5 3 Aa args.length (vcells args) from (hra.out.below_all hB5.out).all)
  have hrun : Hid (∀ (W : World) (A5 : Option Addr) (c5 : Nat), Below w5.heap.size w5 W → W.ownsRow w5.heap.size 55 3 (.slice A5 args.length c5) args.length (vcells args) → Calls Tryz.prog 14 #[.agg #[.int .i64 p.args, .slice Bc p.cs.length dc, .slice Bi p.code.length di], .slice A5 args.length c5, .iface 41 (.pointer (some ⟨sb, 0, none⟩)), .int .i64 f] W fun e w' => ∃ v, e = .returned v ∧ OcV W.heap.size w' v (runO p args src true f) ∧ AskV W.heap.size w' ⟨p, args, src, Bc, dc, Bi, di, A5, c5, Bl, dl, sb⟩ (askO p args src true f) ∧ Upd (fun q => q = sb) W w') := hid fun W A5 c5 hb hown => by
    have kW := ksb5.out.below_all hb
    refine hrunA.out W ⟨p, args, src, Bc, dc, Bi, di, A5, c5, Bl, dl, sb⟩ rfl rfl rfl ⟨⟨Rd.away (own_below oc5.out hb) kW (by decide), Rd.away (own_below oi5.out hb) kW (by decide), hpr.out.1, hpr.out.2⟩, Rd.away hown kW (by decide), Rd.away (own_below osrc5.out hb) kW (by decide), kW, fun W' hW' => hE.out.below ?_⟩
    have h1 := (hB1.out.trans (hB5.out.mono (by have := hs1.out; omega))).trans (hb.mono hle5.out)
    exact h1.trans (hW'.below (by have := h1.size; omega) fun q hq e => by have e : q = sb := e; have := hsb0.out; have := hs1.out; omega)
  have hX := hid (fun W (hW : Upd (fun q => q = sb) w5 W) => (show W.cell? ⟨np, 0, none⟩ = some (.int .i64 p.args) ∧ W.cell? ⟨np, 1, none⟩ = some (.slice Bc p.cs.length dc) ∧ W.cell? ⟨np, 2, none⟩ = some (.slice Bi p.code.length di) ∧ W.cell? ⟨w.heap.size, 3, none⟩ = some (.slice Aa args.length ca) ∧ W.cell? ⟨w.heap.size, 5, none⟩ = some (.int .i64 f) from by
    have k1 := kp5.out.upd hW (fun e => by have := hsbl.out; omega)
    have k2 := kj5.out.upd hW (fun e => by have := hsb0.out; have := hs1.out; omega)
    exact ⟨k1.cell 0, k1.cell 1, k1.cell 2, k2.cell 3, k2.cell 5⟩))
  clear hrunA hpr
  go_cut [6] (fun u wx => ∃ (n6 : Nat) (o : Oc) (A1 : Option Addr) (c1 : Nat) (A2 : Option Addr) (c2 : Nat) (A3 : Option Addr) (c3 : Nat) (A4 : Option Addr) (c4 : Nat), u = .pointer (some ⟨n6, 0, none⟩) ∧ runO p args src true f = o ∧ w5.heap.size ≤ n6 ∧ Blk wx n6 29 #[.int .i64 o.code, .int .i64 o.at_, .int .i64 o.ab, .slice A1 o.out.length c1, .slice A2 o.ws.length c2, .slice A3 o.rd.length c3, .slice A4 o.wr.length c4, .int .i64 o.left] ∧ OcV w5.heap.size wx (.agg #[.int .i64 o.code, .int .i64 o.at_, .int .i64 o.ab, .slice A1 o.out.length c1, .slice A2 o.ws.length c2, .slice A3 o.rd.length c3, .slice A4 o.wr.length c4, .int .i64 o.left]) o ∧ AskV w5.heap.size wx ⟨p, args, src, Bc, dc, Bi, di, none, 0, Bl, dl, sb⟩ (askO p args src true f) ∧ Upd (fun q => q = sb) w5 wx)
  case first =>
    refine wp_region_held_drew (S := fun w'' => Upd (fun q => q = sb) w5 w'') (by kernel_rfl) ?_ (fun hHeld => ?_)
    · exact (Upd.refl _ _).drew
    have hb0 : Hid (Below w5.heap.size w5 w5.drew) := hid (Below.refl _ _).drew
    generalize World.drew w5 = wd at *
    refine wpAnyH_take (i := 0) (v := ?v1) rfl (by kernel_rfl) (by kernel_rfl) (by kernel_rfl) (fun _ _ _ h => h) (Or.inl ⟨by rfl, ?hy1⟩) (by assumption) ?rest1
    case hy1 => intro w' hSw; obtain ⟨y0, y1, y2, y3, y5⟩ := hX.out w' hSw; (try dsimp only at hSw); go_simp; try with_reducible rfl
    (try simp only [Act.put, List.setIfInBounds_toArray, List.set_cons_zero, List.set_cons_succ, List.getElem_toArray, List.getElem_cons_zero, List.getElem_cons_succ])
    refine wpAnyH_take (i := 2) (v := ?v2) rfl (by kernel_rfl) (by kernel_rfl) (by kernel_rfl) (fun _ _ _ h => h) (Or.inl ⟨by rfl, ?hy2⟩) (by assumption) ?rest2
    case hy2 => intro w' hSw; obtain ⟨y0, y1, y2, y3, y5⟩ := hX.out w' hSw; (try dsimp only at hSw); go_simp; try with_reducible rfl
    (try simp only [Act.put, List.setIfInBounds_toArray, List.set_cons_zero, List.set_cons_succ, List.getElem_toArray, List.getElem_cons_zero, List.getElem_cons_succ])
    refine wpAnyH_take (i := 3) (v := ?v3) rfl (by kernel_rfl) (by kernel_rfl) (by kernel_rfl) (fun _ _ _ h => h) (Or.inl ⟨by rfl, ?hy3⟩) (by assumption) ?rest3
    case hy3 => intro w' hSw; obtain ⟨y0, y1, y2, y3, y5⟩ := hX.out w' hSw; (try dsimp only at hSw); go_simp; try with_reducible rfl
    (try simp only [Act.put, List.setIfInBounds_toArray, List.set_cons_zero, List.set_cons_succ, List.getElem_toArray, List.getElem_cons_zero, List.getElem_cons_succ])
    refine wpAnyH_take (i := 5) (v := ?v4) rfl (by kernel_rfl) (by kernel_rfl) (by kernel_rfl) (fun _ _ _ h => h) (Or.inl ⟨by rfl, ?hy4⟩) (by assumption) ?rest4
    case hy4 => intro w' hSw; obtain ⟨y0, y1, y2, y3, y5⟩ := hX.out w' hSw; (try dsimp only at hSw); go_simp; try with_reducible rfl
    (try simp only [Act.put, List.setIfInBounds_toArray, List.set_cons_zero, List.set_cons_succ, List.getElem_toArray, List.getElem_cons_zero, List.getElem_cons_succ])
    refine wpAnyH_take (i := 6) (v := ?v5) rfl (by kernel_rfl) (by kernel_rfl) (by kernel_rfl) (fun _ _ _ h => h) (Or.inl ⟨by rfl, ?hy5⟩) (by assumption) ?rest5
    case hy5 => intro w' hSw; obtain ⟨y0, y1, y2, y3, y5⟩ := hX.out w' hSw; (try dsimp only at hSw); go_simp; try with_reducible rfl
    (try simp only [Act.put, List.setIfInBounds_toArray, List.set_cons_zero, List.set_cons_succ, List.getElem_toArray, List.getElem_cons_zero, List.getElem_cons_succ])
    refine wpAnyH_take (i := 7) (v := ?v6) rfl (by kernel_rfl) (by kernel_rfl) (by kernel_rfl) (fun _ _ _ h => h) (Or.inl ⟨by rfl, ?hy6⟩) (by assumption) ?rest6
    case hy6 => intro w' hSw; obtain ⟨y0, y1, y2, y3, y5⟩ := hX.out w' hSw; (try dsimp only at hSw); go_simp; try with_reducible rfl
    (try simp only [Act.put, List.setIfInBounds_toArray, List.set_cons_zero, List.set_cons_succ, List.getElem_toArray, List.getElem_cons_zero, List.getElem_cons_succ])
    refine wpAnyH_take (i := 8) (v := ?v7) rfl (by kernel_rfl) (by kernel_rfl) (by kernel_rfl) (fun _ _ _ h => h) (Or.inl ⟨by rfl, ?hy7⟩) (by assumption) ?rest7
    case hy7 => intro w' hSw; obtain ⟨y0, y1, y2, y3, y5⟩ := hX.out w' hSw; (try dsimp only at hSw); go_simp; try with_reducible rfl
    (try simp only [Act.put, List.setIfInBounds_toArray, List.set_cons_zero, List.set_cons_succ, List.getElem_toArray, List.getElem_cons_zero, List.getElem_cons_succ])
    refine wpAnyH_ready (rs := [1, 10]) (by kernel_rfl) (by simp) ?_
    refine AllReadyH.cons rfl (fun K hK => ?_) ?_
    · go_simp
      have hb9 : Below wd.heap.size wd (wd.alloc (.cells #[] 55)) := (Below.refl _ _).alloc (Nat.le_refl _) _
      have oE := hid (own_base (hb0.out.size) (own_empty wd 55 3))
      have hb1 := hid (hb0.out.trans (hb9.mono hb0.out.size))
      clear hb9
      generalize wd.alloc (.cells #[] 55) = wt1 at *
      generalize wd.heap.size = ge at *
      refine hK.out _ _ ?_ (fun hHeld => ?_)
      · exact Upd.of_below' hb1.out _
      clear hK K
      (try simp only [Act.put, List.setIfInBounds_toArray, List.set_cons_zero, List.set_cons_succ, List.getElem_toArray, List.getElem_cons_zero, List.getElem_cons_succ])
      refine wpAnyH_ready (rs := [4, 10]) (by kernel_rfl) (by simp) ?_
      refine AllReadyH.cons rfl (fun K hK => ?_) ?_
      · refine step_append_rd _ rfl (.tmp 29) (.tmp 31) 23 rfl w5.heap.size 55 iv _ 3 32 Tryz.underlying23 hiv hiv0 hiv1 hiv2 rfl (by omega) (.slice (some ⟨ge, 0, none⟩) 0 0) 0 [] rfl oE.out (fun b => b < w5.heap.size) Aa args.length ca (vcells args) rfl (hra.out.below_all hb1.out) (vcellsI_one args) (by have := hbd.out; simp only [maxLen]; omega) (by have := hbd.out; omega) hb1.out.size args.length (Nat.zero_add _) (vcells args) rfl ?_
        intro A5 c5 wt2 hown9 hg9 hat9
        have hb9 : Below w5.heap.size wt1 wt2 := below_grB oE.out hb1.out.size hg9
        have oR := hid hown9
        have hb2 := hid (hb1.out.trans hb9)
        clear hg9 hat9 hb9 hown9 oE
        refine hK.out _ _ ?_ (fun hHeld => ?_)
        · exact Upd.of_below' hb2.out _
        clear hK K
        (try simp only [Act.put, List.setIfInBounds_toArray, List.set_cons_zero, List.set_cons_succ, List.getElem_toArray, List.getElem_cons_zero, List.getElem_cons_succ])
        refine wpAnyH_ready (rs := [9, 10]) (by kernel_rfl) (by simp) ?_
        refine AllReadyH.cons rfl (fun K hK => ?_) ?_
        · go_simp
          refine (hrun.out wt2 A5 c5 hb2.out oR.out).mono ?_
          rintro e wt3 ⟨v, rfl, hoc0, hask0, hu0⟩
          have hoc := hid (hoc0.base hb2.out.size)
          have hask : Hid (AskV w5.heap.size wt3 ⟨p, args, src, Bc, dc, Bi, di, none, 0, Bl, dl, sb⟩ (askO p args src true f)) := hid (hask0.base hb2.out.size)
          have hU3 : Hid (Upd (fun q => q = sb) w5 wt3) := hid ((Upd.of_below' hb2.out _).trans hu0 fun _ _ e => e)
          have hz3 := hid (show w5.heap.size ≤ wt3.heap.size from hU3.out.size)
          clear hoc0 hask0 hu0 oR
          refine hK.out _ _ ?_ (fun hHeld => ?_)
          · exact hU3.out
          clear hK K
          (try simp only [Act.put, List.setIfInBounds_toArray, List.set_cons_zero, List.set_cons_succ, List.getElem_toArray, List.getElem_cons_zero, List.getElem_cons_succ])
          refine wpAnyH_ready (rs := [10]) (by kernel_rfl) (by simp) ?_
          refine AllReadyH.cons rfl (fun K hK => ?_) ?_
          · go_simp
            have hb9 : Below wt3.heap.size wt3 (wt3.alloc (.cells #[.int .i64 0, .int .i64 0, .int .i64 0, .slice none 0 0, .slice none 0 0, .slice none 0 0, .slice none 0 0, .int .i64 0] 29)) := (Below.refl _ _).alloc (Nat.le_refl _) _
            have kT := hid (Blk.new wt3 29 #[.int .i64 0, .int .i64 0, .int .i64 0, .slice none 0 0, .slice none 0 0, .slice none 0 0, .slice none 0 0, .int .i64 0])
            have hT : Hid (w5.heap.size ≤ wt3.heap.size) := hid hU3.out.size
            have hoc := hid (hoc.out.below hb9)
            have hask := hid (hask.out.below hb9)
            have hU4 : Hid (Upd (fun q => q = sb) w5 (wt3.alloc (.cells #[.int .i64 0, .int .i64 0, .int .i64 0, .slice none 0 0, .slice none 0 0, .slice none 0 0, .slice none 0 0, .int .i64 0] 29))) := hid (hU3.out.trans (Upd.of_below' hb9 (fun q => q = sb)) fun _ _ e => e)
            clear hb9
            generalize wt3.alloc (.cells #[.int .i64 0, .int .i64 0, .int .i64 0, .slice none 0 0, .slice none 0 0, .slice none 0 0, .slice none 0 0, .int .i64 0] 29) = wt4 at *
            generalize wt3.heap.size = n6 at *
            refine hK.out _ _ ?_ (fun hHeld => ?_)
            · exact hU4.out
            clear hK K
            (try simp only [Act.put, List.setIfInBounds_toArray, List.set_cons_zero, List.set_cons_succ, List.getElem_toArray, List.getElem_cons_zero, List.getElem_cons_succ])
            obtain ⟨A1, c1, A2, c2, A3, c3, A4, c4, rfl, hr1, hr2, hr3, hr4⟩ := hoc.out
            have hoc2 : Hid (OcV w5.heap.size wt4 (.agg #[.int .i64 (runO p args src true f).code, .int .i64 (runO p args src true f).at_, .int .i64 (runO p args src true f).ab, .slice A1 (runO p args src true f).out.length c1, .slice A2 (runO p args src true f).ws.length c2, .slice A3 (runO p args src true f).rd.length c3, .slice A4 (runO p args src true f).wr.length c4, .int .i64 (runO p args src true f).left]) (runO p args src true f)) := hid ⟨A1, c1, A2, c2, A3, c3, A4, c4, rfl, hr1, hr2, hr3, hr4⟩
            clear hoc hr1 hr2 hr3 hr4
            have zl := kT.out.lt
            have z0 := kT.out.cell 0
            have z1 := kT.out.cell 1
            have z2 := kT.out.cell 2
            have z3 := kT.out.cell 3
            have z4 := kT.out.cell 4
            have z5 := kT.out.cell 5
            have z6 := kT.out.cell 6
            have z7 := kT.out.cell 7
            simp only [List.getElem?_toArray, List.getElem?_cons_zero, List.getElem?_cons_succ] at z0 z1 z2 z3 z4 z5 z6 z7
            have fz := fun q => kT.out.frozen q
            generalize hoo : runO p args src true f = o at *
            have hoo := hid hoo
            refine wpAnyH_ready (rs := [11]) (by kernel_rfl) (by simp) ?_
            refine AllReadyH.cons rfl (fun K hK => ?_) AllReadyH.nil
            go_simp
            obtain ⟨wz, hW9, kN, hup⟩ := set_oc' kT.out (.int .i64 o.code) (.int .i64 o.at_) (.int .i64 o.ab) (.slice A1 o.out.length c1) (.slice A2 o.ws.length c2) (.slice A3 o.rd.length c3) (.slice A4 o.wr.length c4) (.int .i64 o.left)
            rw [hW9]
            clear hW9
            have hocz := hid (hoc2.out.upd hup kT.out (by decide) (by decide) (by decide))
            have haskz : Hid (AskV w5.heap.size wz ⟨p, args, src, Bc, dc, Bi, di, none, 0, Bl, dl, sb⟩ (askO p args src true f)) := hid (hask.out.upd hup kT.out (by decide) (by have := hT.out; have := hsb.out; show sb ≠ n6; omega))
            have hUz : Hid (Upd (fun q => q = sb) w5 wz) := hid (hU4.out.trans hup fun q hq e => absurd hq (by have := hT.out; omega))
            have kN := hid kN
            clear hup hoc2 hask z0 z1 z2 z3 z4 z5 z6 z7 fz zl kT
            refine hK.out _ _ ?_ (fun hHeld => ?_)
            · exact hUz.out
            clear hK K
            (try simp only [Act.put, List.setIfInBounds_toArray, List.set_cons_zero, List.set_cons_succ, List.getElem_toArray, List.getElem_cons_zero, List.getElem_cons_succ])
            refine wpAnyH_done (by kernel_rfl) ?_ _
            go_wp2_with fail
            go_meet
            case rel => exact ⟨n6, o, A1, c1, A2, c2, A3, c3, A4, c4, rfl, rfl, hT.out, kN.out, hocz.out, haskz.out, hUz.out⟩
          exact AllReadyH.nil
        refine AllReadyH.cons rfl (fun K hK => ?_) ?_
        · go_simp
          have hb9 : Below wt2.heap.size wt2 (wt2.alloc (.cells #[.int .i64 0, .int .i64 0, .int .i64 0, .slice none 0 0, .slice none 0 0, .slice none 0 0, .slice none 0 0, .int .i64 0] 29)) := (Below.refl _ _).alloc (Nat.le_refl _) _
          have kT := hid (Blk.new wt2 29 #[.int .i64 0, .int .i64 0, .int .i64 0, .slice none 0 0, .slice none 0 0, .slice none 0 0, .slice none 0 0, .int .i64 0])
          have hT : Hid (w5.heap.size ≤ wt2.heap.size) := hid hb2.out.size
          have hb3 := hid (hb2.out.trans (hb9.mono hb2.out.size))
          have oR := hid (own_below oR.out hb9)
          clear hb9
          generalize wt2.alloc (.cells #[.int .i64 0, .int .i64 0, .int .i64 0, .slice none 0 0, .slice none 0 0, .slice none 0 0, .slice none 0 0, .int .i64 0] 29) = wt3 at *
          generalize wt2.heap.size = n6 at *
          refine hK.out _ _ ?_ (fun hHeld => ?_)
          · exact Upd.of_below' hb3.out _
          clear hK K
          (try simp only [Act.put, List.setIfInBounds_toArray, List.set_cons_zero, List.set_cons_succ, List.getElem_toArray, List.getElem_cons_zero, List.getElem_cons_succ])
          refine wpAnyH_ready (rs := [9]) (by kernel_rfl) (by simp) ?_
          refine AllReadyH.cons rfl (fun K hK => ?_) ?_
          · go_simp
            refine (hrun.out wt3 A5 c5 hb3.out oR.out).mono ?_
            rintro e wt4 ⟨v, rfl, hoc0, hask0, hu0⟩
            have hoc := hid (hoc0.base hb3.out.size)
            have hask : Hid (AskV w5.heap.size wt4 ⟨p, args, src, Bc, dc, Bi, di, none, 0, Bl, dl, sb⟩ (askO p args src true f)) := hid (hask0.base hb3.out.size)
            have hU4 : Hid (Upd (fun q => q = sb) w5 wt4) := hid ((Upd.of_below' hb3.out _).trans hu0 fun _ _ e => e)
            have hz4 := hid (show w5.heap.size ≤ wt4.heap.size from hU4.out.size)
            have kT := hid (kT.out.upd hu0 (fun e => by have := hT.out; have := hsb.out; omega))
            clear hoc0 hask0 hu0 oR
            refine hK.out _ _ ?_ (fun hHeld => ?_)
            · exact hU4.out
            clear hK K
            (try simp only [Act.put, List.setIfInBounds_toArray, List.set_cons_zero, List.set_cons_succ, List.getElem_toArray, List.getElem_cons_zero, List.getElem_cons_succ])
            obtain ⟨A1, c1, A2, c2, A3, c3, A4, c4, rfl, hr1, hr2, hr3, hr4⟩ := hoc.out
            have hoc2 : Hid (OcV w5.heap.size wt4 (.agg #[.int .i64 (runO p args src true f).code, .int .i64 (runO p args src true f).at_, .int .i64 (runO p args src true f).ab, .slice A1 (runO p args src true f).out.length c1, .slice A2 (runO p args src true f).ws.length c2, .slice A3 (runO p args src true f).rd.length c3, .slice A4 (runO p args src true f).wr.length c4, .int .i64 (runO p args src true f).left]) (runO p args src true f)) := hid ⟨A1, c1, A2, c2, A3, c3, A4, c4, rfl, hr1, hr2, hr3, hr4⟩
            clear hoc hr1 hr2 hr3 hr4
            have zl := kT.out.lt
            have z0 := kT.out.cell 0
            have z1 := kT.out.cell 1
            have z2 := kT.out.cell 2
            have z3 := kT.out.cell 3
            have z4 := kT.out.cell 4
            have z5 := kT.out.cell 5
            have z6 := kT.out.cell 6
            have z7 := kT.out.cell 7
            simp only [List.getElem?_toArray, List.getElem?_cons_zero, List.getElem?_cons_succ] at z0 z1 z2 z3 z4 z5 z6 z7
            have fz := fun q => kT.out.frozen q
            generalize hoo : runO p args src true f = o at *
            have hoo := hid hoo
            refine wpAnyH_ready (rs := [11]) (by kernel_rfl) (by simp) ?_
            refine AllReadyH.cons rfl (fun K hK => ?_) AllReadyH.nil
            go_simp
            obtain ⟨wz, hW9, kN, hup⟩ := set_oc' kT.out (.int .i64 o.code) (.int .i64 o.at_) (.int .i64 o.ab) (.slice A1 o.out.length c1) (.slice A2 o.ws.length c2) (.slice A3 o.rd.length c3) (.slice A4 o.wr.length c4) (.int .i64 o.left)
            rw [hW9]
            clear hW9
            have hocz := hid (hoc2.out.upd hup kT.out (by decide) (by decide) (by decide))
            have haskz : Hid (AskV w5.heap.size wz ⟨p, args, src, Bc, dc, Bi, di, none, 0, Bl, dl, sb⟩ (askO p args src true f)) := hid (hask.out.upd hup kT.out (by decide) (by have := hT.out; have := hsb.out; show sb ≠ n6; omega))
            have hUz : Hid (Upd (fun q => q = sb) w5 wz) := hid (hU4.out.trans hup fun q hq e => absurd hq (by have := hT.out; omega))
            have kN := hid kN
            clear hup hoc2 hask z0 z1 z2 z3 z4 z5 z6 z7 fz zl kT
            refine hK.out _ _ ?_ (fun hHeld => ?_)
            · exact hUz.out
            clear hK K
            (try simp only [Act.put, List.setIfInBounds_toArray, List.set_cons_zero, List.set_cons_succ, List.getElem_toArray, List.getElem_cons_zero, List.getElem_cons_succ])
            refine wpAnyH_done (by kernel_rfl) ?_ _
            go_wp2_with fail
            go_meet
            case rel => exact ⟨n6, o, A1, c1, A2, c2, A3, c3, A4, c4, rfl, rfl, hT.out, kN.out, hocz.out, haskz.out, hUz.out⟩
          exact AllReadyH.nil
        exact AllReadyH.nil
      refine AllReadyH.cons rfl (fun K hK => ?_) ?_
      · go_simp
        have hb9 : Below wt1.heap.size wt1 (wt1.alloc (.cells #[.int .i64 0, .int .i64 0, .int .i64 0, .slice none 0 0, .slice none 0 0, .slice none 0 0, .slice none 0 0, .int .i64 0] 29)) := (Below.refl _ _).alloc (Nat.le_refl _) _
        have kT := hid (Blk.new wt1 29 #[.int .i64 0, .int .i64 0, .int .i64 0, .slice none 0 0, .slice none 0 0, .slice none 0 0, .slice none 0 0, .int .i64 0])
        have hT : Hid (w5.heap.size ≤ wt1.heap.size) := hid hb1.out.size
        have hb2 := hid (hb1.out.trans (hb9.mono hb1.out.size))
        have oE := hid (own_below oE.out hb9)
        clear hb9
        generalize wt1.alloc (.cells #[.int .i64 0, .int .i64 0, .int .i64 0, .slice none 0 0, .slice none 0 0, .slice none 0 0, .slice none 0 0, .int .i64 0] 29) = wt2 at *
        generalize wt1.heap.size = n6 at *
        refine hK.out _ _ ?_ (fun hHeld => ?_)
        · exact Upd.of_below' hb2.out _
        clear hK K
        (try simp only [Act.put, List.setIfInBounds_toArray, List.set_cons_zero, List.set_cons_succ, List.getElem_toArray, List.getElem_cons_zero, List.getElem_cons_succ])
        refine wpAnyH_ready (rs := [4]) (by kernel_rfl) (by simp) ?_
        refine AllReadyH.cons rfl (fun K hK => ?_) ?_
        · refine step_append_rd _ rfl (.tmp 29) (.tmp 31) 23 rfl w5.heap.size 55 iv _ 3 32 Tryz.underlying23 hiv hiv0 hiv1 hiv2 rfl (by omega) (.slice (some ⟨ge, 0, none⟩) 0 0) 0 [] rfl oE.out (fun b => b < w5.heap.size) Aa args.length ca (vcells args) rfl (hra.out.below_all hb2.out) (vcellsI_one args) (by have := hbd.out; simp only [maxLen]; omega) (by have := hbd.out; omega) hb2.out.size args.length (Nat.zero_add _) (vcells args) rfl ?_
          intro A5 c5 wt3 hown9 hg9 hat9
          have hb9 : Below w5.heap.size wt2 wt3 := below_grB oE.out hb2.out.size hg9
          have oR := hid hown9
          have hb3 := hid (hb2.out.trans hb9)
          have kT := hid (kT.out.upd (Upd.of_own hg9) (fun e => by obtain ⟨cur, hc⟩ := own_blk0 oE.out e; exact absurd (blk_ty hc kT.out) (by decide)))
          clear hg9 hat9 hb9 hown9 oE
          refine hK.out _ _ ?_ (fun hHeld => ?_)
          · exact Upd.of_below' hb3.out _
          clear hK K
          (try simp only [Act.put, List.setIfInBounds_toArray, List.set_cons_zero, List.set_cons_succ, List.getElem_toArray, List.getElem_cons_zero, List.getElem_cons_succ])
          refine wpAnyH_ready (rs := [9]) (by kernel_rfl) (by simp) ?_
          refine AllReadyH.cons rfl (fun K hK => ?_) ?_
          · go_simp
            refine (hrun.out wt3 A5 c5 hb3.out oR.out).mono ?_
            rintro e wt4 ⟨v, rfl, hoc0, hask0, hu0⟩
            have hoc := hid (hoc0.base hb3.out.size)
            have hask : Hid (AskV w5.heap.size wt4 ⟨p, args, src, Bc, dc, Bi, di, none, 0, Bl, dl, sb⟩ (askO p args src true f)) := hid (hask0.base hb3.out.size)
            have hU4 : Hid (Upd (fun q => q = sb) w5 wt4) := hid ((Upd.of_below' hb3.out _).trans hu0 fun _ _ e => e)
            have hz4 := hid (show w5.heap.size ≤ wt4.heap.size from hU4.out.size)
            have kT := hid (kT.out.upd hu0 (fun e => by have := hT.out; have := hsb.out; omega))
            clear hoc0 hask0 hu0 oR
            refine hK.out _ _ ?_ (fun hHeld => ?_)
            · exact hU4.out
            clear hK K
            (try simp only [Act.put, List.setIfInBounds_toArray, List.set_cons_zero, List.set_cons_succ, List.getElem_toArray, List.getElem_cons_zero, List.getElem_cons_succ])
            obtain ⟨A1, c1, A2, c2, A3, c3, A4, c4, rfl, hr1, hr2, hr3, hr4⟩ := hoc.out
            have hoc2 : Hid (OcV w5.heap.size wt4 (.agg #[.int .i64 (runO p args src true f).code, .int .i64 (runO p args src true f).at_, .int .i64 (runO p args src true f).ab, .slice A1 (runO p args src true f).out.length c1, .slice A2 (runO p args src true f).ws.length c2, .slice A3 (runO p args src true f).rd.length c3, .slice A4 (runO p args src true f).wr.length c4, .int .i64 (runO p args src true f).left]) (runO p args src true f)) := hid ⟨A1, c1, A2, c2, A3, c3, A4, c4, rfl, hr1, hr2, hr3, hr4⟩
            clear hoc hr1 hr2 hr3 hr4
            have zl := kT.out.lt
            have z0 := kT.out.cell 0
            have z1 := kT.out.cell 1
            have z2 := kT.out.cell 2
            have z3 := kT.out.cell 3
            have z4 := kT.out.cell 4
            have z5 := kT.out.cell 5
            have z6 := kT.out.cell 6
            have z7 := kT.out.cell 7
            simp only [List.getElem?_toArray, List.getElem?_cons_zero, List.getElem?_cons_succ] at z0 z1 z2 z3 z4 z5 z6 z7
            have fz := fun q => kT.out.frozen q
            generalize hoo : runO p args src true f = o at *
            have hoo := hid hoo
            refine wpAnyH_ready (rs := [11]) (by kernel_rfl) (by simp) ?_
            refine AllReadyH.cons rfl (fun K hK => ?_) AllReadyH.nil
            go_simp
            obtain ⟨wz, hW9, kN, hup⟩ := set_oc' kT.out (.int .i64 o.code) (.int .i64 o.at_) (.int .i64 o.ab) (.slice A1 o.out.length c1) (.slice A2 o.ws.length c2) (.slice A3 o.rd.length c3) (.slice A4 o.wr.length c4) (.int .i64 o.left)
            rw [hW9]
            clear hW9
            have hocz := hid (hoc2.out.upd hup kT.out (by decide) (by decide) (by decide))
            have haskz : Hid (AskV w5.heap.size wz ⟨p, args, src, Bc, dc, Bi, di, none, 0, Bl, dl, sb⟩ (askO p args src true f)) := hid (hask.out.upd hup kT.out (by decide) (by have := hT.out; have := hsb.out; show sb ≠ n6; omega))
            have hUz : Hid (Upd (fun q => q = sb) w5 wz) := hid (hU4.out.trans hup fun q hq e => absurd hq (by have := hT.out; omega))
            have kN := hid kN
            clear hup hoc2 hask z0 z1 z2 z3 z4 z5 z6 z7 fz zl kT
            refine hK.out _ _ ?_ (fun hHeld => ?_)
            · exact hUz.out
            clear hK K
            (try simp only [Act.put, List.setIfInBounds_toArray, List.set_cons_zero, List.set_cons_succ, List.getElem_toArray, List.getElem_cons_zero, List.getElem_cons_succ])
            refine wpAnyH_done (by kernel_rfl) ?_ _
            go_wp2_with fail
            go_meet
            case rel => exact ⟨n6, o, A1, c1, A2, c2, A3, c3, A4, c4, rfl, rfl, hT.out, kN.out, hocz.out, haskz.out, hUz.out⟩
          exact AllReadyH.nil
        exact AllReadyH.nil
      exact AllReadyH.nil
    refine AllReadyH.cons rfl (fun K hK => ?_) ?_
    · go_simp
      have hb9 : Below wd.heap.size wd (wd.alloc (.cells #[.int .i64 0, .int .i64 0, .int .i64 0, .slice none 0 0, .slice none 0 0, .slice none 0 0, .slice none 0 0, .int .i64 0] 29)) := (Below.refl _ _).alloc (Nat.le_refl _) _
      have kT := hid (Blk.new wd 29 #[.int .i64 0, .int .i64 0, .int .i64 0, .slice none 0 0, .slice none 0 0, .slice none 0 0, .slice none 0 0, .int .i64 0])
      have hT : Hid (w5.heap.size ≤ wd.heap.size) := hid hb0.out.size
      have hb1 := hid (hb0.out.trans (hb9.mono hb0.out.size))
      clear hb9
      generalize wd.alloc (.cells #[.int .i64 0, .int .i64 0, .int .i64 0, .slice none 0 0, .slice none 0 0, .slice none 0 0, .slice none 0 0, .int .i64 0] 29) = wt1 at *
      generalize wd.heap.size = n6 at *
      refine hK.out _ _ ?_ (fun hHeld => ?_)
      · exact Upd.of_below' hb1.out _
      clear hK K
      (try simp only [Act.put, List.setIfInBounds_toArray, List.set_cons_zero, List.set_cons_succ, List.getElem_toArray, List.getElem_cons_zero, List.getElem_cons_succ])
      refine wpAnyH_ready (rs := [1]) (by kernel_rfl) (by simp) ?_
      refine AllReadyH.cons rfl (fun K hK => ?_) ?_
      · go_simp
        have hb9 : Below wt1.heap.size wt1 (wt1.alloc (.cells #[] 55)) := (Below.refl _ _).alloc (Nat.le_refl _) _
        have oE := hid (own_base (hb1.out.size) (own_empty wt1 55 3))
        have hb2 := hid (hb1.out.trans (hb9.mono hb1.out.size))
        have kT := hid (kT.out.below_all hb9)
        clear hb9
        generalize wt1.alloc (.cells #[] 55) = wt2 at *
        generalize wt1.heap.size = ge at *
        refine hK.out _ _ ?_ (fun hHeld => ?_)
        · exact Upd.of_below' hb2.out _
        clear hK K
        (try simp only [Act.put, List.setIfInBounds_toArray, List.set_cons_zero, List.set_cons_succ, List.getElem_toArray, List.getElem_cons_zero, List.getElem_cons_succ])
        refine wpAnyH_ready (rs := [4]) (by kernel_rfl) (by simp) ?_
        refine AllReadyH.cons rfl (fun K hK => ?_) ?_
        · refine step_append_rd _ rfl (.tmp 29) (.tmp 31) 23 rfl w5.heap.size 55 iv _ 3 32 Tryz.underlying23 hiv hiv0 hiv1 hiv2 rfl (by omega) (.slice (some ⟨ge, 0, none⟩) 0 0) 0 [] rfl oE.out (fun b => b < w5.heap.size) Aa args.length ca (vcells args) rfl (hra.out.below_all hb2.out) (vcellsI_one args) (by have := hbd.out; simp only [maxLen]; omega) (by have := hbd.out; omega) hb2.out.size args.length (Nat.zero_add _) (vcells args) rfl ?_
          intro A5 c5 wt3 hown9 hg9 hat9
          have hb9 : Below w5.heap.size wt2 wt3 := below_grB oE.out hb2.out.size hg9
          have oR := hid hown9
          have hb3 := hid (hb2.out.trans hb9)
          have kT := hid (kT.out.upd (Upd.of_own hg9) (fun e => by obtain ⟨cur, hc⟩ := own_blk0 oE.out e; exact absurd (blk_ty hc kT.out) (by decide)))
          clear hg9 hat9 hb9 hown9 oE
          refine hK.out _ _ ?_ (fun hHeld => ?_)
          · exact Upd.of_below' hb3.out _
          clear hK K
          (try simp only [Act.put, List.setIfInBounds_toArray, List.set_cons_zero, List.set_cons_succ, List.getElem_toArray, List.getElem_cons_zero, List.getElem_cons_succ])
          refine wpAnyH_ready (rs := [9]) (by kernel_rfl) (by simp) ?_
          refine AllReadyH.cons rfl (fun K hK => ?_) ?_
          · go_simp
            refine (hrun.out wt3 A5 c5 hb3.out oR.out).mono ?_
            rintro e wt4 ⟨v, rfl, hoc0, hask0, hu0⟩
            have hoc := hid (hoc0.base hb3.out.size)
            have hask : Hid (AskV w5.heap.size wt4 ⟨p, args, src, Bc, dc, Bi, di, none, 0, Bl, dl, sb⟩ (askO p args src true f)) := hid (hask0.base hb3.out.size)
            have hU4 : Hid (Upd (fun q => q = sb) w5 wt4) := hid ((Upd.of_below' hb3.out _).trans hu0 fun _ _ e => e)
            have hz4 := hid (show w5.heap.size ≤ wt4.heap.size from hU4.out.size)
            have kT := hid (kT.out.upd hu0 (fun e => by have := hT.out; have := hsb.out; omega))
            clear hoc0 hask0 hu0 oR
            refine hK.out _ _ ?_ (fun hHeld => ?_)
            · exact hU4.out
            clear hK K
            (try simp only [Act.put, List.setIfInBounds_toArray, List.set_cons_zero, List.set_cons_succ, List.getElem_toArray, List.getElem_cons_zero, List.getElem_cons_succ])
            obtain ⟨A1, c1, A2, c2, A3, c3, A4, c4, rfl, hr1, hr2, hr3, hr4⟩ := hoc.out
            have hoc2 : Hid (OcV w5.heap.size wt4 (.agg #[.int .i64 (runO p args src true f).code, .int .i64 (runO p args src true f).at_, .int .i64 (runO p args src true f).ab, .slice A1 (runO p args src true f).out.length c1, .slice A2 (runO p args src true f).ws.length c2, .slice A3 (runO p args src true f).rd.length c3, .slice A4 (runO p args src true f).wr.length c4, .int .i64 (runO p args src true f).left]) (runO p args src true f)) := hid ⟨A1, c1, A2, c2, A3, c3, A4, c4, rfl, hr1, hr2, hr3, hr4⟩
            clear hoc hr1 hr2 hr3 hr4
            have zl := kT.out.lt
            have z0 := kT.out.cell 0
            have z1 := kT.out.cell 1
            have z2 := kT.out.cell 2
            have z3 := kT.out.cell 3
            have z4 := kT.out.cell 4
            have z5 := kT.out.cell 5
            have z6 := kT.out.cell 6
            have z7 := kT.out.cell 7
            simp only [List.getElem?_toArray, List.getElem?_cons_zero, List.getElem?_cons_succ] at z0 z1 z2 z3 z4 z5 z6 z7
            have fz := fun q => kT.out.frozen q
            generalize hoo : runO p args src true f = o at *
            have hoo := hid hoo
            refine wpAnyH_ready (rs := [11]) (by kernel_rfl) (by simp) ?_
            refine AllReadyH.cons rfl (fun K hK => ?_) AllReadyH.nil
            go_simp
            obtain ⟨wz, hW9, kN, hup⟩ := set_oc' kT.out (.int .i64 o.code) (.int .i64 o.at_) (.int .i64 o.ab) (.slice A1 o.out.length c1) (.slice A2 o.ws.length c2) (.slice A3 o.rd.length c3) (.slice A4 o.wr.length c4) (.int .i64 o.left)
            rw [hW9]
            clear hW9
            have hocz := hid (hoc2.out.upd hup kT.out (by decide) (by decide) (by decide))
            have haskz : Hid (AskV w5.heap.size wz ⟨p, args, src, Bc, dc, Bi, di, none, 0, Bl, dl, sb⟩ (askO p args src true f)) := hid (hask.out.upd hup kT.out (by decide) (by have := hT.out; have := hsb.out; show sb ≠ n6; omega))
            have hUz : Hid (Upd (fun q => q = sb) w5 wz) := hid (hU4.out.trans hup fun q hq e => absurd hq (by have := hT.out; omega))
            have kN := hid kN
            clear hup hoc2 hask z0 z1 z2 z3 z4 z5 z6 z7 fz zl kT
            refine hK.out _ _ ?_ (fun hHeld => ?_)
            · exact hUz.out
            clear hK K
            (try simp only [Act.put, List.setIfInBounds_toArray, List.set_cons_zero, List.set_cons_succ, List.getElem_toArray, List.getElem_cons_zero, List.getElem_cons_succ])
            refine wpAnyH_done (by kernel_rfl) ?_ _
            go_wp2_with fail
            go_meet
            case rel => exact ⟨n6, o, A1, c1, A2, c2, A3, c3, A4, c4, rfl, rfl, hT.out, kN.out, hocz.out, haskz.out, hUz.out⟩
          exact AllReadyH.nil
        exact AllReadyH.nil
      exact AllReadyH.nil
    exact AllReadyH.nil
  case rest =>
    obtain ⟨n6, o, A1, c1, A2, c2, A3, c3, A4, c4, rfl, hoo0, hn60, kt0, hoc0, hask0, hU60⟩ := hcut
    rename World => w6
    have hoo := hid hoo0
    have kt := hid kt0
    have hoc := hid hoc0
    have hask := hid hask0
    have hsn := hid (show w.heap.size + 1 < sb by have := hsb0.out; have := hs1.out; omega)
    have kp := hid (kp5.out.upd hU60 (by have := hsbl.out; omega))
    have ko := hid (ko5.out.upd hU60 (by have := hsn.out; omega))
    have osrc := hid (own_base (show w.heap.size ≤ w1.heap.size by have := hs1.out; omega) (own_updG osrc5.out hU60 ksb5.out (by decide)))
    have oi := hid (own_updG oi5.out hU60 ksb5.out (by decide))
    have hsw := hid (show w.heap.size ≤ sb by have := hsn.out; omega)
    have hBw : Hid (Below w.heap.size w w6) := hid ((hB1.out.trans (hB5.out.mono (by have := hs1.out; omega))).trans (hU60.below hle5.out fun q hq e => by have := hsn.out; omega))
    have hrow : Hid (0 < p.code.length → ∃ b cs, Bi = some ⟨b, 0, none⟩ ∧ Blk w6 b 69 cs ∧ p.code.length * 2 ≤ cs.size) := hid (row_blk oi.out)
    have hw4 := hid (show w.heap.size ≤ w4.heap.size by have := hw34.out; have := hs1.out; omega)
    clear hoo0 kt0 hoc0 hask0 hU60 kp5 ko5 kj5 osrc5 oi5 oc5 ksb5 hra hrun hX hB5 hB1 hE
    go_wp2_with fail
    go_loopw [7] (fun v wr => ∃ k : Nat, v = .int .i64 k ∧ k ≤ p.code.length ∧ Upd (fun q => (Value.slice Bi p.code.length di).ownBlock = some q) w6 wr ∧ (0 < p.code.length → ∃ b cs, Bi = some ⟨b, 0, none⟩ ∧ Blk wr b 69 cs ∧ p.code.length * 2 ≤ cs.size)) (fun v _ => p.code.length - (intOf v).toNat)
    case atStart => exact ⟨0, rfl, Nat.zero_le _, Upd.refl _ _, hrow.out⟩
    case round =>
      obtain ⟨k, rfl, hk, hu0, hrow0⟩ := hrel
      have hU := hid hu0
      have hrw := hid hrow0
      have kp6 := hid (blk_updO kp.out hu0 oi.out (by decide))
      have hkk := hid (show k ≤ 2000 by have := hbd.out; omega)
      clear hu0 hrow0
      have x2 : wr.cell? ⟨np, 2, none⟩ = some (.slice Bi p.code.length di) := kp6.out.cell 2
      by_cases hlt : k < p.code.length
      · obtain ⟨b, cs, rfl, hbk0, hsz0⟩ := hrw.out (by omega)
        have hbk := hid hbk0
        have hs9 := hid hsz0
        have i1 : (k : Int) < (p.code.length : Int) := by omega
        have i2 : IntKind.i64.wrap ((k : Int) + 1) = (k : Int) + 1 := by rw [IntKind.wrap_i64]; have := hkk.out; omega
        obtain ⟨u0, hu0⟩ : ∃ u, cs[k * 2]? = some u := ⟨_, Array.getElem?_eq_getElem (by omega)⟩
        obtain ⟨u1, hu1⟩ : ∃ u, cs[k * 2 + 1]? = some u := ⟨_, Array.getElem?_eq_getElem (by omega)⟩
        have y0 : wr.cell? ⟨b, k * 2, none⟩ = some u0 := (hbk.out.cell (k * 2)).trans hu0
        have y1 : wr.cell? ⟨b, k * 2 + 1, none⟩ = some u1 := (hbk.out.cell (k * 2 + 1)).trans hu1
        have fz := fun q => hbk.out.frozen q
        have hlH := hid hlt
        clear hbk0 hsz0 hu0 hu1 hk hlt
        go_wp2_with fail
        go_roundw
        case rel =>
          refine ⟨k + 1, rfl, by have := hlH.out; omega, ?_, fun _ => ⟨b, _, rfl, (hbk.out.set_ (k * 2) _).set_ (k * 2 + 1) _, by have := hs9.out; simpa using this⟩⟩
          exact (hU.out.setCell (p := ⟨b, k * 2, none⟩) (fun _ => rfl) _).setCell (p := ⟨b, k * 2 + 1, none⟩) (fun _ => rfl) _
        case measure => simp [intOf]; have := hlH.out; omega
      · have i1 : ¬ ((k : Int) < (p.code.length : Int)) := by omega
        have kt6 := hid (blk_updO kt.out hU.out oi.out (by decide))
        have ko6 := hid (blk_updO ko.out hU.out oi.out (by decide))
        have hoc6 := hid (hoc.out.updO hU.out oi.out (by decide) (by decide) (by decide))
        have hask6 := hid (hask.out.updO hU.out oi.out (by decide) (by decide))
        have osrc6 := hid (own_updO osrc.out hU.out oi.out (by decide))
        have hB6 : Hid (Below w.heap.size w wr) := hid (hBw.out.trans (hU.out.below (B := w.heap.size) hBw.out.size fun q hq e => by have := (oi.out.lt q e).1; have := hw4.out; omega))
        clear hlt hk
        go_upto_region 10 with fail
        clear i1 x2
        have x0 : wr.cell? ⟨n6, 0, none⟩ = some (.int .i64 o.code) := kt6.out.cell 0
        have x1 : wr.cell? ⟨n6, 1, none⟩ = some (.int .i64 o.at_) := kt6.out.cell 1
        have x2 : wr.cell? ⟨n6, 2, none⟩ = some (.int .i64 o.ab) := kt6.out.cell 2
        have x3 : wr.cell? ⟨n6, 3, none⟩ = some (.slice A1 o.out.length c1) := kt6.out.cell 3
        have x4 : wr.cell? ⟨n6, 4, none⟩ = some (.slice A2 o.ws.length c2) := kt6.out.cell 4
        have x5 : wr.cell? ⟨n6, 5, none⟩ = some (.slice A3 o.rd.length c3) := kt6.out.cell 5
        have x6 : wr.cell? ⟨n6, 6, none⟩ = some (.slice A4 o.wr.length c4) := kt6.out.cell 6
        have x7 : wr.cell? ⟨n6, 7, none⟩ = some (.int .i64 o.left) := kt6.out.cell 7
        have z0 := ko6.out.cell 0
        have z1 := ko6.out.cell 1
        have z2 := ko6.out.cell 2
        have z3 := ko6.out.cell 3
        have z4 := ko6.out.cell 4
        have z5 := ko6.out.cell 5
        have z6 := ko6.out.cell 6
        have z7 := ko6.out.cell 7
        simp only [List.getElem?_toArray, List.getElem?_cons_zero, List.getElem?_cons_succ] at z0 z1 z2 z3 z4 z5 z6 z7
        have fo := fun q => ko6.out.frozen q
        go_wp2_with fail
        have U8 := (((((((((Upd.refl (fun q => q = w.heap.size + 1) wr).setCell (p := ⟨w.heap.size + 1, 0, none⟩) (fun _ => rfl) (.int .i64 o.code)).setCell (p := ⟨w.heap.size + 1, 1, none⟩) (fun _ => rfl) (.int .i64 o.at_)).setCell (p := ⟨w.heap.size + 1, 2, none⟩) (fun _ => rfl) (.int .i64 o.ab)).setCell (p := ⟨w.heap.size + 1, 3, none⟩) (fun _ => rfl) (.slice A1 o.out.length c1)).setCell (p := ⟨w.heap.size + 1, 4, none⟩) (fun _ => rfl) (.slice A2 o.ws.length c2)).setCell (p := ⟨w.heap.size + 1, 5, none⟩) (fun _ => rfl) (.slice A3 o.rd.length c3)).setCell (p := ⟨w.heap.size + 1, 6, none⟩) (fun _ => rfl) (.slice A4 o.wr.length c4)).setCell (p := ⟨w.heap.size + 1, 7, none⟩) (fun _ => rfl) (.int .i64 o.left))
        refine bodyPost_ret (v := .tuple #[.agg #[.int .i64 o.code, .int .i64 o.at_, .int .i64 o.ab, .slice A1 o.out.length c1, .slice A2 o.ws.length c2, .slice A3 o.rd.length c3, .slice A4 o.wr.length c4, .int .i64 o.left], .pointer (some ⟨sb, 0, none⟩)]) (runL_res (n := w.heap.size + 1) (show Blk _ _ 29 #[.int .i64 o.code, .int .i64 o.at_, .int .i64 o.ab, .slice A1 o.out.length c1, .slice A2 o.ws.length c2, .slice A3 o.rd.length c3, .slice A4 o.wr.length c4, .int .i64 o.left] from by simpa using (((((((ko6.out.set_ 0 (.int .i64 o.code)).set_ 1 (.int .i64 o.at_)).set_ 2 (.int .i64 o.ab)).set_ 3 (.slice A1 o.out.length c1)).set_ 4 (.slice A2 o.ws.length c2)).set_ 5 (.slice A3 o.rd.length c3)).set_ 6 (.slice A4 o.wr.length c4)).set_ 7 (.int .i64 o.left)) rfl rfl) rfl ?_
        refine ⟨_, sb, rfl, ?_, ?_, ?_, hsw.out⟩
        · rw [hoo.out]
          exact (hoc6.out.upd U8 ko6.out (by decide) (by decide) (by decide)).base hle5.out
        · have h1 := hask6.out.upd U8 ko6.out (by decide) (by have := hsn.out; show sb ≠ w.heap.size + 1; omega)
          obtain ⟨A, c, e1, e2⟩ := h1
          exact ⟨Bl, dl, A, c, e1, own_updG osrc6.out U8 ko6.out (by decide), own_base hle5.out e2⟩
        · exact hB6.out.trans (U8.below hB6.out.size fun q hq e => by omega)
end
end Go.Proofs.YtdmogoaaecdbaaaGreatDoor

namespace Go.Proofs.YtdmogoaaecdbaaaGreatDoor
open Go.RowKit
set_option linter.unusedVariables false
set_option linter.unusedSimpArgs false

deriving instance DecidableEq for Wr
theorem txt_ne {z x : ByteArray} (h : z ≠ x) : (z.toList == x.toList) = false := by rw [bytes_dec]; exact decide_eq_false h
theorem val_neI {z x : Vl} (h : z ≠ x) : ¬ z.k = x.k ∨ (z.k = x.k ∧ ¬ z.n = x.n) ∨ (z.k = x.k ∧ z.n = x.n ∧ ¬ z.s.toList = x.s.toList) := by
  by_cases h1 : z.k = x.k
  · by_cases h2 : z.n = x.n
    · refine .inr (.inr ⟨h1, h2, fun h3 => h ?_⟩)
      have h3 := ba_inj h3
      obtain ⟨a, b, c⟩ := z
      obtain ⟨d, e, f⟩ := x
      obtain rfl : a = d := h1
      obtain rfl : b = e := h2
      obtain rfl : c = f := h3
      rfl
    · exact .inr (.inl ⟨h1, h2⟩)
  · exact .inl h1
theorem wr_neI {z x : Wr} (h : z ≠ x) : ¬ z.key.toList = x.key.toList ∨ (z.key.toList = x.key.toList ∧ (z.gone == x.gone) = false) ∨ (z.key.toList = x.key.toList ∧ z.gone = x.gone ∧ ¬ z.v.k = x.v.k) ∨ (z.key.toList = x.key.toList ∧ z.gone = x.gone ∧ z.v.k = x.v.k ∧ ¬ z.v.n = x.v.n) ∨ (z.key.toList = x.key.toList ∧ z.gone = x.gone ∧ z.v.k = x.v.k ∧ z.v.n = x.v.n ∧ ¬ z.v.s.toList = x.v.s.toList) := by
  by_cases h1 : z.key.toList = x.key.toList
  · by_cases h2 : z.gone = x.gone
    · have h3 : z.v ≠ x.v := fun e => h (by
        have h1 := ba_inj h1
        obtain ⟨a, b, c⟩ := z
        obtain ⟨d, e', f⟩ := x
        obtain rfl : a = d := h1
        obtain rfl : b = e' := h2
        obtain rfl : c = f := e
        rfl)
      rcases val_neI h3 with h4 | ⟨h4, h5⟩ | ⟨h4, h5, h6⟩
      · exact .inr (.inr (.inl ⟨h1, h2, h4⟩))
      · exact .inr (.inr (.inr (.inl ⟨h1, h2, h4, h5⟩)))
      · exact .inr (.inr (.inr (.inr ⟨h1, h2, h4, h5, h6⟩)))
    · exact .inr (.inl ⟨h1, by simpa using h2⟩)
  · exact .inl h1
theorem wcells_at {S : Nat → Prop} {w : World} {A : Option Addr} {l : List Wr} (h : Rd S w 5 A l.length (wcells l)) {k : Nat} (hk : k < l.length) : ∃ b o, A = some ⟨b, o, none⟩ ∧ S b ∧ w.cell? ⟨b, o + k * 5, none⟩ = some (.string l[k].key) ∧ w.cell? ⟨b, o + k * 5 + 1, none⟩ = some (.bool l[k].gone) ∧ w.cell? ⟨b, o + k * 5 + 2, none⟩ = some (.int .i64 l[k].v.k) ∧ w.cell? ⟨b, o + k * 5 + 3, none⟩ = some (.int .i64 l[k].v.n) ∧ w.cell? ⟨b, o + k * 5 + 4, none⟩ = some (.string l[k].v.s) := by
  obtain ⟨b, o, e, hS, _, hc⟩ := h.2 (by omega)
  have hx : ∀ j, j < 5 → (wcells l)[k * 5 + j]? = (wrCells l[k])[j]? := fun j hj => by
    unfold wcells
    exact flat_at wrCells 5 (fun _ => rfl) l k j hk hj
  exact ⟨b, o, e, hS, hc _ _ (by rw [show k * 5 = k * 5 + 0 by omega, hx 0 (by omega)]; rfl), by rw [Nat.add_assoc]; exact hc _ _ (by rw [hx 1 (by omega)]; rfl), by rw [Nat.add_assoc]; exact hc _ _ (by rw [hx 2 (by omega)]; rfl), by rw [Nat.add_assoc]; exact hc _ _ (by rw [hx 3 (by omega)]; rfl), by rw [Nat.add_assoc]; exact hc _ _ (by rw [hx 4 (by omega)]; rfl)⟩
theorem Rd.wcells_at {S : Nat → Prop} {w : World} {A : Option Addr} {l : List Wr} (h : Rd S w 5 A l.length (wcells l)) {k : Nat} (hk : k < l.length) : ∃ b o, A = some ⟨b, o, none⟩ ∧ S b ∧ w.cell? ⟨b, o + k * 5, none⟩ = some (.string l[k].key) ∧ w.cell? ⟨b, o + k * 5 + 1, none⟩ = some (.bool l[k].gone) ∧ w.cell? ⟨b, o + k * 5 + 2, none⟩ = some (.int .i64 l[k].v.k) ∧ w.cell? ⟨b, o + k * 5 + 3, none⟩ = some (.int .i64 l[k].v.n) ∧ w.cell? ⟨b, o + k * 5 + 4, none⟩ = some (.string l[k].v.s) := Go.Proofs.YtdmogoaaecdbaaaGreatDoor.wcells_at h hk
set_option maxRecDepth 100000 in
set_option maxHeartbeats 2000000 in
theorem textsI_any {S S' : Nat → Prop} {A B : Option Addr} {l m : List ByteArray} {c d : Nat} {w : World} (ha : Rd S w 1 A l.length (strs l)) (hb : Rd S' w 1 B m.length (strs m)) (hl : l.length ≤ 1000000) : Calls Tryz.prog 22 #[.slice A l.length c, .slice B m.length d] w fun e w' => e = .returned (.bool (decide (l = m))) ∧ Below w.heap.size w w' := by
  have hA := hid ha
  have hBb := hid hb
  have hlh := hid hl
  clear ha hb hl
  by_cases hlen : l.length = m.length
  · have t1 : ((l.length : Int) != (m.length : Int)) = false := by simp; omega
    have hlenH := hid hlen
    clear hlen
    go_enter Tryz.func22, Tryz.ntmps22
    go_wp2_with fail
    go_loopw [5] (fun v wr => ∃ k : Nat, v = .int .i64 k ∧ k ≤ l.length ∧ (∀ j, j < k → l[j]? = m[j]?) ∧ Below w.heap.size w wr) (fun v _ => l.length - (intOf v).toNat)
    case atStart => exact ⟨0, rfl, Nat.zero_le _, fun j h => absurd h (by omega), Below.refl _ _⟩
    case round =>
      obtain ⟨k, rfl, hk, hj0, hB0⟩ := hrel
      have hj := hid hj0
      have hB := hid hB0
      clear hj0 hB0
      by_cases hlt : k < l.length
      · have i1 : (k : Int) < (l.length : Int) := by omega
        have hlt2 : k < m.length := by have := hlenH.out; omega
        have i2 : (k : Int) < (m.length : Int) := by omega
        have i3 : IntKind.i64.wrap ((k : Int) + 1) = (k : Int) + 1 := by rw [IntKind.wrap_i64]; have := hlh.out; omega
        have hg1 : l[k]? = some l[k] := List.getElem?_eq_getElem hlt
        have hg2 : m[k]? = some m[k] := List.getElem?_eq_getElem hlt2
        obtain ⟨b1, o1, rfl, _, al, ac⟩ := (hA.out.below_all hB.out).at_ hlt
        have a0 := ac k (.string l[k]) (by simp [strs, hlt])
        clear ac
        obtain ⟨b2, o2, rfl, _, el, ec⟩ := (hBb.out.below_all hB.out).at_ hlt2
        have e0 := ec k (.string m[k]) (by simp [strs, hlt2])
        clear ec
        have hkl := hid hlt
        generalize l[k] = u at *
        generalize m[k] = v at *
        clear hlt hlt2 hk
        by_cases hxy : u = v
        · have hj2 := hid (show ∀ j, j < k + 1 → l[j]? = m[j]? from fun j h => by
            rcases Nat.lt_or_eq_of_le (Nat.lt_succ_iff.1 h) with h1 | h1
            · exact hj.out j h1
            · rw [h1, hg1, hg2, hxy])
          subst hxy
          clear hg1 hg2 hj
          go_upto_region 6 with fail
          go_quiet (fail)
          go_wp2_with fail
          go_roundw
          case rel => exact ⟨k + 1, rfl, by have := hkl.out; omega, hj2.out, below_drewN hB.out _⟩
          case measure => simp [intOf]; have := hkl.out; omega
        · have hne : Hid (decide (l = m) = false) := hid (decide_eq_false fun e => by rw [e] at hg1; rw [hg1] at hg2; injection hg2 with hg2; exact hxy hg2)
          have hcs := txt_ne hxy
          clear hxy hg1 hg2 hj
          rcases hcs with h
          all_goals
            go_upto_region 6 with fail
            go_quiet (fail)
            go_wp2_with fail
            go_ret
            exact ⟨by rw [hne.out]; rfl, below_drewN hB.out _⟩
      · have i1 : ¬ ((k : Int) < (l.length : Int)) := by omega
        have heq : Hid (decide (l = m) = true) := hid (decide_eq_true (List.ext_getElem? fun j => by
          by_cases h : j < k
          · exact hj.out j h
          · rw [List.getElem?_eq_none (by omega), List.getElem?_eq_none (by have := hlenH.out; omega)]))
        clear hlt hk hj
        go_wp2_with fail
        go_ret
        exact ⟨by rw [heq.out]; rfl, hB.out⟩
  · have t1 : ((l.length : Int) != (m.length : Int)) = true := by simp; omega
    have hne : Hid (decide (l = m) = false) := hid (decide_eq_false fun e => hlen (by rw [e]))
    clear hlen
    go_enter Tryz.func22, Tryz.ntmps22
    go_wp2_with fail
    go_ret
    exact ⟨by rw [hne.out]; rfl, Below.refl _ _⟩
section
variable {w : World} {A1 A2 B1 B2 : Option Addr} {c1 c2 d1 d2 : Nat} {l1 l2 m1 m2 : List ByteArray} {S1 S2 S3 S4 : Nat → Prop}
set_option maxRecDepth 100000 in
set_option maxHeartbeats 2000000 in
theorem fsameI_any (h1 : Rd S1 w 1 A1 l1.length (strs l1)) (h2 : Rd S2 w 1 A2 l2.length (strs l2)) (h3 : Rd S3 w 1 B1 m1.length (strs m1)) (h4 : Rd S4 w 1 B2 m2.length (strs m2)) (n1 : l1.length ≤ 1000000) (n2 : l2.length ≤ 1000000) :
    Calls Tryz.prog 42 #[.agg #[.slice A1 l1.length c1, .slice A2 l2.length c2], .agg #[.slice B1 m1.length d1, .slice B2 m2.length d2]] w fun e w' => e = .returned (.bool (decide (l1 = m1) && decide (l2 = m2))) ∧ Below w.heap.size w w' := by
  have hB0 : Below w.heap.size w ((w.alloc (.cells #[.slice A1 l1.length c1, .slice A2 l2.length c2] 27)).alloc (.cells #[.slice B1 m1.length d1, .slice B2 m2.length d2] 27)) := below_two _ _
  have ka := hid (show Blk ((w.alloc (.cells #[.slice A1 l1.length c1, .slice A2 l2.length c2] 27)).alloc (.cells #[.slice B1 m1.length d1, .slice B2 m2.length d2] 27)) w.heap.size 27 #[.slice A1 l1.length c1, .slice A2 l2.length c2] from (Blk.new w _ _).alloc _)
  have kb := hid (show Blk ((w.alloc (.cells #[.slice A1 l1.length c1, .slice A2 l2.length c2] 27)).alloc (.cells #[.slice B1 m1.length d1, .slice B2 m2.length d2] 27)) (w.heap.size + 1) 27 #[.slice B1 m1.length d1, .slice B2 m2.length d2] from Blk.new' _ _ _ (by simp))
  have hB := hid hB0
  have hT1 := hid (fun W (hW : Below w.heap.size w W) => textsI_any (c := c1) (d := d1) (h1.below_all hW) (h3.below_all hW) n1)
  have hT2 := hid (fun W (hW : Below w.heap.size w W) => textsI_any (c := c2) (d := d2) (h2.below_all hW) (h4.below_all hW) n2)
  clear hB0 h1 h2 h3 h4 n1 n2
  go_enter Tryz.func42, Tryz.ntmps42
  go_upto_region 1 with fail
  generalize (w.alloc (.cells #[.slice A1 l1.length c1, .slice A2 l2.length c2] 27)).alloc (.cells #[.slice B1 m1.length d1, .slice B2 m2.length d2] 27) = w1 at *
  have a0 : w1.cell? ⟨w.heap.size, 0, none⟩ = some (.slice A1 l1.length c1) := ka.out.cell 0
  have b0 : w1.cell? ⟨w.heap.size + 1, 0, none⟩ = some (.slice B1 m1.length d1) := kb.out.cell 0
  go_wp2_with fail
  refine (hT1.out _ hB.out).mono ?_
  rintro e w2 ⟨rfl, hb0⟩
  have hB2 := hid (hB.out.trans (hb0.mono hB.out.size))
  have a1 : w2.cell? ⟨w.heap.size, 1, none⟩ = some (.slice A2 l2.length c2) := (ka.out.below_all hb0).cell 1
  have b1 : w2.cell? ⟨w.heap.size + 1, 1, none⟩ = some (.slice B2 m2.length d2) := (kb.out.below_all hb0).cell 1
  clear hb0 a0 b0
  cases hd : decide (l1 = m1) with
  | false =>
    have e1 := hid hd
    clear hd
    go_wp2_with fail
    go_ret
    exact ⟨by rw [e1.out]; rfl, hB2.out⟩
  | true =>
    have e1 := hid hd
    clear hd
    go_wp2_with fail
    refine (hT2.out _ hB2.out).mono ?_
    rintro e w3 ⟨rfl, hb0⟩
    have hB3 := hid (hB2.out.trans (hb0.mono hB2.out.size))
    clear hb0 a1 b1
    cases hd : decide (l2 = m2) with
    | false =>
      have e2 := hid hd
      clear hd
      go_wp2_with fail
      go_ret
      exact ⟨by rw [e1.out, e2.out]; rfl, hB3.out⟩
    | true =>
      have e2 := hid hd
      clear hd
      go_wp2_with fail
      go_ret
      exact ⟨by rw [e1.out, e2.out]; rfl, hB3.out⟩
end
end Go.Proofs.YtdmogoaaecdbaaaGreatDoor

namespace Go.Proofs.YtdmogoaaecdbaaaGreatDoor
open Go.RowKit
set_option linter.unusedVariables false
set_option linter.unusedSimpArgs false

def homeP : Pr := ⟨0, [numVl 5, wrdV ⟨#[97]⟩], [⟨1, 1⟩, ⟨20, 0⟩, ⟨1, 0⟩, ⟨7, 0⟩, ⟨29, 0⟩, ⟨31, 0⟩]⟩
def homeS (n : Int) : List Kv := [(⟨#[97]⟩, numVl n)]
theorem live_o7 : runO homeP [] (homeS 7) true 100 = ⟨0, 5, 0, [numVl 12], [], [⟨#[97]⟩], [], 94⟩ := by kernel_rfl
theorem live_a7 : askO homeP [] (homeS 7) true 100 = [⟨#[97]⟩] := by kernel_rfl
theorem live_ox : runO homeP [] (homeS 9223372036854775807) true 100 = ⟨70, 3, 0, [], [], [⟨#[97]⟩], [], 96⟩ := by kernel_rfl
theorem home_rng {n : Int} (h : -9223372036854775808 ≤ n ∧ n ≤ 9223372036854775807) : ∀ x ∈ homeS n, x.2.rng := fun x hx => by
  rw [List.mem_singleton.1 hx]
  unfold Vl.rng numVl
  exact h
theorem home_size {n : Int} : ∀ x ∈ homeS n, x.2.s.size ≤ 9223372036854775806 := fun x hx => by
  rw [List.mem_singleton.1 hx]
  show 0 ≤ _
  omega
theorem homeP_rng : ∀ v ∈ homeP.cs, v.rng := fun v hv => by
  rcases List.mem_cons.1 hv with rfl | hv
  · unfold Vl.rng numVl; constructor <;> decide
  · rw [List.mem_singleton.1 hv]; unfold Vl.rng wrdV; constructor <;> decide
theorem homeP_size : ∀ v ∈ homeP.cs, v.s.size ≤ 9223372036854775806 := fun v hv => by
  rcases List.mem_cons.1 hv with rfl | hv
  · decide
  · rw [List.mem_singleton.1 hv]; decide
theorem numI_any (n : Int) (w : World) : Calls Tryz.prog 16 #[.int .i64 n] w fun e w' => e = .returned (.int .i64 n) ∧ w' = w := by
  go_enter Tryz.func16, Tryz.ntmps16
  go_wp2
  go_ret
  exact ⟨rfl, rfl⟩
theorem Rd.blk {w : World} {g size n : Nat} {t : TypeId} {cs : Array Value} (h : Blk w g t cs) (hn : cs.size = n * size) : Rd (fun b => b = g) w size (some ⟨g, 0, none⟩) n cs.toList := by
  refine ⟨by simpa using hn, fun _ => ⟨_, 0, rfl, rfl, h.lt, fun j u hu => ?_⟩⟩
  rw [Nat.zero_add, h.cell j]
  simpa using hu
set_option maxRecDepth 100000 in
set_option maxHeartbeats 2000000 in
theorem homeI_any (n : Int) (w : World) : Calls Tryz.prog 15 #[.int .i64 n] w fun e w' => ∃ Ac Ai Al, e = .returned (.agg #[.int .i64 0, .slice Ac 2 2, .slice Ai 6 6, .slice none 0 0, .slice Al 1 1, .int .i64 100]) ∧ PrIn (fun q => w.heap.size ≤ q) w' Ac Ai homeP ∧ Rd (fun q => w.heap.size ≤ q) w' 4 Al 1 (srcCells (homeS n)) ∧ Below w.heap.size w w' := by
  have k0 := hid (Blk.new w 36 #[.int .i64 0, .slice none 0 0, .slice none 0 0, .slice none 0 0, .slice none 0 0, .int .i64 0])
  have hB0 := hid ((Below.refl w.heap.size w).alloc (Nat.le_refl _) (.cells #[.int .i64 0, .slice none 0 0, .slice none 0 0, .slice none 0 0, .slice none 0 0, .int .i64 0] 36))
  have hs0 : Hid ((w.alloc (.cells #[.int .i64 0, .slice none 0 0, .slice none 0 0, .slice none 0 0, .slice none 0 0, .int .i64 0] 36)).heap.size = w.heap.size + 1) := hid (by simp)
  go_enter Tryz.func15, Tryz.ntmps15
  go_upto_region 1 with fail
  generalize w.alloc (.cells #[.int .i64 0, .slice none 0 0, .slice none 0 0, .slice none 0 0, .slice none 0 0, .int .i64 0] 36) = w1 at *
  have kr4 := hid (((k0.out.alloc (.cells #[.int .i64 1, .int .i64 5, .string ⟨#[]⟩, .int .i64 2, .int .i64 0, .string ⟨#[97]⟩] 55)).alloc (.cells #[.int .i64 1, .int .i64 1, .int .i64 20, .int .i64 0, .int .i64 1, .int .i64 0, .int .i64 7, .int .i64 0, .int .i64 29, .int .i64 0, .int .i64 31, .int .i64 0] 69)).alloc (.cells #[.string ⟨#[97]⟩, .int .i64 1, .int .i64 n, .string ⟨#[]⟩] 63))
  have h5 := hid (((Blk.new w1 _ _).alloc (.cells #[.int .i64 1, .int .i64 1, .int .i64 20, .int .i64 0, .int .i64 1, .int .i64 0, .int .i64 7, .int .i64 0, .int .i64 29, .int .i64 0, .int .i64 31, .int .i64 0] 69)).alloc (.cells #[.string ⟨#[97]⟩, .int .i64 1, .int .i64 n, .string ⟨#[]⟩] 63) : Blk (((w1.alloc (.cells #[.int .i64 1, .int .i64 5, .string ⟨#[]⟩, .int .i64 2, .int .i64 0, .string ⟨#[97]⟩] 55)).alloc (.cells #[.int .i64 1, .int .i64 1, .int .i64 20, .int .i64 0, .int .i64 1, .int .i64 0, .int .i64 7, .int .i64 0, .int .i64 29, .int .i64 0, .int .i64 31, .int .i64 0] 69)).alloc (.cells #[.string ⟨#[97]⟩, .int .i64 1, .int .i64 n, .string ⟨#[]⟩] 63)) w1.heap.size _ #[.int .i64 1, .int .i64 5, .string ⟨#[]⟩, .int .i64 2, .int .i64 0, .string ⟨#[97]⟩])
  have h12 := hid ((Blk.new' (w1.alloc (.cells #[.int .i64 1, .int .i64 5, .string ⟨#[]⟩, .int .i64 2, .int .i64 0, .string ⟨#[97]⟩] 55)) _ _ (by simp)).alloc (.cells #[.string ⟨#[97]⟩, .int .i64 1, .int .i64 n, .string ⟨#[]⟩] 63) : Blk (((w1.alloc (.cells #[.int .i64 1, .int .i64 5, .string ⟨#[]⟩, .int .i64 2, .int .i64 0, .string ⟨#[97]⟩] 55)).alloc (.cells #[.int .i64 1, .int .i64 1, .int .i64 20, .int .i64 0, .int .i64 1, .int .i64 0, .int .i64 7, .int .i64 0, .int .i64 29, .int .i64 0, .int .i64 31, .int .i64 0] 69)).alloc (.cells #[.string ⟨#[97]⟩, .int .i64 1, .int .i64 n, .string ⟨#[]⟩] 63)) (w1.heap.size + 1) _ #[.int .i64 1, .int .i64 1, .int .i64 20, .int .i64 0, .int .i64 1, .int .i64 0, .int .i64 7, .int .i64 0, .int .i64 29, .int .i64 0, .int .i64 31, .int .i64 0])
  have h17 := hid (Blk.new' ((w1.alloc (.cells #[.int .i64 1, .int .i64 5, .string ⟨#[]⟩, .int .i64 2, .int .i64 0, .string ⟨#[97]⟩] 55)).alloc (.cells #[.int .i64 1, .int .i64 1, .int .i64 20, .int .i64 0, .int .i64 1, .int .i64 0, .int .i64 7, .int .i64 0, .int .i64 29, .int .i64 0, .int .i64 31, .int .i64 0] 69)) _ _ (by simp) : Blk (((w1.alloc (.cells #[.int .i64 1, .int .i64 5, .string ⟨#[]⟩, .int .i64 2, .int .i64 0, .string ⟨#[97]⟩] 55)).alloc (.cells #[.int .i64 1, .int .i64 1, .int .i64 20, .int .i64 0, .int .i64 1, .int .i64 0, .int .i64 7, .int .i64 0, .int .i64 29, .int .i64 0, .int .i64 31, .int .i64 0] 69)).alloc (.cells #[.string ⟨#[97]⟩, .int .i64 1, .int .i64 n, .string ⟨#[]⟩] 63)) (w1.heap.size + 2) _ #[.string ⟨#[97]⟩, .int .i64 1, .int .i64 n, .string ⟨#[]⟩])
  have hB4 := hid (((hB0.out.alloc hB0.out.size (.cells #[.int .i64 1, .int .i64 5, .string ⟨#[]⟩, .int .i64 2, .int .i64 0, .string ⟨#[97]⟩] 55)).alloc (by have := hB0.out.size; simp; omega) (.cells #[.int .i64 1, .int .i64 1, .int .i64 20, .int .i64 0, .int .i64 1, .int .i64 0, .int .i64 7, .int .i64 0, .int .i64 29, .int .i64 0, .int .i64 31, .int .i64 0] 69)).alloc (by have := hB0.out.size; simp; omega) (.cells #[.string ⟨#[97]⟩, .int .i64 1, .int .i64 n, .string ⟨#[]⟩] 63))
  have z0 := kr4.out.cell 0
  have z1 := kr4.out.cell 1
  have z2 := kr4.out.cell 2
  have z3 := kr4.out.cell 3
  have z4 := kr4.out.cell 4
  have z5 := kr4.out.cell 5
  simp only [List.getElem?_toArray, List.getElem?_cons_zero, List.getElem?_cons_succ] at z0 z1 z2 z3 z4 z5
  have zf := fun q => kr4.out.frozen q
  have zl := kr4.out.lt
  go_wp2_with fail
  have U := (((((((Upd.refl (fun q => q = w.heap.size) (((w1.alloc (.cells #[.int .i64 1, .int .i64 5, .string ⟨#[]⟩, .int .i64 2, .int .i64 0, .string ⟨#[97]⟩] 55)).alloc (.cells #[.int .i64 1, .int .i64 1, .int .i64 20, .int .i64 0, .int .i64 1, .int .i64 0, .int .i64 7, .int .i64 0, .int .i64 29, .int .i64 0, .int .i64 31, .int .i64 0] 69)).alloc (.cells #[.string ⟨#[97]⟩, .int .i64 1, .int .i64 n, .string ⟨#[]⟩] 63))).setCell (p := ⟨w.heap.size, 0, none⟩) (fun _ => rfl) (.int .i64 0)).setCell (p := ⟨w.heap.size, 1, none⟩) (fun _ => rfl) (.slice (some ⟨w1.heap.size, 0, none⟩) 2 2)).setCell (p := ⟨w.heap.size, 2, none⟩) (fun _ => rfl) (.slice (some ⟨w1.heap.size + 1, 0, none⟩) 6 6)).setCell (p := ⟨w.heap.size, 3, none⟩) (fun _ => rfl) (.slice none 0 0)).setCell (p := ⟨w.heap.size, 4, none⟩) (fun _ => rfl) (.slice (some ⟨w1.heap.size + 2, 0, none⟩) 1 1)).setCell (p := ⟨w.heap.size, 5, none⟩) (fun _ => rfl) (.int .i64 100))
  refine bodyPost_ret (v := .agg #[.int .i64 0, .slice (some ⟨w1.heap.size, 0, none⟩) 2 2, .slice (some ⟨w1.heap.size + 1, 0, none⟩) 6 6, .slice none 0 0, .slice (some ⟨w1.heap.size + 2, 0, none⟩) 1 1, .int .i64 100]) ?_ rfl ⟨_, _, _, rfl, ?_, ?_, ?_⟩
  · exact results_cell_row (P := Tryz.prog) rfl _ _ w.heap.size 36 _ (0, 0) _ rfl (show Blk _ _ _ #[.int .i64 0, .slice (some ⟨w1.heap.size, 0, none⟩) 2 2, .slice (some ⟨w1.heap.size + 1, 0, none⟩) 6 6, .slice none 0 0, .slice (some ⟨w1.heap.size + 2, 0, none⟩) 1 1, .int .i64 100] from by simpa using (((((kr4.out.set_ 0 (.int .i64 0)).set_ 1 (.slice (some ⟨w1.heap.size, 0, none⟩) 2 2)).set_ 2 (.slice (some ⟨w1.heap.size + 1, 0, none⟩) 6 6)).set_ 3 (.slice none 0 0)).set_ 4 (.slice (some ⟨w1.heap.size + 2, 0, none⟩) 1 1)).set_ 5 (.int .i64 100)) Tryz.underlying36 rfl (by kernel_rfl)
  · have hl := hs0.out
    refine ⟨?_, ?_, homeP_size, by decide⟩
    · exact (Rd.blk h5.out (size := 3) (n := 2) rfl).upd U (fun q hq e => by omega) |>.more fun q hq _ => by omega
    · exact (Rd.blk h12.out (size := 2) (n := 6) rfl).upd U (fun q hq e => by omega) |>.more fun q hq _ => by omega
  · have hl := hs0.out
    exact (Rd.blk h17.out (size := 4) (n := 1) rfl).upd U (fun q hq e => by omega) |>.more fun q hq _ => by omega
  · exact hB4.out.trans (U.below hB4.out.size fun q hq e => by omega)
theorem SrcV.below {n0 : Nat} {w w' : World} {sb : Nat} {src : List Kv} {ks : List ByteArray} (h : SrcV n0 w sb src ks) (hb : Below w.heap.size w w') : SrcV n0 w' sb src ks := by
  obtain ⟨Bl, dl, A, c, h1, h2, h3⟩ := h
  exact ⟨Bl, dl, A, c, h1.below_all hb, own_below h2 hb, own_below h3 hb⟩
set_option maxRecDepth 100000 in
set_option maxHeartbeats 4000000 in
theorem liveI_any (w : World) (he0 : Env w) : Calls Tryz.prog 17 #[] w fun e w' => e = .returned (.bool true) ∧ Below w.heap.size w w' := by
  have he := hid he0
  clear he0
  go_enter Tryz.func17, Tryz.ntmps17
  go_wp2_with fail
  refine (homeI_any 7 _).mono ?_
  rintro e wa ⟨Ac, Ai, Al, rfl, hp, hs, hb0⟩
  have hBa := hid (hb0)
  have hr := hid (runL_any (p := homeP) (args := []) (src := homeS 7) (Ac := Ac) (cc := 2) (Ai := Ai) (ci := 6) (Aa := none) (ca := 0) (Al := Al) (cl := 1) (f := 100) (Sa := fun _ => True) hp Rd.nil_ hs ⟨by decide, by decide, by decide, by decide⟩ (fun v hv => by cases hv) homeP_rng (fun v hv => by cases hv) (home_rng (by decide)) home_size (he.out.below hBa.out))
  clear hp hs hb0
  go_wp2_with fail
  refine hr.out.mono ?_
  rintro e wb ⟨v, s0, rfl, hoc, hsv, hb0, _⟩
  rw [live_o7] at hoc
  obtain ⟨A1, c1, A2, c2, A3, c3, A4, c4, rfl, r1, r2, r3, r4⟩ := hoc
  rw [live_a7] at hsv
  have hB := hid (hBa.out.trans (hb0.mono hBa.out.size))
  have t1 := hid (Blk.new wb 29 #[.int .i64 0, .int .i64 5, .int .i64 0, .slice A1 1 c1, .slice A2 0 c2, .slice A3 1 c3, .slice A4 0 c4, .int .i64 94])
  have hb9 : Below wb.heap.size wb (wb.alloc (.cells #[.int .i64 0, .int .i64 5, .int .i64 0, .slice A1 1 c1, .slice A2 0 c2, .slice A3 1 c3, .slice A4 0 c4, .int .i64 94] 29)) := (Below.refl _ _).alloc (Nat.le_refl _) _
  have ro := hid (own_below r1 hb9)
  have rr := hid (own_below r3 hb9)
  have rs := hid (hsv.below hb9)
  have hB := hid (hB.out.trans (hb9.mono hB.out.size))
  clear r1 r2 r3 r4 hsv hb0 hb9 hr hBa
  go_upto_region 2 with fail
  generalize wb.alloc (.cells #[.int .i64 0, .int .i64 5, .int .i64 0, .slice A1 1 c1, .slice A2 0 c2, .slice A3 1 c3, .slice A4 0 c4, .int .i64 94] 29) = wc at *
  generalize wb.heap.size = n1 at *
  go_wp2_with fail
  refine (homeI_any 9223372036854775807 _).mono ?_
  rintro e wa ⟨Ac, Ai, Al, rfl, hp, hs, hb0⟩
  have hBa := hid (hB.out.trans (hb0.mono hB.out.size))
  have t1 := hid (t1.out.below_all hb0)
  have ro := hid (own_below ro.out hb0)
  have rr := hid (own_below rr.out hb0)
  have rs := hid (rs.out.below hb0)
  have hr := hid (runL_any (p := homeP) (args := []) (src := homeS 9223372036854775807) (Ac := Ac) (cc := 2) (Ai := Ai) (ci := 6) (Aa := none) (ca := 0) (Al := Al) (cl := 1) (f := 100) (Sa := fun _ => True) hp Rd.nil_ hs ⟨by decide, by decide, by decide, by decide⟩ (fun v hv => by cases hv) homeP_rng (fun v hv => by cases hv) (home_rng (by decide)) home_size (he.out.below hBa.out))
  clear hp hs hb0 hB
  go_wp2_with fail
  refine hr.out.mono ?_
  rintro e wb ⟨v, s3, rfl, hoc, hsv, hb0, _⟩
  rw [live_ox] at hoc
  obtain ⟨E1, e1, E2, e2, E3, e3, E4, e4, rfl, _, _, _, _⟩ := hoc
  have hB := hid (hBa.out.trans (hb0.mono hBa.out.size))
  have t3 := hid (Blk.new wb 29 #[.int .i64 70, .int .i64 3, .int .i64 0, .slice E1 0 e1, .slice E2 0 e2, .slice E3 1 e3, .slice E4 0 e4, .int .i64 96])
  have hb9 : Below wb.heap.size wb (wb.alloc (.cells #[.int .i64 70, .int .i64 3, .int .i64 0, .slice E1 0 e1, .slice E2 0 e2, .slice E3 1 e3, .slice E4 0 e4, .int .i64 96] 29)) := (Below.refl _ _).alloc (Nat.le_refl _) _
  have t1 := hid ((t1.out.below_all hb0).below_all hb9)
  have ro := hid (own_below (own_below ro.out hb0) hb9)
  have rr := hid (own_below (own_below rr.out hb0) hb9)
  have rs := hid ((rs.out.below hb0).below hb9)
  have hB := hid (hB.out.trans (hb9.mono hB.out.size))
  clear hsv hb0 hb9 hr hBa
  go_upto_region 3 with fail
  generalize wb.alloc (.cells #[.int .i64 70, .int .i64 3, .int .i64 0, .slice E1 0 e1, .slice E2 0 e2, .slice E3 1 e3, .slice E4 0 e4, .int .i64 96] 29) = wd at *
  generalize wb.heap.size = n3 at *
  obtain ⟨b1, o1, ho1, _, _, q1, _⟩ := (Rd.of_own' ro.out).val_at (k := 0) (by decide)
  simp only [Nat.zero_mul, Nat.add_zero] at q1
  have q1 : wd.cell? ⟨b1, o1 + 1, none⟩ = some (.int .i64 12) := q1
  subst ho1
  obtain ⟨Bl, dl, As, cs, hks, _, _⟩ := rs.out
  have y1 : wd.cell? ⟨s0, 1, none⟩ = some (.slice As 1 cs) := hks.cell 1
  have x0 : wd.cell? ⟨n1, 0, none⟩ = some (.int .i64 0) := t1.out.cell 0
  have x3 : wd.cell? ⟨n1, 3, none⟩ = some (.slice (some ⟨b1, o1, none⟩) 1 c1) := t1.out.cell 3
  have x5 : wd.cell? ⟨n1, 5, none⟩ = some (.slice A3 1 c3) := t1.out.cell 5
  have x6 : wd.cell? ⟨n1, 6, none⟩ = some (.slice A4 0 c4) := t1.out.cell 6
  have x7 : wd.cell? ⟨n1, 7, none⟩ = some (.int .i64 94) := t1.out.cell 7
  clear hks ro rs t1
  have hfs := hid (fsameI_any (w := wd.alloc (.cells #[.string ⟨#[97]⟩] 9)) (c1 := c3) (c2 := c4) (d1 := 1) (d2 := 0) (A2 := A4) (B2 := none) (l1 := [⟨#[97]⟩]) (l2 := []) (m1 := [⟨#[97]⟩]) (m2 := []) (S2 := fun _ => True) (S4 := fun _ => True) ((Rd.of_own' rr.out).alloc _) Rd.nil_ (Rd.new wd _ 1 1 #[.string ⟨#[97]⟩] _ rfl rfl) Rd.nil_ (by decide) (by decide))
  have hb9 := hid ((Below.refl wd.heap.size wd).alloc (Nat.le_refl _) (.cells #[.string ⟨#[97]⟩] 9))
  go_wp2_with fail
  refine (numI_any _ _).mono ?_
  rintro e wq ⟨rfl, hwq⟩
  obtain rfl := hwq.symm
  go_wp2_with fail
  refine hfs.out.mono ?_
  rintro e wx ⟨rfl, hb0⟩
  have hB := hid (hB.out.trans ((hb9.out.trans (hb0.mono hb9.out.size)).mono hB.out.size))
  have t3 := hid ((t3.out.below_all hb9.out).below_all hb0)
  clear hb0 hb9 hfs x0 x3 x5 x6 x7 y1 q1
  have x0 : wx.cell? ⟨n3, 0, none⟩ = some (.int .i64 70) := t3.out.cell 0
  have x1 : wx.cell? ⟨n3, 1, none⟩ = some (.int .i64 3) := t3.out.cell 1
  go_wp2_with fail
  refine (numI_any _ _).mono ?_
  rintro e wq ⟨rfl, hwq⟩
  obtain rfl := hwq.symm
  go_wp2_with fail
  go_ret
  exact ⟨rfl, hB.out⟩
end Go.Proofs.YtdmogoaaecdbaaaGreatDoor

namespace Go.Proofs.YtdmogoaaecdbaaaGreatDoor
open Go.RowKit
set_option linter.unusedVariables false
set_option linter.unusedSimpArgs false

end Go.Proofs.YtdmogoaaecdbaaaGreatDoor


/- InterpReads: the walk. -/
import Derived.Test.YtdmogoaaecdbaaaGreatDoorZJb
import Derived.Test.YtdmogoaaecdbaaaGreatDoorZGetS
namespace Go.Proofs.YtdmogoaaecdbaaaGreatDoor
open Go.RowKit
set_option linter.unusedVariables false
set_option linter.unusedSimpArgs false

def rkv (src : List Kv) (ks : List ByteArray) : List Kv := ks.map fun k => (k, rawV src k)
theorem rkv_find {src : List Kv} {k : ByteArray} {other : List Kv} : ∀ {ks : List ByteArray}, k ∈ ks → (rkv src ks ++ other).find? (fun x => decide (x.1 = k)) = some (k, rawV src k)
  | [], h => by cases h
  | j :: ks, h => by
    show List.find? _ ((j, rawV src j) :: (rkv src ks ++ other)) = _
    by_cases e : j = k
    · subst e
      rw [List.find?_cons_of_pos (by simp)]
    · rw [List.find?_cons_of_neg (by simpa using e)]
      exact rkv_find ((List.mem_cons.1 h).resolve_left fun e2 => e e2.symm)
theorem rkv_src {src other : List Kv} {ks : List ByteArray} {k : ByteArray} (h : k ∈ ks) : srcV (rkv src ks ++ other) k = srcV src k := by
  rw [srcV_raw src k]
  unfold srcV
  rw [rkv_find h]
theorem reads_law {p : Pr} {args : List Vl} {src other : List Kv} {f : Int} : runO p args (rkv src (runO p args src true f).rd ++ other) true f = runO p args src true f := by
  by_cases hc : p.check.1 ≠ 0
  · unfold runO
    rw [if_pos hc, if_pos hc]
  by_cases hn : (okArgs p args true f && args.all okA) = false
  · unfold runO
    rw [if_neg hc, if_neg hc, if_pos hn, if_pos hn]
  have e : ∀ s, runO p args s true f = endO (endP p args s (mc0 f.toNat)) := fun s => by
    unfold runO
    rw [if_neg hc, if_neg hn]
  rw [e, e]
  congr 1
  refine run_src _ _ fun k hk => rkv_src ?_
  show k ∈ srtK _
  rw [srtK_mem]
  exact hk
theorem run_rd {p : Pr} {args : List Vl} {src : List Kv} {f : Int} (hcs : ∀ v ∈ p.cs, v.rng) (har : ∀ v ∈ args, v.rng) (hsr : ∀ x ∈ src, x.2.rng) : (runO p args src true f).rd.length ≤ 64 := by
  by_cases hc : p.check.1 ≠ 0
  · unfold runO
    rw [if_pos hc]
    exact Nat.zero_le _
  by_cases hn : (okArgs p args true f && args.all okA) = false
  · unfold runO
    rw [if_neg hc, if_pos hn]
    exact Nat.zero_le _
  have hyes : okArgs p args true f = true ∧ args.all okA = true := by
    rw [Bool.not_eq_false, Bool.and_eq_true] at hn; exact hn
  have hk := hyes.1
  unfold okArgs at hk
  simp only [Bool.and_eq_true, decide_eq_true_eq] at hk
  have hvok : ∀ v ∈ args, VOk v := fun v hm => by
    have := List.all_eq_true.1 hyes.2 v hm
    unfold okA at this
    simp at this
    exact ⟨this.1, har v hm⟩
  obtain ⟨d, G⟩ := good_of (by simpa using hc) hcs (by rw [← hk.1.1.1]) hvok hsr
  have hfin := (runP_ok G ((mc0 f.toNat).fuel + 1) (mc0_ok G (fuel := f.toNat) (by omega))).1
  unfold runO
  rw [if_neg hc, if_neg hn]
  show (srtK _).length ≤ 64
  have h1 := nodup_leB (m := uniq (endP p args src (mc0 f.toNat)).2.reads) (srtK_nodup (endP p args src (mc0 f.toNat)).2.reads) fun k hk => uniq_mem.2 (srtK_mem.1 hk)
  have h2 : cntRW (endP p args src (mc0 f.toNat)).2.reads (endP p args src (mc0 f.toNat)).2.writes ≤ 64 := hfin.rw_
  unfold cntRW at h2
  omega
theorem raw_mem {src : List Kv} {k : ByteArray} : rawV src k = vl0 ∨ ∃ x ∈ src, rawV src k = x.2 := by
  unfold rawV
  cases hf : src.find? fun x => decide (x.1 = k) with
  | none => exact .inl rfl
  | some x => exact .inr ⟨x, List.mem_of_find?_eq_some hf, rfl⟩
theorem rkv_all {src other : List Kv} {ks : List ByteArray} {P : Vl → Prop} (h0 : P vl0) (h1 : ∀ x ∈ src, P x.2) (h2 : ∀ x ∈ other, P x.2) : ∀ x ∈ rkv src ks ++ other, P x.2 := fun x hx => by
  rcases List.mem_append.1 hx with hx | hx
  · obtain ⟨k, _, rfl⟩ := List.mem_map.1 hx
    show P (rawV src k)
    rcases raw_mem (src := src) (k := k) with e | ⟨y, hy, e⟩
    · rw [e]; exact h0
    · rw [e]; exact h1 y hy
  · exact h2 x hx
theorem srcCells_app (l m : List Kv) : srcCells (l ++ m) = srcCells l ++ srcCells m := by unfold srcCells; rw [List.flatMap_append]
section
variable {w : World} {Ac Ai Aa Al Ao : Option Addr} {cc ci ca cl co : Nat} {p : Pr} {args : List Vl} {src other : List Kv} {f : Int}
set_option maxRecDepth 100000 in
set_option maxHeartbeats 4000000 in
theorem readsI_any (hj0 : JbArg w Ac Ai Aa Al p args src) (hro0 : Rd (fun b => b < w.heap.size) w 4 Ao other.length (srcCells other)) (hoth0 : ∀ x ∈ other, kvOk x) (he0 : Env w) : Calls Tryz.prog 6 #[.agg #[.int .i64 p.args, .slice Ac p.cs.length cc, .slice Ai p.code.length ci, .slice Aa args.length ca, .slice Al src.length cl, .int .i64 f], .slice Ao other.length co] w fun e w' => e = .returned (.bool true) ∧ Below w.heap.size w w' := by
  have he := hid he0
  have hj := hid hj0
  have hroW := hid hro0
  have hoth := hid hoth0
  have hB0 : Below w.heap.size w (w.alloc (.cells #[.int .i64 p.args, .slice Ac p.cs.length cc, .slice Ai p.code.length ci, .slice Aa args.length ca, .slice Al src.length cl, .int .i64 f] 36)) := (Below.refl _ _).alloc (Nat.le_refl _) _
  have kj := hid (Blk.new w 36 #[.int .i64 p.args, .slice Ac p.cs.length cc, .slice Ai p.code.length ci, .slice Aa args.length ca, .slice Al src.length cl, .int .i64 f])
  have hB := hid hB0
  have hlg := hid (fun W => longI_any (w := W) (p := p) (args := args) (src := src) (f := f) (Ac := Ac) (cc := cc) (Ai := Ai) (ci := ci) (Aa := Aa) (ca := ca) (Al := Al) (cl := cl) ⟨hj0.p.n.2, hj0.p.n.1, hj0.n.1, hj0.n.2⟩)
  obtain ⟨il, hil, hil0, hil1, hil2⟩ := info_parts info_itmI
  clear hB0 hj0 he0 hro0 hoth0
  go_enter Tryz.func6, Tryz.ntmps6
  go_upto_region 1 with fail
  generalize w.alloc (.cells #[.int .i64 p.args, .slice Ac p.cs.length cc, .slice Ai p.code.length ci, .slice Aa args.length ca, .slice Al src.length cl, .int .i64 f] 36) = w1 at *
  have x0 : w1.cell? ⟨w.heap.size, 0, none⟩ = some (.int .i64 p.args) := kj.out.cell 0
  have x1 : w1.cell? ⟨w.heap.size, 1, none⟩ = some (.slice Ac p.cs.length cc) := kj.out.cell 1
  have x2 : w1.cell? ⟨w.heap.size, 2, none⟩ = some (.slice Ai p.code.length ci) := kj.out.cell 2
  have x3 : w1.cell? ⟨w.heap.size, 3, none⟩ = some (.slice Aa args.length ca) := kj.out.cell 3
  have x4 : w1.cell? ⟨w.heap.size, 4, none⟩ = some (.slice Al src.length cl) := kj.out.cell 4
  have x5 : w1.cell? ⟨w.heap.size, 5, none⟩ = some (.int .i64 f) := kj.out.cell 5
  go_wp2_with fail
  refine (hlg.out _).mono ?_
  rintro e w2 ⟨rfl, hb0⟩
  have hB := hid (hB.out.trans (hb0.mono hB.out.size))
  have kj := hid (kj.out.below_all hb0)
  clear hlg hb0 x0 x1 x2 x3 x4 x5
  cases hl0 : longJ p args src f with
  | true =>
    clear hl0
    go_wp2_with fail
    refine (liveI_any _ (he.out.below hB.out)).mono ?_
    rintro e wd ⟨rfl, hb0⟩
    have hB := hid (hB.out.trans (hb0.mono hB.out.size))
    clear hb0
    go_wp2_with fail
    go_ret
    exact ⟨rfl, hB.out⟩
  | false =>
  have hji := hid (hj.out.jbIn hl0)
  clear hl0 hj
  by_cases c1 : 300 < other.length
  · have d1 : decide ((300 : Int) < (other.length : Int)) = true := decide_eq_true (by omega)
    have d2 : decide (300 < other.length) = true := decide_eq_true c1
    clear c1
    go_wp2_with fail
    refine (liveI_any _ (he.out.below hB.out)).mono ?_
    rintro e wd ⟨rfl, hb0⟩
    have hB := hid (hB.out.trans (hb0.mono hB.out.size))
    clear hb0
    go_wp2_with fail
    go_ret
    exact ⟨rfl, hB.out⟩
  have d1 : decide ((300 : Int) < (other.length : Int)) = false := decide_eq_false (by omega)
  have d2 : decide (300 < other.length) = false := decide_eq_false c1
  have hno9 := hid (show other.length ≤ 300 by omega)
  clear c1
  have x0 : w2.cell? ⟨w.heap.size, 0, none⟩ = some (.int .i64 p.args) := kj.out.cell 0
  have x1 : w2.cell? ⟨w.heap.size, 1, none⟩ = some (.slice Ac p.cs.length cc) := kj.out.cell 1
  have x2 : w2.cell? ⟨w.heap.size, 2, none⟩ = some (.slice Ai p.code.length ci) := kj.out.cell 2
  have x3 : w2.cell? ⟨w.heap.size, 3, none⟩ = some (.slice Aa args.length ca) := kj.out.cell 3
  have x4 : w2.cell? ⟨w.heap.size, 4, none⟩ = some (.slice Al src.length cl) := kj.out.cell 4
  have x5 : w2.cell? ⟨w.heap.size, 5, none⟩ = some (.int .i64 f) := kj.out.cell 5
  have hr1 := hid (hji.out.run hB.out (he.out.below hB.out) f cc ci ca cl)
  go_wp2_with fail
  refine hr1.out.mono ?_
  rintro e w3 ⟨v, sb0, rfl, hoc, _, hb0, _⟩
  have hrd := hid (run_rd (p := p) (args := args) (src := src) (f := f) hji.out.cr hji.out.ar hji.out.sr)
  generalize hoo : runO p args src true f = o at *
  have hoo := hid hoo
  have hor0 := hoc.read
  obtain ⟨_, A1, ac1, A2, ac2, A3, ac3, A4, ac4, rfl, q1, q2, q3, q4⟩ := id hor0
  have hor := hid hor0
  have hb9 : Below w3.heap.size w3 (w3.alloc (.cells #[.int .i64 o.code, .int .i64 o.at_, .int .i64 o.ab, .slice A1 o.out.length ac1, .slice A2 o.ws.length ac2, .slice A3 o.rd.length ac3, .slice A4 o.wr.length ac4, .int .i64 o.left] 29)) := (Below.refl _ _).alloc (Nat.le_refl _) _
  have ko := hid (Blk.new w3 29 #[.int .i64 o.code, .int .i64 o.at_, .int .i64 o.ab, .slice A1 o.out.length ac1, .slice A2 o.ws.length ac2, .slice A3 o.rd.length ac3, .slice A4 o.wr.length ac4, .int .i64 o.left])
  have hor := hid (hor.out.below hb9)
  have r3 := hid (q3.below_all hb9)
  have kj := hid ((kj.out.below_all hb0).below_all hb9)
  have hB4 := hid ((hB.out.trans (hb0.mono hB.out.size)).trans (hb9.mono (hB.out.trans (hb0.mono hB.out.size)).size))
  clear hb0 hb9 x0 x1 x2 x3 x4 x5 q1 q2 q3 q4 hoc hor0 hr1 hB
  go_upto_region 4 with fail
  generalize w3.alloc (.cells #[.int .i64 o.code, .int .i64 o.at_, .int .i64 o.ab, .slice A1 o.out.length ac1, .slice A2 o.ws.length ac2, .slice A3 o.rd.length ac3, .slice A4 o.wr.length ac4, .int .i64 o.left] 29) = w4 at *
  generalize w3.heap.size = no at *
  have x4 : w4.cell? ⟨w.heap.size, 4, none⟩ = some (.slice Al src.length cl) := kj.out.cell 4
  have r3 := hid r3.out.all
  have hnol := hid ko.out.lt
  have hjlt := hid kj.out.lt
  have hsr := hid ((hji.out.hs.below_all hB4.out).all)
  have hro := hid (hroW.out.below_all hB4.out)
  have hwl := hid hB4.out.size
  have hns := hid (show src.length ≤ 2000 from hji.out.hn.2.2.2)
  go_upto_region 5 with fail
  have kb0 := hid (Blk.new w4 50 #[.slice Al src.length cl, .slice none 0 0])
  have hB5 := hid ((Below.refl w4.heap.size w4).alloc (Nat.le_refl _) (.cells #[.slice Al src.length cl, .slice none 0 0] 50))
  clear x4
  generalize hw5 : w4.alloc (.cells #[.slice Al src.length cl, .slice none 0 0] 50) = w5 at *
  clear hw5
  obtain ⟨sb, hsb⟩ : ∃ sb, sb = w4.heap.size := ⟨_, rfl⟩
  rw [← hsb] at hB5 kb0 r3 hnol hjlt hsr hwl
  have horB : Hid (∀ W, Below sb w4 W → OcR W (.agg #[.int .i64 o.code, .int .i64 o.at_, .int .i64 o.ab, .slice A1 o.out.length ac1, .slice A2 o.ws.length ac2, .slice A3 o.rd.length ac3, .slice A4 o.wr.length ac4, .int .i64 o.left]) o) := hid fun W hW => hor.out.below (by rw [← hsb]; exact hW)
  rw [← hsb]
  clear hsb
  go_wp2_with fail
  go_loopw [8, 9] (fun u v wr => ∃ (i : Nat) (B : Option Addr) (d : Nat) (A : Option Addr) (c : Nat), u = .slice B i d ∧ v = .int .i64 i ∧ i ≤ o.rd.length ∧ Blk wr sb 50 #[.slice Al src.length cl, .slice A i c] ∧ wr.ownsRow sb 9 1 (.slice A i c) i (strs (o.rd.take i)) ∧ wr.ownsRow sb 63 4 (.slice B i d) i (srcCells (rkv src (o.rd.take i))) ∧ Below sb w4 wr) (fun _ v _ => o.rd.length - (intOf v).toNat)
  case atStart => exact ⟨0, none, 0, none, 0, rfl, rfl, Nat.zero_le _, kb0.out, World.ownsRow_nil _ _ _ _, World.ownsRow_nil _ _ _ _, hB5.out⟩
  case round =>
    obtain ⟨i, B, d, A, c, rfl, rfl, hi, kb8, oa8, ob8, hBr0⟩ := hrel
    have kb := hid kb8
    have oa := hid oa8
    have ob := hid ob8
    have hBr := hid hBr0
    have hsbl := hid (show sb < wr.heap.size from kb8.lt)
    have hi9 := hid (show i ≤ 64 by have := hrd.out; omega)
    have y5 : wr.cell? ⟨no, 5, none⟩ = some (.slice A3 o.rd.length ac3) := (ko.out.below hBr0 hnol.out).cell 5
    clear kb8 oa8 ob8 hBr0
    by_cases hlt : i < o.rd.length
    · have i1 : (i : Int) < (o.rd.length : Int) := by omega
      have i2 : IntKind.i64.wrap ((i : Int) + 1) = (i : Int) + 1 := by rw [IntKind.wrap_i64]; have := hi9.out; omega
      obtain ⟨b3, o3, hA3, _, _, hc3⟩ := (r3.out.below hBr.out fun b hb => hb).at_ hlt
      obtain ⟨k, hk0⟩ : ∃ k, o.rd[i]? = some k := ⟨_, List.getElem?_eq_getElem hlt⟩
      have hkE := hid hk0
      have hltH := hid hlt
      have hX := hid (fun W (hW : Below sb wr W) => (show W.cell? ⟨no, 5, none⟩ = some (.slice (some ⟨b3, o3, none⟩) o.rd.length ac3) ∧ W.cell? ⟨b3, o3 + i, none⟩ = some (.string k) from by
        have hWW := hBr.out.trans hW
        obtain ⟨b3', o3', hA3', _, _, hc3'⟩ := (r3.out.below hWW fun b hb => hb).at_ hlt
        rw [hA3] at hA3'
        injection hA3' with hA3'
        injection hA3' with e1 e2
        subst e1 e2
        have y := (ko.out.below hWW hnol.out).cell 5
        have y : W.cell? ⟨no, 5, none⟩ = some (.slice A3 o.rd.length ac3) := y
        rw [hA3] at y
        exact ⟨y, hc3' i (.string k) (by simp [strs, hk0])⟩))
      rw [hA3] at y5
      clear hc3 hk0 hlt hi hA3
      go_upto_region 9 with fail
      clear y5
      refine wp_region_held_drew (S := fun w'' => Below sb wr w'') (by kernel_rfl) ?_ (fun hHeld => ?_)
      · exact ((Below.refl wr.heap.size wr).drew).mono (by have := hsbl.out; omega)
      have hbd : Hid (Below wr.heap.size wr wr.drew) := hid ((Below.refl _ _).drew)
      have hwds : Hid (wr.drew.heap.size = wr.heap.size) := hid rfl
      generalize World.drew wr = wd at *
      have kb := hid (kb.out.below_all hbd.out)
      have oa := hid (own_below oa.out hbd.out)
      have ob := hid (own_below ob.out hbd.out)
      have hs9 := hid (hsr.out.below (hBr.out.trans (hbd.out.mono (by have := hsbl.out; omega))) fun b hb => hb)
      refine wpAnyH_take (i := 0) (v := ?v1) rfl (by kernel_rfl) (by kernel_rfl) (by kernel_rfl) (fun _ _ _ h => h) (Or.inl ⟨by rfl, ?hy1⟩) (by assumption) ?rest1
      case hy1 => intro w' hSw; obtain ⟨y5, yk⟩ := hX.out w' hSw; (try dsimp only at hSw); go_simp; try with_reducible rfl
      (try simp only [Act.put, List.setIfInBounds_toArray, List.set_cons_zero, List.set_cons_succ, List.getElem_toArray, List.getElem_cons_zero, List.getElem_cons_succ])
      refine wpAnyH_take (i := 1) (v := ?v2) rfl (by kernel_rfl) (by kernel_rfl) (by kernel_rfl) (fun _ _ _ h => h) (Or.inl ⟨by rfl, ?hy2⟩) (by assumption) ?rest2
      case hy2 => intro w' hSw; obtain ⟨y5, yk⟩ := hX.out w' hSw; (try dsimp only at hSw); go_simp; try with_reducible rfl
      (try simp only [Act.put, List.setIfInBounds_toArray, List.set_cons_zero, List.set_cons_succ, List.getElem_toArray, List.getElem_cons_zero, List.getElem_cons_succ])
      refine wpAnyH_take (i := 2) (v := ?v3) rfl (by kernel_rfl) (by kernel_rfl) (by kernel_rfl) (fun _ _ _ h => h) (Or.inl ⟨by rfl, ?hy3⟩) (by assumption) ?rest3
      case hy3 => intro w' hSw; obtain ⟨y5, yk⟩ := hX.out w' hSw; (try dsimp only at hSw); go_simp; try with_reducible rfl
      (try simp only [Act.put, List.setIfInBounds_toArray, List.set_cons_zero, List.set_cons_succ, List.getElem_toArray, List.getElem_cons_zero, List.getElem_cons_succ])
      refine wpAnyH_take (i := 3) (v := ?v4) rfl (by kernel_rfl) (by kernel_rfl) (by kernel_rfl) (fun _ _ _ h => h) (Or.inl ⟨by rfl, ?hy4⟩) (by assumption) ?rest4
      case hy4 => intro w' hSw; obtain ⟨y5, yk⟩ := hX.out w' hSw; (try dsimp only at hSw); go_simp; try with_reducible rfl
      (try simp only [Act.put, List.setIfInBounds_toArray, List.set_cons_zero, List.set_cons_succ, List.getElem_toArray, List.getElem_cons_zero, List.getElem_cons_succ])
      refine wpAnyH_take (i := 4) (v := ?v5) rfl (by kernel_rfl) (by kernel_rfl) (by kernel_rfl) (fun _ _ _ h => h) (Or.inl ⟨by rfl, ?hy5⟩) (by assumption) ?rest5
      case hy5 => intro w' hSw; obtain ⟨y5, yk⟩ := hX.out w' hSw; (try dsimp only at hSw); go_simp; try with_reducible rfl
      (try simp only [Act.put, List.setIfInBounds_toArray, List.set_cons_zero, List.set_cons_succ, List.getElem_toArray, List.getElem_cons_zero, List.getElem_cons_succ])
      refine wpAnyH_take (i := 5) (v := ?v6) rfl (by kernel_rfl) (by kernel_rfl) (by kernel_rfl) (fun _ _ _ h => h) (Or.inl ⟨by rfl, ?hy6⟩) (by assumption) ?rest6
      case hy6 => intro w' hSw; obtain ⟨y5, yk⟩ := hX.out w' hSw; (try dsimp only at hSw); go_simp; try with_reducible rfl
      (try simp only [Act.put, List.setIfInBounds_toArray, List.set_cons_zero, List.set_cons_succ, List.getElem_toArray, List.getElem_cons_zero, List.getElem_cons_succ])
      refine wpAnyH_take (i := 6) (v := ?v7) rfl (by kernel_rfl) (by kernel_rfl) (by kernel_rfl) (fun _ _ _ h => h) (Or.inl ⟨by rfl, ?hy7⟩) (by assumption) ?rest7
      case hy7 => intro w' hSw; obtain ⟨y5, yk⟩ := hX.out w' hSw; (try dsimp only at hSw); go_simp; try with_reducible rfl
      (try simp only [Act.put, List.setIfInBounds_toArray, List.set_cons_zero, List.set_cons_succ, List.getElem_toArray, List.getElem_cons_zero, List.getElem_cons_succ])
      refine wpAnyH_take (i := 7) (v := ?v8) rfl (by kernel_rfl) (by kernel_rfl) (by kernel_rfl) (fun _ _ _ h => h) (Or.inl ⟨by rfl, ?hy8⟩) (by assumption) ?rest8
      case hy8 => intro w' hSw; obtain ⟨y5, yk⟩ := hX.out w' hSw; (try dsimp only at hSw); go_simp; try with_reducible rfl
      (try simp only [Act.put, List.setIfInBounds_toArray, List.set_cons_zero, List.set_cons_succ, List.getElem_toArray, List.getElem_cons_zero, List.getElem_cons_succ])
      refine wpAnyH_take (i := 8) (v := ?v9) rfl (by kernel_rfl) (by kernel_rfl) (by kernel_rfl) (fun _ _ _ h => h) (Or.inl ⟨by rfl, ?hy9⟩) (by assumption) ?rest9
      case hy9 => intro w' hSw; obtain ⟨y5, yk⟩ := hX.out w' hSw; (try dsimp only at hSw); go_simp; try with_reducible rfl
      (try simp only [Act.put, List.setIfInBounds_toArray, List.set_cons_zero, List.set_cons_succ, List.getElem_toArray, List.getElem_cons_zero, List.getElem_cons_succ])
      refine wpAnyH_take (i := 9) (v := ?v10) rfl (by kernel_rfl) (by kernel_rfl) (by kernel_rfl) (fun _ _ _ h => h) (Or.inl ⟨by rfl, ?hy10⟩) (by assumption) ?rest10
      case hy10 => intro w' hSw; obtain ⟨y5, yk⟩ := hX.out w' hSw; (try dsimp only at hSw); go_simp; try with_reducible rfl
      (try simp only [Act.put, List.setIfInBounds_toArray, List.set_cons_zero, List.set_cons_succ, List.getElem_toArray, List.getElem_cons_zero, List.getElem_cons_succ])
      refine wpAnyH_take (i := 10) (v := ?v11) rfl (by kernel_rfl) (by kernel_rfl) (by kernel_rfl) (fun _ _ _ h => h) (Or.inl ⟨by rfl, ?hy11⟩) (by assumption) ?rest11
      case hy11 => intro w' hSw; obtain ⟨y5, yk⟩ := hX.out w' hSw; (try dsimp only at hSw); go_simp; try with_reducible rfl
      (try simp only [Act.put, List.setIfInBounds_toArray, List.set_cons_zero, List.set_cons_succ, List.getElem_toArray, List.getElem_cons_zero, List.getElem_cons_succ])
      refine wpAnyH_take (i := 11) (v := ?v12) rfl (by kernel_rfl) (by kernel_rfl) (by kernel_rfl) (fun _ _ _ h => h) (Or.inl ⟨by rfl, ?hy12⟩) (by assumption) ?rest12
      case hy12 => intro w' hSw; obtain ⟨y5, yk⟩ := hX.out w' hSw; (try dsimp only at hSw); go_simp; try with_reducible rfl
      (try simp only [Act.put, List.setIfInBounds_toArray, List.set_cons_zero, List.set_cons_succ, List.getElem_toArray, List.getElem_cons_zero, List.getElem_cons_succ])
      refine wpAnyH_take (i := 12) (v := ?v13) rfl (by kernel_rfl) (by kernel_rfl) (by kernel_rfl) (fun _ _ _ h => h) (Or.inl ⟨by rfl, ?hy13⟩) (by assumption) ?rest13
      case hy13 => intro w' hSw; obtain ⟨y5, yk⟩ := hX.out w' hSw; (try dsimp only at hSw); go_simp; try with_reducible rfl
      (try simp only [Act.put, List.setIfInBounds_toArray, List.set_cons_zero, List.set_cons_succ, List.getElem_toArray, List.getElem_cons_zero, List.getElem_cons_succ])
      refine wpAnyH_take (i := 13) (v := ?v14) rfl (by kernel_rfl) (by kernel_rfl) (by kernel_rfl) (fun _ _ _ h => h) (Or.inl ⟨by rfl, ?hy14⟩) (by assumption) ?rest14
      case hy14 => intro w' hSw; obtain ⟨y5, yk⟩ := hX.out w' hSw; (try dsimp only at hSw); go_simp; try with_reducible rfl
      (try simp only [Act.put, List.setIfInBounds_toArray, List.set_cons_zero, List.set_cons_succ, List.getElem_toArray, List.getElem_cons_zero, List.getElem_cons_succ])
      refine wpAnyH_ready (rs := [14]) (by kernel_rfl) (by simp) ?_
      refine AllReadyH.cons rfl (fun K hK => ?_) AllReadyH.nil
      go_simp
      have hti := hid (show (o.rd.take i).length = i by rw [List.length_take]; have := hltH.out; omega)
      have hsgt := sget_any (src := src) (ks := o.rd.take i) (A := A) (c := c) (w := wd) k (by rw [hti.out]; exact kb.out) (by rw [hti.out]; exact oa.out) hs9.out (by rw [hti.out]; have := hi9.out; omega) (by have := hns.out; omega)
      rw [hti.out] at hsgt
      refine hsgt.mono ?_
      clear hsgt
      rintro e wg ⟨rfl, A5, c5, kb50, oa50, hu0⟩
      have kb5 := hid kb50
      have oa5 := hid oa50
      have hug : Hid (Below sb wd wg) := hid (hu0.below (Nat.le_of_lt kb.out.lt) fun q hq e => by
        rcases e with e | e
        · omega
        · have := (oa.out.lt q e).1; omega)
      have ob5 := hid (own_keepI ob.out fun q hq => hu0.block q (ob.out.lt q hq).2 fun e => by
        obtain ⟨cur, hc⟩ := own_blk0 ob.out hq
        rcases e with e | e
        · exact absurd (blk_ty (e ▸ hc) kb.out) (by decide)
        · obtain ⟨cur', hc'⟩ := own_blk0 oa.out e
          exact absurd (blk_ty hc hc') (by decide))
      have hBg := hid ((hbd.out.mono (by have := hsbl.out; omega)).trans hug.out)
      clear kb50 oa50 hu0
      refine hK.out _ _ ?_ (fun hHeld => ?_)
      · exact hBg.out
      clear hK K
      (try simp only [Act.put, List.setIfInBounds_toArray, List.set_cons_zero, List.set_cons_succ, List.getElem_toArray, List.getElem_cons_zero, List.getElem_cons_succ])
      refine wpAnyH_take (i := 15) (v := ?v15) rfl (by kernel_rfl) (by kernel_rfl) (by kernel_rfl) (fun _ _ _ h => h) (Or.inl ⟨by rfl, ?hy15⟩) (by assumption) ?rest15
      case hy15 => intro w' hSw; obtain ⟨y5, yk⟩ := hX.out w' hSw; (try dsimp only at hSw); go_simp; try with_reducible rfl
      (try simp only [Act.put, List.setIfInBounds_toArray, List.set_cons_zero, List.set_cons_succ, List.getElem_toArray, List.getElem_cons_zero, List.getElem_cons_succ])
      have hsg := hid (show sb < wg.heap.size from kb5.out.lt)
      refine wpAnyH_ready (rs := [16]) (by kernel_rfl) (by simp) ?_
      refine AllReadyH.cons rfl (fun K hK => ?_) AllReadyH.nil
      go_simp
      refine hK.out _ _ ?_ (fun hHeld => ?_)
      · exact hBg.out.alloc (Nat.le_of_lt hsg.out) _
      clear hK K
      (try simp only [Act.put, List.setIfInBounds_toArray, List.set_cons_zero, List.set_cons_succ, List.getElem_toArray, List.getElem_cons_zero, List.getElem_cons_succ])
      refine wpAnyH_ready (rs := [17]) (by kernel_rfl) (by simp) ?_
      refine AllReadyH.cons rfl (fun K hK => ?_) AllReadyH.nil
      refine step_append_rd _ rfl (.tmp 38) (.tmp 54) 34 rfl sb 63 il _ 4 48 Tryz.underlying34 hil hil0 hil1 hil2 rfl (by omega) (.slice B i d) i (srcCells (rkv src (o.rd.take i))) rfl (ob5.out.alloc _) (fun b => b = wg.heap.size) (some ⟨wg.heap.size, 0, none⟩) 1 1 #[.string k, .int .i64 (rawV src k).k, .int .i64 (rawV src k).n, .string (rawV src k).s].toList rfl (Rd.new wg 63 4 1 #[.string k, .int .i64 (rawV src k).k, .int .i64 (rawV src k).n, .string (rawV src k).s] wg.heap.size rfl rfl) (by intro v hv; simp at hv; rcases hv with rfl | rfl | rfl | rfl <;> rfl) (by have := hi9.out; simp only [maxLen]; omega) (by have := hi9.out; omega) (by have := hsg.out; simp; omega) (i + 1) rfl (srcCells (rkv src (o.rd.take i)) ++ #[.string k, .int .i64 (rawV src k).k, .int .i64 (rawV src k).n, .string (rawV src k).s].toList) rfl ?_
      intro B5 d5 w9 hown9 hg9 hat9
      have hu9 : Hid (Upd (fun q => (Value.slice B i d).ownBlock = some q) wg w9) := hid (((Upd.refl _ wg).alloc _).grown hg9 fun q hq _ => hq)
      have kb9 := hid (blk_updO kb5.out hu9.out ob5.out (by decide))
      have oa9 := hid (own_updO oa5.out hu9.out ob5.out (by decide))
      have ob9 := hid hown9
      have hB9 := hid (hBg.out.trans (hu9.out.below (Nat.le_of_lt hsg.out) fun q hq e => by have := (ob5.out.lt q e).1; omega))
      clear hg9 hat9 hown9
      refine hK.out _ _ ?_ (fun hHeld => ?_)
      · exact hB9.out
      clear hK K
      (try simp only [Act.put, List.setIfInBounds_toArray, List.set_cons_zero, List.set_cons_succ, List.getElem_toArray, List.getElem_cons_zero, List.getElem_cons_succ])
      refine wpAnyH_take (i := 18) (v := ?v16) rfl (by kernel_rfl) (by kernel_rfl) (by kernel_rfl) (fun _ _ _ h => h) (Or.inl ⟨by rfl, ?hy16⟩) (by assumption) ?rest16
      case hy16 => intro w' hSw; obtain ⟨y5, yk⟩ := hX.out w' hSw; (try dsimp only at hSw); go_simp; try with_reducible rfl
      (try simp only [Act.put, List.setIfInBounds_toArray, List.set_cons_zero, List.set_cons_succ, List.getElem_toArray, List.getElem_cons_zero, List.getElem_cons_succ])
      refine wpAnyH_done (by kernel_rfl) ?_ _
      go_wp2_with fail
      go_roundw
      case rel =>
        refine ⟨i + 1, B5, d5, A5, c5, rfl, rfl, by have := hltH.out; omega, kb9.out, ?_, ?_, hBr.out.trans hB9.out⟩
        · rw [take_snocI hkE.out]; exact oa9.out
        · rw [take_snocI hkE.out]
          unfold rkv
          rw [List.map_append]
          have e : srcCells ((o.rd.take i).map (fun k => (k, rawV src k)) ++ [k].map (fun k => (k, rawV src k))) = srcCells (rkv src (o.rd.take i)) ++ [.string k, .int .i64 (rawV src k).k, .int .i64 (rawV src k).n, .string (rawV src k).s] := by rw [srcCells_app]; rfl
          rw [e]
          exact ob9.out
      case measure => simp [intOf]; have := hltH.out; omega
    · have hie := hid (show i = o.rd.length by omega)
      have i1 : ¬ ((i : Int) < (o.rd.length : Int)) := by omega
      clear hlt hi
      go_upto_region 10 with fail
      clear y5 i1
      rename World => w6
      have kj6 := hid (kj.out.below hBr.out hjlt.out)
      have x0 : w6.cell? ⟨w.heap.size, 0, none⟩ = some (.int .i64 p.args) := kj6.out.cell 0
      have x1 : w6.cell? ⟨w.heap.size, 1, none⟩ = some (.slice Ac p.cs.length cc) := kj6.out.cell 1
      have x2 : w6.cell? ⟨w.heap.size, 2, none⟩ = some (.slice Ai p.code.length ci) := kj6.out.cell 2
      have x3 : w6.cell? ⟨w.heap.size, 3, none⟩ = some (.slice Aa args.length ca) := kj6.out.cell 3
      have x4 : w6.cell? ⟨w.heap.size, 4, none⟩ = some (.slice Al src.length cl) := kj6.out.cell 4
      have x5 : w6.cell? ⟨w.heap.size, 5, none⟩ = some (.int .i64 f) := kj6.out.cell 5
      go_upto_region 11 with fail
      have hb9 : Below w6.heap.size w6 (w6.alloc (.cells #[.int .i64 p.args, .slice Ac p.cs.length cc, .slice Ai p.code.length ci, .slice Aa args.length ca, .slice Al src.length cl, .int .i64 f] 36)) := (Below.refl _ _).alloc (Nat.le_refl _) _
      have kk := hid (Blk.new w6 36 #[.int .i64 p.args, .slice Ac p.cs.length cc, .slice Ai p.code.length ci, .slice Aa args.length ca, .slice Al src.length cl, .int .i64 f])
      have ob7 := hid (own_below ob.out hb9)
      have hB7 : Hid (Below sb w4 (w6.alloc (.cells #[.int .i64 p.args, .slice Ac p.cs.length cc, .slice Ai p.code.length ci, .slice Aa args.length ca, .slice Al src.length cl, .int .i64 f] 36))) := hid (hBr.out.alloc (Nat.le_of_lt hsbl.out) _)
      have hn6 := hid (show sb < w6.heap.size from hsbl.out)
      clear hb9 x0 x1 x2 x3 x4 x5 kj6 kb oa ob hBr hsbl
      generalize (w6.alloc (.cells #[.int .i64 p.args, .slice Ac p.cs.length cc, .slice Ai p.code.length ci, .slice Aa args.length ca, .slice Al src.length cl, .int .i64 f] 36)) = w7 at *
      generalize w6.heap.size = nk at *
      have hro7 := hid (hro.out.below (hB7.out.mono (Nat.le_refl _)) fun b hb => Nat.lt_of_lt_of_le hb hwl.out)
      go_upto_region 12 with (
        at_builtin
        refine wpList_append_rd _ rfl (.tmp 57) (.tmp 58) 34 rfl sb 63 il _ 4 48 Tryz.underlying34 hil hil0 hil1 hil2 rfl (by omega) (.slice B i d) i (srcCells (rkv src (o.rd.take i))) rfl ob7.out (fun b => b < w.heap.size) Ao other.length co (srcCells other) rfl hro7.out (srcCells_one other) (by have := hi9.out; have := hno9.out; simp only [maxLen]; omega) (by have := hi9.out; have := hno9.out; omega) (by have := hn6.out; have := kk.out.lt; omega) ?_
        intro v9 w8 hown9 hg9 hat9
        obtain ⟨B9, d9, rfl, _, _⟩ := own_form hown9
        have hu9 : Hid (Upd (fun q => (Value.slice B i d).ownBlock = some q) w7 w8) := hid ((Upd.refl _ w7).grown hg9 fun q hq _ => hq)
        have kk8 := hid (blk_updO kk.out hu9.out ob7.out (by decide))
        have y4 : w8.cell? ⟨nk, 4, none⟩ = some (.slice Al src.length cl) := kk8.out.cell 4
        have fz4 := kk8.out.frozen 4
        have ob9 := hid hown9
        clear hg9 hat9 hown9)
      have u9 : Upd (fun q => q = nk) w8 (w8.setCell ⟨nk, 4, none⟩ (.slice B9 (i + other.length) d9)) := (Upd.refl (fun q => q = nk) w8).setCell (p := ⟨nk, 4, none⟩) (fun _ => rfl) _
      have ob10 := hid (own_updG ob9.out u9 kk8.out (by decide))
      have kk10 : Hid (Blk (w8.setCell ⟨nk, 4, none⟩ (.slice B9 (i + other.length) d9)) nk 36 #[.int .i64 p.args, .slice Ac p.cs.length cc, .slice Ai p.code.length ci, .slice Aa args.length ca, .slice B9 (i + other.length) d9, .int .i64 f]) := hid (kk8.out.set_ 4 _)
      have hB10 : Hid (Below sb w4 (w8.setCell ⟨nk, 4, none⟩ (.slice B9 (i + other.length) d9))) := hid ((hB7.out.trans (hu9.out.below (by have := hn6.out; have := kk.out.lt; omega) fun q hq e => by have := (ob7.out.lt q e).1; omega)).trans (u9.below (by have := hn6.out; have := kk8.out.lt; omega) fun q hq e => by have := hn6.out; omega))
      clear u9 y4 fz4 kk kk8 hu9 ob7 ob9 hB7 hro7
      generalize w8.setCell ⟨nk, 4, none⟩ (.slice B9 (i + other.length) d9) = w9 at *
      obtain ⟨src2, hsrc2⟩ : ∃ s2, Hid (s2 = rkv src o.rd ++ other) := ⟨_, hid rfl⟩
      have hl2 : Hid (i + other.length = src2.length) := hid (by rw [hsrc2.out, hie.out]; unfold rkv; simp)
      have ob11 : Hid (w9.ownsRow sb 63 4 (.slice B9 src2.length d9) src2.length (srcCells src2)) := hid (by
        rw [← hl2.out, hsrc2.out, srcCells_app]
        have := ob10.out
        rw [show o.rd.take i = o.rd from by rw [hie.out, List.take_length]] at this
        exact this)
      rw [hl2.out] at kk10
      have hBw9 := hid (hB4.out.trans (hB10.out.mono hwl.out))
      have hr2 := hid (runL_any (f := f) (cc := cc) (ci := ci) (ca := ca) (cl := d9) (hji.out.hp.below hBw9.out) (hji.out.ha.below_all hBw9.out) (Rd.of_own' ob11.out) ⟨hji.out.hn.1, hji.out.hn.2.1, hji.out.hn.2.2.1, by have := hl2.out; have := hi9.out; have := hno9.out; omega⟩ hji.out.az hji.out.cr hji.out.ar (by rw [hsrc2.out]; exact rkv_all (P := fun v => v.rng) vok0.2 hji.out.sr (fun x hx => (hoth.out x hx).1)) (by rw [hsrc2.out]; exact rkv_all (P := fun v => v.s.size ≤ 9223372036854775806) (by decide) hji.out.sz (fun x hx => by have := (hoth.out x hx).2; unfold big at this; omega)) (he.out.below hBw9.out))
      have y0 : w9.cell? ⟨nk, 0, none⟩ = some (.int .i64 p.args) := kk10.out.cell 0
      have y1 : w9.cell? ⟨nk, 1, none⟩ = some (.slice Ac p.cs.length cc) := kk10.out.cell 1
      have y2 : w9.cell? ⟨nk, 2, none⟩ = some (.slice Ai p.code.length ci) := kk10.out.cell 2
      have y3 : w9.cell? ⟨nk, 3, none⟩ = some (.slice Aa args.length ca) := kk10.out.cell 3
      have y4 : w9.cell? ⟨nk, 4, none⟩ = some (.slice B9 src2.length d9) := kk10.out.cell 4
      have y5 : w9.cell? ⟨nk, 5, none⟩ = some (.int .i64 f) := kk10.out.cell 5
      go_wp2_with fail
      refine hr2.out.mono ?_
      rintro e wb ⟨v, sb2, rfl, hoc, _, hb0, _⟩
      have hoc2 := hid (hoc.read)
      rw [hsrc2.out] at hoc2
      have hoc3 : Hid (OcR wb v o) := hid (by
        have h := hoc2.out
        rw [← hoo.out, reads_law, hoo.out] at h
        exact h)
      obtain ⟨_, E1, ec1, E2, ec2, E3, ec3, E4, ec4, rfl, _⟩ := hoc3.out
      have hb9 : Below wb.heap.size wb (wb.alloc (.cells #[.int .i64 o.code, .int .i64 o.at_, .int .i64 o.ab, .slice E1 o.out.length ec1, .slice E2 o.ws.length ec2, .slice E3 o.rd.length ec3, .slice E4 o.wr.length ec4, .int .i64 o.left] 29)) := (Below.refl _ _).alloc (Nat.le_refl _) _
      have kx := hid (Blk.new wb 29 #[.int .i64 o.code, .int .i64 o.at_, .int .i64 o.ab, .slice E1 o.out.length ec1, .slice E2 o.ws.length ec2, .slice E3 o.rd.length ec3, .slice E4 o.wr.length ec4, .int .i64 o.left])
      have hx := hid (hoc3.out.below hb9)
      have hB11 := hid ((hB10.out.trans (hb0.mono (by have := kk10.out.lt; have := hn6.out; omega))).trans (hb9.mono (by have := kk10.out.lt; have := hn6.out; have := hb0.size; omega)))
      clear hoc hoc2 hoc3 hb0 hb9 hr2 y0 y1 y2 y3 y4 y5
      go_upto_region 13 with fail
      generalize wb.alloc (.cells #[.int .i64 o.code, .int .i64 o.at_, .int .i64 o.ab, .slice E1 o.out.length ec1, .slice E2 o.ws.length ec2, .slice E3 o.rd.length ec3, .slice E4 o.wr.length ec4, .int .i64 o.left] 29) = w10 at *
      generalize wb.heap.size = nx at *
      have ko10 := hid (ko.out.below hB11.out hnol.out)
      have ho10 := hid (horB.out _ hB11.out)
      have x0 : w10.cell? ⟨no, 0, none⟩ = some (.int .i64 o.code) := ko10.out.cell 0
      have x1 : w10.cell? ⟨no, 1, none⟩ = some (.int .i64 o.at_) := ko10.out.cell 1
      have x2 : w10.cell? ⟨no, 2, none⟩ = some (.int .i64 o.ab) := ko10.out.cell 2
      have x3 : w10.cell? ⟨no, 3, none⟩ = some (.slice A1 o.out.length ac1) := ko10.out.cell 3
      have x4 : w10.cell? ⟨no, 4, none⟩ = some (.slice A2 o.ws.length ac2) := ko10.out.cell 4
      have x5 : w10.cell? ⟨no, 5, none⟩ = some (.slice A3 o.rd.length ac3) := ko10.out.cell 5
      have x6 : w10.cell? ⟨no, 6, none⟩ = some (.slice A4 o.wr.length ac4) := ko10.out.cell 6
      have x7 : w10.cell? ⟨no, 7, none⟩ = some (.int .i64 o.left) := ko10.out.cell 7
      have y0 : w10.cell? ⟨nx, 0, none⟩ = some (.int .i64 o.code) := kx.out.cell 0
      have y1 : w10.cell? ⟨nx, 1, none⟩ = some (.int .i64 o.at_) := kx.out.cell 1
      have y2 : w10.cell? ⟨nx, 2, none⟩ = some (.int .i64 o.ab) := kx.out.cell 2
      have y3 : w10.cell? ⟨nx, 3, none⟩ = some (.slice E1 o.out.length ec1) := kx.out.cell 3
      have y4 : w10.cell? ⟨nx, 4, none⟩ = some (.slice E2 o.ws.length ec2) := kx.out.cell 4
      have y5 : w10.cell? ⟨nx, 5, none⟩ = some (.slice E3 o.rd.length ec3) := kx.out.cell 5
      have y6 : w10.cell? ⟨nx, 6, none⟩ = some (.slice E4 o.wr.length ec4) := kx.out.cell 6
      have y7 : w10.cell? ⟨nx, 7, none⟩ = some (.int .i64 o.left) := kx.out.cell 7
      have hsm := hid (rsameB_any ho10.out hx.out)
      go_wp2_with fail
      refine hsm.out.mono ?_
      rintro e w11 ⟨rfl, hb0⟩
      have hB := hid ((hB4.out.trans (hB11.out.mono hwl.out)).trans (hb0.mono (hB4.out.trans (hB11.out.mono hwl.out)).size))
      clear hb0 hsm x0 y0 x1 y1 x2 y2 x3 y3 x4 y4 x5 y5 x6 y6 x7 y7
      go_wp2_with fail
      refine (liveI_any _ (he.out.below hB.out)).mono ?_
      rintro e wd ⟨rfl, hb0⟩
      have hB := hid (hB.out.trans (hb0.mono hB.out.size))
      clear hb0
      go_wp2_with fail
      go_ret
      exact ⟨rfl, hB.out⟩
end
end Go.Proofs.YtdmogoaaecdbaaaGreatDoor

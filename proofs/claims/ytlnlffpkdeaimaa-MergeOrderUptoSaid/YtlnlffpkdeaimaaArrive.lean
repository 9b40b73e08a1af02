/- Merge.Arrive. -/
import Derived.Test.YtlnlffpkdeaimaaMerge
import Derived.Deep.DeepMust
namespace Go.Proofs.Ytlnlffpkdeaimaa
open Go.RowKit
set_option linter.unusedVariables false

/-- the first of a key -/
def getA {κ α : Type} [DecidableEq κ] (k : κ) : List (κ × α) → Option α
  | [] => none
  | p :: l => if k = p.1 then some p.2 else getA k l
theorem look_getA {κ : Type} [DecidableEq κ] (k : κ) : ∀ (l : List (κ × Value)) (i : Nat), (look k l i).map (·.2) = getA k l := by
  intro l
  induction l with
  | nil => intro i; rfl
  | cons p l ih =>
    intro i
    by_cases h : k = p.1
    · simp [look, getA, h]
    · simp [look, getA, h, ih]
theorem getA_map {κ α β : Type} [DecidableEq κ] (f : α → β) (k : κ) (l : List (κ × α)) : getA k (l.map fun p => (p.1, f p.2)) = (getA k l).map f := by
  induction l with
  | nil => rfl
  | cons p l ih =>
    by_cases h : k = p.1
    · simp [getA, h]
    · simp [getA, h, ih]
theorem getA_mem {κ α : Type} [DecidableEq κ] {k : κ} {l : List (κ × α)} {v : α} (h : getA k l = some v) : (k, v) ∈ l := by
  induction l with
  | nil => simp [getA] at h
  | cons p l ih =>
    by_cases hk : k = p.1
    · simp [getA, hk] at h; subst h; subst hk; exact List.mem_cons_self
    · simp [getA, hk] at h; exact List.mem_cons_of_mem _ (ih h)
theorem getK_hvals (k : Int × Int) (H : List ((Int × Int) × HV)) : getK k (hvals H) = (getA k H).map HV.val := by
  unfold getK; rw [look_getA, hvals, getA_map]
theorem getA_held (k : Int × Int) (H : List ((Int × Int) × HV)) : getA k (held H) = (getA k H).map fun h => plans h.rs := by
  unfold held; exact getA_map (fun h : HV => plans h.rs) k H
theorem setK_new {κ : Type} [DecidableEq κ] {k : κ} {v : Value} {l : List (κ × Value)} (h : getK k l = none) : setK k v l = l ++ [(k, v)] :=
  (look_none (i := 0) (by unfold getK at h; simpa using h)).1
section
variable {P : Program} {k : TypeId} {κ : Type} [DecidableEq κ] {E : KeyEnc P k κ}
theorem wp_mapUpdate {o : Oper} {a : Act} {K : Act → World → Prop} {Q : Exit → Act → World → Prop} (w : World) (m x v : Operand) (t e : TypeId) (ho : o.op = .mapUpdate t m x v)
    (b : Nat) (l : List (κ × Value)) (y : κ) (val : Value) (hm : a.eval m = .map (some b)) (hx : a.eval x = E.enc y) (hv : a.eval v = val) (hM : MapIs E w b l) (ht : P.underlying t = some (.map k e))
    (h : ∀ w', MapIs E w' b (setK y val l) → w.grownBy w' (some b) → w'.heap.size = w.heap.size → K (a.put o.dst undef) w') : o.wp P a w K Q := by
  obtain ⟨w', hrun, r1, r2, r3⟩ := hM.update ht y val
  unfold Oper.wp
  simp [execOp, ho, hm, hx, hv, hrun, Result.andThen]
  exact h w' r1 r2 r3
theorem step_mapUpdate {ops : Array Oper} {o : Oper} {a : Act} {K : Act → World → Prop} {Q : Exit → Act → World → Prop} {F : Prop} (w : World) (hgd : o.guard = none) (m x v : Operand) (t e : TypeId) (ho : o.op = .mapUpdate t m x v)
    (b : Nat) (l : List (κ × Value)) (y : κ) (val : Value) (hm : a.eval m = .map (some b)) (hx : a.eval x = E.enc y) (hv : a.eval v = val) (hM : MapIs E w b l) (ht : P.underlying t = some (.map k e))
    (h : ∀ w', MapIs E w' b (setK y val l) → w.grownBy w' (some b) → w'.heap.size = w.heap.size → K (a.put o.dst undef) w') :
    if Region.wanted o (yielded ops a.tmps) = true then Oper.wp P o a w K Q else F := by
  have hw : Region.wanted o (yielded ops a.tmps) = true := by simp [Region.wanted, hgd]
  rw [if_pos hw]
  exact wp_mapUpdate w m x v t e ho b l y val hm hx hv hM ht h
theorem wpList_mapUpdate {ops : Array Oper} {rest : List Oper} {o : Oper} {a : Act} {Q : Exit → Act → World → Prop} (w : World) (hgd : o.guard = none) (m x v : Operand) (t e : TypeId) (ho : o.op = .mapUpdate t m x v)
    (b : Nat) (l : List (κ × Value)) (y : κ) (val : Value) (hm : a.eval m = .map (some b)) (hx : a.eval x = E.enc y) (hv : a.eval v = val) (hM : MapIs E w b l) (ht : P.underlying t = some (.map k e))
    (h : ∀ w', MapIs E w' b (setK y val l) → w.grownBy w' (some b) → w'.heap.size = w.heap.size → wpList P ops Q rest (a.put o.dst undef) w') : wpList P ops Q (o :: rest) a w :=
  wpList_plain hgd fun _ hK => wp_mapUpdate w m x v t e ho b l y val hm hx hv hM ht fun w' h1 h2 h3 => hK _ _ (h w' h1 h2 h3)
end
theorem zero_plans (w : World) : (zeroValue 32).run Try.prog w = .ok (.slice none 0 0) w := by kernel_rfl

theorem arrive_nil (v : Value) (x t : Int) (w : World) :
    Calls Try.prog 11 #[.pointer none, .int .i64 t, .agg #[.int .i64 x, v]] w fun r w' => r = .returned (.int .i64 0) ∧ Below w.heap.size w w' := by
  go_enter Try.func11, Try.ntmps11
  go_wp2_with fail
  go_ret
  exact ⟨rfl, (Below.refl _ _).alloc (Nat.le_refl _) _⟩

set_option maxHeartbeats 800000 in
theorem arrive_neg (S : Nat → Prop) (g mb : Nat) (n e s x t : Int) (H : List ((Int × Int) × HV)) (A : Option Addr) (c : Nat) (rs : List RP) (w : World) (h : MergeAt w g mb n e s H) (he : 0 ≤ e) (hx9 : x ≤ 9223372036854775807) (ht : t < 0) :
    Calls Try.prog 11 #[.pointer (some ⟨g, 0, none⟩), .int .i64 t, .agg #[.int .i64 x, .slice A rs.length c]] w fun r w' => r = .returned (.int .i64 2) ∧ Below w.heap.size w w' := by
  obtain ⟨c0, c1, c2, c3⟩ := h.cells
  have hg := h.blk.lt
  have hb2 := hid (below_two (w := w) (.cells #[.int .i64 x, .slice A rs.length c] 34) (.cells #[.int .i64 x, .int .i64 t] 75))
  clear h
  have hd : decide (t < 0) = true := by simpa using ht
  go_enter Try.func11, Try.ntmps11
  go_wp2_with fail
  go_ret
  exact ⟨rfl, hb2.out⟩

set_option maxHeartbeats 800000 in
theorem arrive_big (S : Nat → Prop) (g mb : Nat) (n e s x t : Int) (H : List ((Int × Int) × HV)) (A : Option Addr) (c : Nat) (rs : List RP) (w : World) (h : MergeAt w g mb n e s H) (he : 0 ≤ e) (hx9 : x ≤ 9223372036854775807) (ht0 : 0 ≤ t) (ht : n ≤ t) :
    Calls Try.prog 11 #[.pointer (some ⟨g, 0, none⟩), .int .i64 t, .agg #[.int .i64 x, .slice A rs.length c]] w fun r w' => r = .returned (.int .i64 2) ∧ Below w.heap.size w w' := by
  obtain ⟨c0, c1, c2, c3⟩ := h.cells
  have hg := h.blk.lt
  have hb2 := hid (below_two (w := w) (.cells #[.int .i64 x, .slice A rs.length c] 34) (.cells #[.int .i64 x, .int .i64 t] 75))
  clear h
  have hd : decide (t < 0) = false := by simp; omega
  have hd2 : decide (n ≤ t) = true := by simpa using ht
  go_enter Try.func11, Try.ntmps11
  go_wp2_with fail
  go_ret
  exact ⟨rfl, hb2.out⟩

set_option maxHeartbeats 800000 in
theorem arrive_epoch (S : Nat → Prop) (g mb : Nat) (n e s x t : Int) (H : List ((Int × Int) × HV)) (A : Option Addr) (c : Nat) (rs : List RP) (w : World) (h : MergeAt w g mb n e s H) (he : 0 ≤ e) (hx9 : x ≤ 9223372036854775807) (ht0 : 0 ≤ t) (ht : t < n) (hx : x < 0) :
    Calls Try.prog 11 #[.pointer (some ⟨g, 0, none⟩), .int .i64 t, .agg #[.int .i64 x, .slice A rs.length c]] w fun r w' => r = .returned (.int .i64 2) ∧ Below w.heap.size w w' := by
  obtain ⟨c0, c1, c2, c3⟩ := h.cells
  have hg := h.blk.lt
  have hb2 := hid (below_two (w := w) (.cells #[.int .i64 x, .slice A rs.length c] 34) (.cells #[.int .i64 x, .int .i64 t] 75))
  clear h
  have hd : decide (t < 0) = false := by simp; omega
  have hd2 : decide (n ≤ t) = false := by simp; omega
  have hd3 : decide (x < 0) = true := by simpa using hx
  go_enter Try.func11, Try.ntmps11
  go_wp2_with fail
  go_ret
  exact ⟨rfl, hb2.out⟩

set_option maxHeartbeats 800000 in
theorem arrive_old (S : Nat → Prop) (g mb : Nat) (n e s x t : Int) (H : List ((Int × Int) × HV)) (A : Option Addr) (c : Nat) (rs : List RP) (w : World) (h : MergeAt w g mb n e s H) (he : 0 ≤ e) (hx9 : x ≤ 9223372036854775807) (ht0 : 0 ≤ t) (ht : t < n) (hx : 0 ≤ x) (ho : toldB e s x t = true) :
    Calls Try.prog 11 #[.pointer (some ⟨g, 0, none⟩), .int .i64 t, .agg #[.int .i64 x, .slice A rs.length c]] w fun r w' => r = .returned (.int .i64 132) ∧ Below w.heap.size w w' := by
  obtain ⟨c0, c1, c2, c3⟩ := h.cells
  have hg := h.blk.lt
  have hb2 := hid (below_two (w := w) (.cells #[.int .i64 x, .slice A rs.length c] 34) (.cells #[.int .i64 x, .int .i64 t] 75))
  clear h
  have hd : decide (t < 0) = false := by simp; omega
  have hd2 : decide (n ≤ t) = false := by simp; omega
  have hd3 : decide (x < 0) = false := by simp; omega
  go_enter Try.func11, Try.ntmps11
  go_wp2_with fail
  refine (told_any g e s x t _ (by go_simp) (by go_simp) (by simp; omega)).mono ?_
  rintro r w1 ⟨rfl, hbw⟩
  have hB1 : Below w.heap.size w w1 := (hb2.out).trans (hbw.mono (by simp; omega))
  have kb : Blk w1 w.heap.size 34 #[.int .i64 x, .slice A rs.length c] := ((Blk.new w 34 #[.int .i64 x, .slice A rs.length c]).alloc _).below_all hbw
  have kp : Blk w1 (w.heap.size + 1) 75 #[.int .i64 x, .int .i64 t] := (Blk.new' _ _ _ (by simp)).below_all hbw
  have d0 : w1.cell? ⟨g, 0, none⟩ = some (.int .i64 n) := (hB1.cell (p := ⟨g, 0, none⟩) hg).trans c0
  have d1 : w1.cell? ⟨g, 1, none⟩ = some (.int .i64 e) := (hB1.cell (p := ⟨g, 1, none⟩) hg).trans c1
  have d2 : w1.cell? ⟨g, 2, none⟩ = some (.int .i64 s) := (hB1.cell (p := ⟨g, 2, none⟩) hg).trans c2
  have d3 : w1.cell? ⟨g, 3, none⟩ = some (.map (some mb)) := (hB1.cell (p := ⟨g, 3, none⟩) hg).trans c3
  have b0 : w1.cell? ⟨w.heap.size, 0, none⟩ = some (.int .i64 x) := kb.cell 0
  have b1 : w1.cell? ⟨w.heap.size, 1, none⟩ = some (.slice A rs.length c) := kb.cell 1
  have p0 : w1.cell? ⟨w.heap.size + 1, 0, none⟩ = some (.int .i64 x) := kp.cell 0
  have p1 : w1.cell? ⟨w.heap.size + 1, 1, none⟩ = some (.int .i64 t) := kp.cell 1
  have hz1 : w.heap.size + 1 < w1.heap.size := kp.lt
  clear hbw
  go_wp2_with fail
  go_ret
  exact ⟨rfl, hB1⟩

set_option maxHeartbeats 800000 in
theorem arrive_far (S : Nat → Prop) (g mb : Nat) (n e s x t : Int) (H : List ((Int × Int) × HV)) (A : Option Addr) (c : Nat) (rs : List RP) (w : World) (h : MergeAt w g mb n e s H) (he : 0 ≤ e) (hx9 : x ≤ 9223372036854775807) (ht0 : 0 ≤ t) (ht : t < n) (hx : 0 ≤ x) (ho : toldB e s x t = false) (hf : 64 ≤ x - e) :
    Calls Try.prog 11 #[.pointer (some ⟨g, 0, none⟩), .int .i64 t, .agg #[.int .i64 x, .slice A rs.length c]] w fun r w' => r = .returned (.int .i64 131) ∧ Below w.heap.size w w' := by
  obtain ⟨c0, c1, c2, c3⟩ := h.cells
  have hg := h.blk.lt
  have hb2 := hid (below_two (w := w) (.cells #[.int .i64 x, .slice A rs.length c] 34) (.cells #[.int .i64 x, .int .i64 t] 75))
  clear h
  have hle : e ≤ x := by simp [toldB] at ho; omega
  have hw1 : IntKind.i64.wrap (x - e) = x - e := IntWalk.i64_in _ (by omega)
  have hd : decide (t < 0) = false := by simp; omega
  have hd2 : decide (n ≤ t) = false := by simp; omega
  have hd3 : decide (x < 0) = false := by simp; omega
  go_enter Try.func11, Try.ntmps11
  go_wp2_with fail
  refine (told_any g e s x t _ (by go_simp) (by go_simp) (by simp; omega)).mono ?_
  rintro r w1 ⟨rfl, hbw⟩
  have hB1 : Below w.heap.size w w1 := (hb2.out).trans (hbw.mono (by simp; omega))
  have kb : Blk w1 w.heap.size 34 #[.int .i64 x, .slice A rs.length c] := ((Blk.new w 34 #[.int .i64 x, .slice A rs.length c]).alloc _).below_all hbw
  have kp : Blk w1 (w.heap.size + 1) 75 #[.int .i64 x, .int .i64 t] := (Blk.new' _ _ _ (by simp)).below_all hbw
  have d0 : w1.cell? ⟨g, 0, none⟩ = some (.int .i64 n) := (hB1.cell (p := ⟨g, 0, none⟩) hg).trans c0
  have d1 : w1.cell? ⟨g, 1, none⟩ = some (.int .i64 e) := (hB1.cell (p := ⟨g, 1, none⟩) hg).trans c1
  have d2 : w1.cell? ⟨g, 2, none⟩ = some (.int .i64 s) := (hB1.cell (p := ⟨g, 2, none⟩) hg).trans c2
  have d3 : w1.cell? ⟨g, 3, none⟩ = some (.map (some mb)) := (hB1.cell (p := ⟨g, 3, none⟩) hg).trans c3
  have b0 : w1.cell? ⟨w.heap.size, 0, none⟩ = some (.int .i64 x) := kb.cell 0
  have b1 : w1.cell? ⟨w.heap.size, 1, none⟩ = some (.slice A rs.length c) := kb.cell 1
  have p0 : w1.cell? ⟨w.heap.size + 1, 0, none⟩ = some (.int .i64 x) := kp.cell 0
  have p1 : w1.cell? ⟨w.heap.size + 1, 1, none⟩ = some (.int .i64 t) := kp.cell 1
  have hz1 : w.heap.size + 1 < w1.heap.size := kp.lt
  clear hbw
  have hd5 : decide (64 ≤ x - e) = true := by simpa using hf
  go_wp2_with fail
  go_quiet (fail)
  go_wp2
  go_ret
  exact ⟨rfl, below_drewN hB1 _⟩

def codeIf (b : Bool) : Int := if b = true then 0 else 130
theorem codeIf_no {b : Bool} (h : (!b) = true) : codeIf b = 130 := by cases b <;> simp_all [codeIf]
theorem codeIf_yes {b : Bool} (h : (!b) = false) : codeIf b = 0 := by cases b <;> simp_all [codeIf]
set_option maxRecDepth 100000 in
set_option maxHeartbeats 1000000 in
theorem arrive_there (S : Nat → Prop) (g mb : Nat) (n e s x t : Int) (H : List ((Int × Int) × HV)) (A : Option Addr) (c : Nat) (rs : List RP) (w : World) (h : MergeAt w g mb n e s H) (he : 0 ≤ e) (hx9 : x ≤ 9223372036854775807) (ha : PlansOk S w A rs) (hl : rs.length ≤ 1000000000) (hfit : ∀ r ∈ rs, r.p.fits) (ht0 : 0 ≤ t) (ht : t < n) (hx : 0 ≤ x) (ho : toldB e s x t = false) (hf : ¬ 64 ≤ x - e) (hv : HV) (hget : getA (x, t) H = some hv) :
    Calls Try.prog 11 #[.pointer (some ⟨g, 0, none⟩), .int .i64 t, .agg #[.int .i64 x, .slice A rs.length c]] w fun r w' => r = .returned (.int .i64 (codeIf (eqL (plans hv.rs) (plans rs)))) ∧ Below w.heap.size w w' := by
  obtain ⟨c0, c1, c2, c3⟩ := h.cells
  have hg := h.blk.lt
  have hb2 := hid (below_two (w := w) (.cells #[.int .i64 x, .slice A rs.length c] 34) (.cells #[.int .i64 x, .int .i64 t] 75))
  have hmem := getA_mem hget
  have hpl := (h.plans _ hmem).ok'
  have hfo := h.fits _ hmem
  have hmap := h.map
  have hgk : getK (x, t) (hvals H) = some hv.val := by rw [getK_hvals, hget]; rfl
  have hgk := hid hgk
  have hget := hid hget
  clear h hmem
  have hle : e ≤ x := by simp [toldB] at ho; omega
  have hw1 : IntKind.i64.wrap (x - e) = x - e := IntWalk.i64_in _ (by omega)
  have hd : decide (t < 0) = false := by simp; omega
  have hd2 : decide (n ≤ t) = false := by simp; omega
  have hd3 : decide (x < 0) = false := by simp; omega
  go_enter Try.func11, Try.ntmps11
  go_wp2_with fail
  refine (told_any g e s x t _ (by go_simp) (by go_simp) (by simp; omega)).mono ?_
  rintro r w1 ⟨rfl, hbw⟩
  have hB1 : Below w.heap.size w w1 := (hb2.out).trans (hbw.mono (by simp; omega))
  have kb : Blk w1 w.heap.size 34 #[.int .i64 x, .slice A rs.length c] := ((Blk.new w 34 #[.int .i64 x, .slice A rs.length c]).alloc _).below_all hbw
  have kp : Blk w1 (w.heap.size + 1) 75 #[.int .i64 x, .int .i64 t] := (Blk.new' _ _ _ (by simp)).below_all hbw
  have d0 : w1.cell? ⟨g, 0, none⟩ = some (.int .i64 n) := (hB1.cell (p := ⟨g, 0, none⟩) hg).trans c0
  have d1 : w1.cell? ⟨g, 1, none⟩ = some (.int .i64 e) := (hB1.cell (p := ⟨g, 1, none⟩) hg).trans c1
  have d2 : w1.cell? ⟨g, 2, none⟩ = some (.int .i64 s) := (hB1.cell (p := ⟨g, 2, none⟩) hg).trans c2
  have d3 : w1.cell? ⟨g, 3, none⟩ = some (.map (some mb)) := (hB1.cell (p := ⟨g, 3, none⟩) hg).trans c3
  have b0 : w1.cell? ⟨w.heap.size, 0, none⟩ = some (.int .i64 x) := kb.cell 0
  have b1 : w1.cell? ⟨w.heap.size, 1, none⟩ = some (.slice A rs.length c) := kb.cell 1
  have p0 : w1.cell? ⟨w.heap.size + 1, 0, none⟩ = some (.int .i64 x) := kp.cell 0
  have p1 : w1.cell? ⟨w.heap.size + 1, 1, none⟩ = some (.int .i64 t) := kp.cell 1
  have hz1 : w.heap.size + 1 < w1.heap.size := kp.lt
  clear hbw
  have hm1 := hmap.below (hB1.mono (Nat.le_refl _))
  have hpl1 := hpl.below hB1
  have ha1 := ha.below hB1
  have hlk : ∀ k, (Instr.lookup 73 (.map (some mb)) (.agg #[.int .i64 x, .int .i64 t]) true).run Try.prog (w1.drewN k) = .ok (.tuple #[.slice hv.A hv.rs.length hv.c, .bool true]) (w1.drewN k) := fun k => by
    have := (hm1.keep (w' := w1.drewN k) rfl).lookup_ok Try.underlying73 zero_plans (x, t)
    rw [hgk.out] at this
    exact this
  have hd5 : decide (64 ≤ x - e) = false := by simpa using hf
  clear hmap hm1
  go_wp2_with fail
  go_quiet (fail)
  go_wp2_with fail
  go_quiet (fail)
  go_wp2_with (go_at_call 29; refine (equalFunc_any hv.S S _ _ _ _ _ _ _ ?_ ?_ hfo.1 hl hfo.2 hfit).mono ?_; (exact ⟨hpl1.row, fun r hr => ⟨(hpl1.ok r hr).args, (hpl1.ok r hr).rd, (hpl1.ok r hr).wr⟩⟩); (exact ⟨ha1.row, fun r hr => ⟨(ha1.ok r hr).args, (ha1.ok r hr).rd, (ha1.ok r hr).wr⟩⟩); rintro e w2 ⟨rfl, hb3⟩)
  · go_ret
    exact ⟨by rw [codeIf_no (by assumption)]; rfl, (below_drewN hB1 _).trans (hb3.mono hB1.size)⟩
  · go_ret
    exact ⟨by rw [codeIf_yes (by assumption)]; rfl, (below_drewN hB1 _).trans (hb3.mono hB1.size)⟩

set_option maxRecDepth 100000 in
set_option maxHeartbeats 1000000 in
theorem arrive_new (S : Nat → Prop) (g mb : Nat) (n e s x t : Int) (H : List ((Int × Int) × HV)) (A : Option Addr) (c : Nat) (rs : List RP) (w : World) (h : MergeAt w g mb n e s H) (he : 0 ≤ e) (hx9 : x ≤ 9223372036854775807) (ha : PlansOk S w A rs) (hl : rs.length ≤ 1000000000) (hfit : ∀ r ∈ rs, r.p.fits) (ht0 : 0 ≤ t) (ht : t < n) (hx : 0 ≤ x) (ho : toldB e s x t = false) (hf : ¬ 64 ≤ x - e) (hget : getA (x, t) H = none) :
    Calls Try.prog 11 #[.pointer (some ⟨g, 0, none⟩), .int .i64 t, .agg #[.int .i64 x, .slice A rs.length c]] w fun r w' => ∃ hv : HV, (plans hv.rs = plans rs ∧ (∀ k, hv.S k → w.heap.size ≤ k)) ∧ r = .returned (.int .i64 0) ∧ MergeAt w' g mb n e s (H ++ [((x, t), hv)]) ∧ Upd (fun k => k = mb) w w' := by
  obtain ⟨c0, c1, c2, c3⟩ := h.cells
  have hg := h.blk.lt
  have hb2 := hid (below_two (w := w) (.cells #[.int .i64 x, .slice A rs.length c] 34) (.cells #[.int .i64 x, .int .i64 t] 75))
  have hmap := h.map
  have hgk : getK (x, t) (hvals H) = none := by rw [getK_hvals, hget]; rfl
  have hgk := hid hgk
  have hget := hid hget
  have hme := h
  clear h
  have hle : e ≤ x := by simp [toldB] at ho; omega
  have hw1 : IntKind.i64.wrap (x - e) = x - e := IntWalk.i64_in _ (by omega)
  have hd : decide (t < 0) = false := by simp; omega
  have hd2 : decide (n ≤ t) = false := by simp; omega
  have hd3 : decide (x < 0) = false := by simp; omega
  go_enter Try.func11, Try.ntmps11
  go_wp2_with fail
  refine (told_any g e s x t _ (by go_simp) (by go_simp) (by simp; omega)).mono ?_
  rintro r w1 ⟨rfl, hbw⟩
  have hB1 : Below w.heap.size w w1 := (hb2.out).trans (hbw.mono (by simp; omega))
  have kb : Blk w1 w.heap.size 34 #[.int .i64 x, .slice A rs.length c] := ((Blk.new w 34 #[.int .i64 x, .slice A rs.length c]).alloc _).below_all hbw
  have kp : Blk w1 (w.heap.size + 1) 75 #[.int .i64 x, .int .i64 t] := (Blk.new' _ _ _ (by simp)).below_all hbw
  have d0 : w1.cell? ⟨g, 0, none⟩ = some (.int .i64 n) := (hB1.cell (p := ⟨g, 0, none⟩) hg).trans c0
  have d1 : w1.cell? ⟨g, 1, none⟩ = some (.int .i64 e) := (hB1.cell (p := ⟨g, 1, none⟩) hg).trans c1
  have d2 : w1.cell? ⟨g, 2, none⟩ = some (.int .i64 s) := (hB1.cell (p := ⟨g, 2, none⟩) hg).trans c2
  have d3 : w1.cell? ⟨g, 3, none⟩ = some (.map (some mb)) := (hB1.cell (p := ⟨g, 3, none⟩) hg).trans c3
  have b0 : w1.cell? ⟨w.heap.size, 0, none⟩ = some (.int .i64 x) := kb.cell 0
  have b1 : w1.cell? ⟨w.heap.size, 1, none⟩ = some (.slice A rs.length c) := kb.cell 1
  have p0 : w1.cell? ⟨w.heap.size + 1, 0, none⟩ = some (.int .i64 x) := kp.cell 0
  have p1 : w1.cell? ⟨w.heap.size + 1, 1, none⟩ = some (.int .i64 t) := kp.cell 1
  have hz1 : w.heap.size + 1 < w1.heap.size := kp.lt
  clear hbw
  have hm1 := hmap.below (hB1.mono (Nat.le_refl _))
  have ha1 := ha.below hB1
  have hme1 := hme.below hB1
  have hlk : ∀ k, (Instr.lookup 73 (.map (some mb)) (.agg #[.int .i64 x, .int .i64 t]) true).run Try.prog (w1.drewN k) = .ok (.tuple #[.slice none 0 0, .bool false]) (w1.drewN k) := fun k => by
    have := (hm1.keep (w' := w1.drewN k) rfl).lookup_ok Try.underlying73 zero_plans (x, t)
    rw [hgk.out] at this
    exact this
  have hd5 : decide (64 ≤ x - e) = false := by simpa using hf
  have hmlt := hm1.lt
  clear hmap ha hme
  go_wp2_with fail
  go_quiet (fail)
  go_wp2_with fail
  go_quiet (fail)
  go_wp2_with fail
  clear hlk
  have hg1 : g < w1.heap.size := Nat.lt_of_lt_of_le hg hB1.size
  have keepS : Hid (∀ w', Below w1.heap.size w1 w' → w'.cell? ⟨g, 3, none⟩ = some (.map (some mb)) ∧ w'.cell? ⟨w.heap.size + 1, 0, none⟩ = some (.int .i64 x) ∧ w'.cell? ⟨w.heap.size + 1, 1, none⟩ = some (.int .i64 t) ∧ w'.cell? ⟨w.heap.size, 1, none⟩ = some (.slice A rs.length c)) :=
    fun w' hb => ⟨(hb.cell (p := ⟨g, 3, none⟩) hg1).trans d3, (hb.cell (p := ⟨w.heap.size + 1, 0, none⟩) hz1).trans p0, (hb.cell (p := ⟨w.heap.size + 1, 1, none⟩) hz1).trans p1, (hb.cell (p := ⟨w.heap.size, 1, none⟩) (by simp; omega)).trans b1⟩
  have hgm : g ≠ mb := fun e => hm1.ne_blk hme1.blk e.symm
  go_region_held3 (fun w' => w'.cell? ⟨g, 3, none⟩ = some (.map (some mb)) ∧ w'.cell? ⟨w.heap.size + 1, 0, none⟩ = some (.int .i64 x) ∧ w'.cell? ⟨w.heap.size + 1, 1, none⟩ = some (.int .i64 t) ∧ w'.cell? ⟨w.heap.size, 1, none⟩ = some (.slice A rs.length c))
    (first | exact keepS3.out | exact keepS.out _ hq1 | exact keepS.out _ (below_drewN (Below.refl _ _) _).drew | exact keepS.out _ (below_drewN (Below.refl _ _) _) | exact keepS.out _ (Below.refl _ _))
    (first
      | (go_at_call 31; refine (copied_any S A c rs _ ?_ hl hfit).mono ?_; (exact ⟨ha1.row, fun r hr => ⟨(ha1.ok r hr).args, (ha1.ok r hr).rd, (ha1.ok r hr).wr⟩⟩); rintro r w2 ⟨A', c', rs', ⟨hp0, rfl⟩, hown, hb3⟩; have hp := hid hp0; clear hp0; have hq1 : Below w1.heap.size w1 w2 := ((below_drewN (Below.refl _ w1) _).drew).trans hb3
         obtain ⟨w3, hrun0, hm3, hg3, hz3⟩ := (hm1.below hq1).update Try.underlying73 (x, t) (.slice A' rs'.length c')
         have hrun : (Instr.mapUpdate 73 (.map (some mb)) (.agg #[.int .i64 x, .int .i64 t]) (.slice A' rs'.length c')).run Try.prog w2 = .ok () w3 := hrun0
         clear hrun0
         have hsz2 := hq1.size
         have keepS3 : Hid (w3.cell? ⟨g, 3, none⟩ = some (.map (some mb)) ∧ w3.cell? ⟨w.heap.size + 1, 0, none⟩ = some (.int .i64 x) ∧ w3.cell? ⟨w.heap.size + 1, 1, none⟩ = some (.int .i64 t) ∧ w3.cell? ⟨w.heap.size, 1, none⟩ = some (.slice A rs.length c)) := by
           obtain ⟨s1, s2, s3, s4⟩ := keepS.out _ hq1
           refine ⟨hg3.cell s1 (by simpa using hgm), hg3.cell s2 ?_, hg3.cell s3 ?_, hg3.cell s4 ?_⟩
           · simpa using fun e => hm1.ne_blk kp e.symm
           · simpa using fun e => hm1.ne_blk kp e.symm
           · simpa using fun e => hm1.ne_blk kb e.symm))
  go_wp2_with fail
  go_ret
  have hsz := hq1.size
  have hsz3 : w2.heap.size ≤ w3.heap.size := hg3.size
  have hPS := PlansS.of_own hown
  have hu23 : Upd (fun k => k = mb) w2 w3 := (Upd.refl _ _).grown hg3 (fun k hk _ => by injection hk with hk; exact hk.symm)
  have hu1 : Upd (fun k => k = mb) w w3 := (Upd.of_below' hB1 _).trans ((Upd.of_below' hq1 _).trans hu23 (fun _ _ h => h)) (fun _ _ h => h)
  have hml : mb < w1.heap.size := hmlt
  refine ⟨⟨A', c', rs', fun b => w1.heap.size ≤ b ∧ b < w2.heap.size⟩, ⟨hp.out, fun k hk => Nat.le_trans hB1.size hk.1⟩, rfl, ?_, hu1⟩
  have hme2 := hme1.below hq1
  refine ⟨hme2.blk.upd hu23 hgm, ?_, ?_, ?_, ?_, ?_⟩
  · have e1 : hvals (H ++ [((x, t), ⟨A', c', rs', fun b => w1.heap.size ≤ b ∧ b < w2.heap.size⟩)]) = setK (x, t) (.slice A' rs'.length c') (hvals H) := by
      rw [setK_new hgk.out]; simp [hvals, HV.val]
    rw [e1]; exact hm3
  · intro y hy
    rcases List.mem_append.1 hy with hy | hy
    · exact (hme2.plans y hy).keep fun b hb hl => hu23.block b hl (hme1.out y hy b hb).2.1
    · obtain rfl := List.mem_singleton.1 hy
      refine (hPS.more (S' := fun b => w1.heap.size ≤ b ∧ b < w2.heap.size) fun b hb _ => hb).keep fun b hb hl => hu23.block b hl ?_
      have hb1 := hb.1
      rintro rfl
      omega
  · refine List.pairwise_append.2 ⟨hme1.apart, by simp, fun a ha b hb k h1 h2 => ?_⟩
    obtain rfl := List.mem_singleton.1 hb
    have := (hme1.out a ha k h1).2.2
    have := h2.1
    omega
  · intro y hy k hk
    rcases List.mem_append.1 hy with hy | hy
    · have := hme1.out y hy k hk
      exact ⟨this.1, this.2.1, by omega⟩
    · obtain rfl := List.mem_singleton.1 hy
      have h1 := hk.1
      have h2 := hk.2
      exact ⟨by omega, by omega, by omega⟩
  · intro y hy
    rcases List.mem_append.1 hy with hy | hy
    · exact hme1.fits y hy
    · obtain rfl := List.mem_singleton.1 hy
      have hp1 := hp.out
      refine ⟨by have := congrArg List.length hp1; simp [plans] at this; show rs'.length ≤ _; omega, fun r hr => ?_⟩
      have hr' : r.p ∈ plans rs := by rw [← hp1]; exact List.mem_map.2 ⟨r, hr, rfl⟩
      obtain ⟨q, hq, hqe⟩ := List.mem_map.1 hr'
      rw [← hqe]; exact hfit q hq

end Go.Proofs.Ytlnlffpkdeaimaa

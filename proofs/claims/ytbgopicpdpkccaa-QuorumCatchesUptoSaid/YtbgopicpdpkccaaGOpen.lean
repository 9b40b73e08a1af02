/- quorum: acts as they are read from the arguments. -/
import Derived.Test.YtbgopicpdpkccaaGLift
namespace Go.Proofs.Ytbgopicpdpkccaa
open Go.RowKit Go.Deep Go.ChangeShapes
set_option linter.unusedVariables false
set_option linter.unusedSimpArgs false

theorem cof_int : Try.prog.cellsOf 3 = 1 := by kernel_rfl
theorem cof_str : Try.prog.cellsOf 9 = 1 := by kernel_rfl
theorem cof_act : Try.prog.cellsOf 32 = 4 := by kernel_rfl
section
variable {H : Type} {enc : TypeId × Value → H} {w : World} {base : Nat} {spare : Nat → Bool} {held : Bool} {fuel : Nat} {cs : List Value} {x : DataW H × List MemPlace}

theorem fieldAt {fs : Array Field} {xs : List (DataW H × List MemPlace)} {n : Nat} (hf : ∀ (i : Nat) (f : Field), fs[i]? = some f → DataW.trod enc Try.prog w base spare held n f.type ((cs.drop f.offset).take (Try.prog.cellsOf f.type)) = xs[i]?) (i : Nat) {f : Field} (T : TypeId) (o k : Nat) {y : DataW H × List MemPlace}
    (hi : fs[i]? = some f) (hT : f.type = T) (ho : f.offset = o) (hc : Try.prog.cellsOf T = k) (hx : xs[i]? = some y) : DataW.trod enc Try.prog w base spare held n T ((cs.drop o).take k) = some y := by
  have := hf i f hi
  rw [hT, ho, hc, hx] at this
  exact this
theorem sum_ones {α : Type} (l : List α) : (l.map fun _ => 1).sum = l.length := by
  induction l with
  | nil => rfl
  | cons a l ih => rw [List.map_cons, List.sum_cons, ih, List.length_cons]; omega

set_option maxRecDepth 100000 in
theorem open_act (h : DataW.trod enc Try.prog w base spare held fuel 32 cs = some x) : ∃ a : GA, cs = gcells a ∧ True ∧ a.text.size + 1 ≤ Rows.uptoBulk x.1 := by
  obtain ⟨xs, n, _, rfl, hl, hlen, hf⟩ := DataW.trod_struct Try.underlying32 h
  rw [cof_act] at hl
  match cs, hl, xs, hlen with
  | [c0, c1, c2, c3], _, [y0, y1, y2, y3], _ =>
    have h0 := fieldAt hf 0 3 0 1 (y := y0) rfl rfl rfl cof_int rfl
    have h1 := fieldAt hf 1 3 1 1 (y := y1) rfl rfl rfl cof_int rfl
    have h2 := fieldAt hf 2 3 2 1 (y := y2) rfl rfl rfl cof_int rfl
    have h3 := fieldAt hf 3 9 3 1 (y := y3) rfl rfl rfl cof_str rfl
    obtain ⟨kind, e0, r0, _⟩ := DataW.trod_int Try.underlying3 (x := y0) h0
    obtain ⟨m, e1, r1, _⟩ := DataW.trod_int Try.underlying3 (x := y1) h1
    obtain ⟨sl, e2, r2, _⟩ := DataW.trod_int Try.underlying3 (x := y2) h2
    obtain ⟨s, e3, r3, _⟩ := DataW.trod_string Try.underlying9 (x := y3) h3
    simp at e0 e1 e2 e3
    subst e0 e1 e2 e3
    refine ⟨⟨kind, m, sl, s⟩, rfl, trivial, ?_⟩
    rw [r3]
    simp only [Rows.uptoBulk, Rows.uptoBulkAll, List.map_cons, List.map_nil]
    have : s.data.toList.length = s.size := Array.length_toList
    omega
theorem sum_succ (us : List GA) : (us.map fun a => a.text.size + 1).sum = txts us + us.length := by
  unfold txts
  induction us with
  | nil => rfl
  | cons a l ih => rw [List.map_cons, List.sum_cons, List.map_cons, List.sum_cons, List.length_cons, ih]; omega
theorem open_acts (h : DataW.trod enc Try.prog w base spare held fuel 25 cs = some x) :
    ∃ (A : Option Addr) (us : List GA) (c : Nat), cs = [.slice A us.length c] ∧ GActs w A us ∧ txts us + us.length + 1 ≤ Rows.uptoBulk x.1 := by
  obtain ⟨A, l, c, e, hr, ho, hb⟩ := open_rows gcells (fun a => a.text.size + 1) (fun _ => True) 4 (by omega) (fun _ => rfl) Try.underlying25 cof_act (fun n cs' y hy => open_act hy) h
  exact ⟨A, l, c, e, hr, by rw [sum_succ] at hb; omega⟩
end
section
variable {H : Type} {enc : TypeId × Value → H} {P : Program} {w : World} {base : Nat} {spare : Nat → Bool} {held : Bool}
theorem trodAll_five {t0 t1 t2 t3 t4 : TypeId} {args : Array Value} {ds : List (DataW H)} {ps : List MemPlace} (h : DataW.TrodAll enc P w base spare held [t0, t1, t2, t3, t4] args.toList ds ps) :
    ∃ v0 v1 v2 v3 v4 d0 d1 d2 d3 d4 p0 p1 p2 p3 p4, args = #[v0, v1, v2, v3, v4] ∧ ds = [d0, d1, d2, d3, d4] ∧ ps = p0 ++ p1 ++ p2 ++ p3 ++ p4 ∧ DataW.Trod enc P w base spare held t0 v0 d0 p0 ∧ DataW.Trod enc P w base spare held t1 v1 d1 p1 ∧ DataW.Trod enc P w base spare held t2 v2 d2 p2 ∧ DataW.Trod enc P w base spare held t3 v3 d3 p3 ∧ DataW.Trod enc P w base spare held t4 v4 d4 p4 := by
  obtain ⟨v0, vs0, d0, ds0, p0, q0, hargs, rfl, rfl, h0, r0⟩ := trodAll_cons h
  obtain ⟨v1, vs1, d1, ds1, p1, q1, rfl, rfl, rfl, h1, r1⟩ := trodAll_cons r0
  obtain ⟨v2, vs2, d2, ds2, p2, q2, rfl, rfl, rfl, h2, r2⟩ := trodAll_cons r1
  obtain ⟨v3, vs3, d3, ds3, p3, q3, rfl, rfl, rfl, h3, r3⟩ := trodAll_cons r2
  obtain ⟨v4, vs4, d4, ds4, p4, q4, rfl, rfl, rfl, h4, r4⟩ := trodAll_cons r3
  obtain ⟨rfl, rfl, rfl⟩ := trodAll_nil r4
  exact ⟨v0, v1, v2, v3, v4, d0, d1, d2, d3, d4, p0, p1, p2, p3, p4, by cases args; simp_all, rfl, by simp, h0, h1, h2, h3, h4⟩
end

end Go.Proofs.Ytbgopicpdpkccaa

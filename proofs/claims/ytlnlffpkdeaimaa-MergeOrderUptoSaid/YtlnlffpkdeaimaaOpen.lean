/- Values, plans, batches as they are read from the arguments. -/
import Derived.Test.YtlnlffpkdeaimaaLift
namespace Go.Proofs.Ytlnlffpkdeaimaa
open Go.RowKit Go.Deep Go.ChangeShapes
set_option linter.unusedVariables false
set_option linter.unusedSimpArgs false

theorem cof_int : Try.prog.cellsOf 3 = 1 := by kernel_rfl
theorem cof_i64 : Try.prog.cellsOf 2 = 1 := by kernel_rfl
theorem cof_u64 : Try.prog.cellsOf 63 = 1 := by kernel_rfl
theorem cof_str : Try.prog.cellsOf 9 = 1 := by kernel_rfl
theorem cof_vals : Try.prog.cellsOf 64 = 1 := by kernel_rfl
theorem cof_strs : Try.prog.cellsOf 67 = 1 := by kernel_rfl
theorem cof_plans : Try.prog.cellsOf 32 = 1 := by kernel_rfl
theorem cof_val : Try.prog.cellsOf 88 = 3 := by kernel_rfl
theorem cof_req : Try.prog.cellsOf 66 = 4 := by kernel_rfl
theorem cof_foot : Try.prog.cellsOf 69 = 2 := by kernel_rfl
theorem cof_plan : Try.prog.cellsOf 71 = 7 := by kernel_rfl
theorem cof_batch : Try.prog.cellsOf 34 = 2 := by kernel_rfl

section
variable {H : Type} {enc : TypeId × Value → H} {w : World} {base : Nat} {spare : Nat → Bool} {held : Bool} {fuel : Nat} {cs : List Value} {x : DataW H × List MemPlace}

theorem fieldAt {fs : Array Field} {xs : List (DataW H × List MemPlace)} {n : Nat} (hf : ∀ (i : Nat) (f : Field), fs[i]? = some f → DataW.trod enc Try.prog w base spare held n f.type ((cs.drop f.offset).take (Try.prog.cellsOf f.type)) = xs[i]?) (i : Nat) {f : Field} (T : TypeId) (o k : Nat) {y : DataW H × List MemPlace}
    (hi : fs[i]? = some f) (hT : f.type = T) (ho : f.offset = o) (hc : Try.prog.cellsOf T = k) (hx : xs[i]? = some y) : DataW.trod enc Try.prog w base spare held n T ((cs.drop o).take k) = some y := by
  have := hf i f hi
  rw [hT, ho, hc, hx] at this
  exact this
theorem sum_ones {α : Type} (l : List α) : (l.map fun _ => 1).sum = l.length := by
  induction l with
  | nil => rfl
  | cons a l ih => rw [List.map_cons, List.sum_cons, ih, List.length_cons]; omega

theorem open_val (h : DataW.trod enc Try.prog w base spare held fuel 88 cs = some x) : ∃ v : Val, cs = v.cells ∧ True ∧ 1 ≤ Rows.uptoBulk x.1 := by
  obtain ⟨xs, n, _, rfl, hl, hlen, hf⟩ := DataW.trod_struct Try.underlying88 h
  rw [cof_val] at hl
  match cs, hl, xs, hlen with
  | [c0, c1, c2], _, [y0, y1, y2], _ =>
    have h0 := fieldAt hf 0 3 0 1 (y := y0) rfl rfl rfl cof_int rfl
    have h1 := fieldAt hf 1 2 1 1 (y := y1) rfl rfl rfl cof_i64 rfl
    have h2 := fieldAt hf 2 9 2 1 (y := y2) rfl rfl rfl cof_str rfl
    obtain ⟨k, e0, r0, _⟩ := DataW.trod_int Try.underlying3 (x := y0) h0
    obtain ⟨i, e1, r1, _⟩ := DataW.trod_int Try.underlying2 (x := y1) h1
    obtain ⟨s, e2, r2, _⟩ := DataW.trod_string Try.underlying9 (x := y2) h2
    simp at e0 e1 e2
    subst e0 e1 e2
    exact ⟨⟨k, i, s⟩, rfl, trivial, by simp [Rows.uptoBulk]⟩

theorem open_texts (h : DataW.trod enc Try.prog w base spare held fuel 67 cs = some x) :
    ∃ (A : Option Addr) (l : List ByteArray) (c : Nat), cs = [.slice A l.length c] ∧ Rd (fun b => b < w.heap.size) w 1 A l.length (l.map .string) ∧ l.length + 1 ≤ Rows.uptoBulk x.1 := by
  obtain ⟨A, l, c, e, hr, ho, hb⟩ := open_rows (α := ByteArray) (fun s => [Value.string s]) (fun _ => 1) (fun _ => True) 1 (by omega) (fun _ => rfl) Try.underlying67 cof_str (fun n cs' y hy => by
    obtain ⟨s, e, r, _⟩ := DataW.trod_string Try.underlying9 hy
    exact ⟨s, e, trivial, by rw [r]; simp [Rows.uptoBulk]⟩) h
  refine ⟨A, l, c, e, ?_, ?_⟩
  · have : l.flatMap (fun s => [Value.string s]) = l.map .string := by
      clear hr hb e ho
      induction l with
      | nil => rfl
      | cons a l ih => rw [List.flatMap_cons, ih]; rfl
    rw [← this]; exact hr
  · have := sum_ones l
    omega

theorem open_vals (h : DataW.trod enc Try.prog w base spare held fuel 64 cs = some x) :
    ∃ (A : Option Addr) (l : List Val) (c : Nat), cs = [.slice A l.length c] ∧ Rd (fun b => b < w.heap.size) w 3 A l.length (vcells l) ∧ l.length + 1 ≤ Rows.uptoBulk x.1 := by
  obtain ⟨A, l, c, e, hr, _, hb⟩ := open_rows (α := Val) Val.cells (fun _ => 1) (fun _ => True) 3 (by omega) (fun _ => rfl) Try.underlying64 cof_val (fun n cs' y hy => open_val hy) h
  have := sum_ones l
  exact ⟨A, l, c, e, hr, by omega⟩

theorem open_plan (h : DataW.trod enc Try.prog w base spare held fuel 71 cs = some x) : ∃ r : RP, cs = r.cells ∧ r.ok (fun b => b < w.heap.size) w ∧ partN r ≤ Rows.uptoBulk x.1 := by
  obtain ⟨xs, n, _, rfl, hl, hlen, hf⟩ := DataW.trod_struct Try.underlying71 h
  rw [cof_plan] at hl
  match cs, hl, xs, hlen with
  | [c0, c1, c2, c3, c4, c5, c6], _, [y0, y1, y2], _ =>
    have h0 := fieldAt hf 0 66 0 4 (y := y0) rfl rfl rfl cof_req rfl
    have h1 := fieldAt hf 1 3 4 1 (y := y1) rfl rfl rfl cof_int rfl
    have h2 := fieldAt hf 2 69 5 2 (y := y2) rfl rfl rfl cof_foot rfl
    obtain ⟨xs0, n0, _, rfl, _, hlen0, hf0⟩ := DataW.trod_struct Try.underlying66 (x := y0) h0
    obtain ⟨how, e4, r4, _⟩ := DataW.trod_int Try.underlying3 (x := y1) h1
    obtain ⟨xs2, n2, _, rfl, _, hlen2, hf2⟩ := DataW.trod_struct Try.underlying69 (x := y2) h2
    match xs0, hlen0, xs2, hlen2 with
    | [z0, z1, z2, z3], _, [u0, u1], _ =>
      have g0 := fieldAt hf0 0 3 0 1 (y := z0) rfl rfl rfl cof_int rfl
      have g1 := fieldAt hf0 1 63 1 1 (y := z1) rfl rfl rfl cof_u64 rfl
      have g2 := fieldAt hf0 2 9 2 1 (y := z2) rfl rfl rfl cof_str rfl
      have g3 := fieldAt hf0 3 64 3 1 (y := z3) rfl rfl rfl cof_vals rfl
      have k0 := fieldAt hf2 0 67 0 1 (y := u0) rfl rfl rfl cof_strs rfl
      have k1 := fieldAt hf2 1 67 1 1 (y := u1) rfl rfl rfl cof_strs rfl
      obtain ⟨cl, e0, r0, _⟩ := DataW.trod_int Try.underlying3 (x := z0) g0
      obtain ⟨tok, e1, r1, _⟩ := DataW.trod_int Try.underlying63 (x := z1) g1
      obtain ⟨nm, e2, r2, _⟩ := DataW.trod_string Try.underlying9 (x := z2) g2
      obtain ⟨A1, args, d1, e3, q3, b3⟩ := open_vals (x := z3) g3
      obtain ⟨A2, rd, d2, e5, q5, b5⟩ := open_texts (x := u0) k0
      obtain ⟨A3, wr, d3, e6, q6, b6⟩ := open_texts (x := u1) k1
      simp at e0 e1 e2 e3 e4 e5 e6
      subst e0 e1 e2 e3 e4 e5 e6
      refine ⟨⟨⟨cl, tok, nm, args, how, rd, wr⟩, A1, d1, A2, d2, A3, d3⟩, rfl, ⟨q3, q5, q6⟩, ?_⟩
      simp only [partN, Rows.uptoBulk, Rows.uptoBulkAll, List.map_cons, List.map_nil]
      omega

theorem open_plans (h : DataW.trod enc Try.prog w base spare held fuel 32 cs = some x) :
    ∃ (A : Option Addr) (rs : List RP) (c : Nat), cs = [.slice A rs.length c] ∧ PlansOk (fun b => b < w.heap.size) w A rs ∧ partsL rs ≤ Rows.uptoBulk x.1 := by
  obtain ⟨A, l, c, e, hr, ho, hb⟩ := open_rows RP.cells partN (fun r => r.ok (fun b => b < w.heap.size) w) 7 (by omega) (fun _ => rfl) Try.underlying32 cof_plan (fun n cs' y hy => open_plan hy) h
  exact ⟨A, l, c, e, ⟨hr, ho⟩, by unfold partsL; omega⟩

theorem open_batch (h : DataW.trod enc Try.prog w base spare held fuel 34 cs = some x) :
    ∃ (e : Int) (A : Option Addr) (rs : List RP) (c : Nat), cs = [.int .i64 e, .slice A rs.length c] ∧ e ≤ 9223372036854775807 ∧ PlansOk (fun b => b < w.heap.size) w A rs ∧ partsL rs ≤ Rows.uptoBulk x.1 := by
  obtain ⟨xs, n, _, rfl, hl, hlen, hf⟩ := DataW.trod_struct Try.underlying34 h
  rw [cof_batch] at hl
  match cs, hl, xs, hlen with
  | [c0, c1], _, [y0, y1], _ =>
    have h0 := fieldAt hf 0 2 0 1 (y := y0) rfl rfl rfl cof_i64 rfl
    have h1 := fieldAt hf 1 32 1 1 (y := y1) rfl rfl rfl cof_plans rfl
    obtain ⟨e, e0, r0, hw⟩ := DataW.trod_int Try.underlying2 (x := y0) h0
    obtain ⟨A, rs, c, e1, ho, hb⟩ := open_plans (x := y1) h1
    simp at e0 e1
    subst e0 e1
    have hw' : e ≤ IntKind.i64.max := by
      unfold Lit.wf at hw
      simp at hw
      exact hw.2
    exact ⟨e, A, rs, c, rfl, hw', ho, by simp only [Rows.uptoBulk, Rows.uptoBulkAll, List.map_cons, List.map_nil]; omega⟩

theorem partsL_mem {rs : List RP} {r : RP} (h : r ∈ rs) : partN r + 1 ≤ partsL rs := by
  have : ∀ l : List RP, r ∈ l → partN r ≤ (l.map partN).sum := by
    intro l
    induction l with
    | nil => intro h; cases h
    | cons a l ih =>
      intro h
      rw [List.map_cons, List.sum_cons]
      rcases List.mem_cons.1 h with rfl | h
      · omega
      · have := ih h; omega
  have := this rs h
  unfold partsL; omega
theorem partsL_len (rs : List RP) : rs.length + 1 ≤ partsL rs := by
  unfold partsL
  induction rs with
  | nil => simp
  | cons a l ih => rw [List.map_cons, List.sum_cons, List.length_cons]; have : 1 ≤ partN a := (by unfold partN; omega); omega
theorem partsL_fits {rs : List RP} (h : partsL rs ≤ 1000000000) : rs.length ≤ 1000000000 ∧ ∀ r ∈ rs, r.p.fits := by
  refine ⟨by have := partsL_len rs; omega, fun r hr => ?_⟩
  have := partsL_mem hr
  unfold partN at this
  exact ⟨by omega, by omega, by omega⟩
end

end Go.Proofs.Ytlnlffpkdeaimaa

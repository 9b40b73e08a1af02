/- Values, plans, batches as they are read from the arguments. -/
import Derived.Test.YtppcjaljhahdnaaQLift
namespace Go.Proofs.Ytppcjaljhahdnaa
open Go.RowKit Go.Deep Go.ChangeShapes
set_option linter.unusedVariables false
set_option linter.unusedSimpArgs false

theorem cof_int : Try.prog.cellsOf 3 = 1 := by kernel_rfl
theorem cof_i64 : Try.prog.cellsOf 2 = 1 := by kernel_rfl
theorem cof_u64 : Try.prog.cellsOf 32 = 1 := by kernel_rfl
theorem cof_str : Try.prog.cellsOf 9 = 1 := by kernel_rfl
theorem cof_vals : Try.prog.cellsOf 33 = 1 := by kernel_rfl
theorem cof_strs : Try.prog.cellsOf 36 = 1 := by kernel_rfl
theorem cof_val : Try.prog.cellsOf 86 = 3 := by kernel_rfl
theorem cof_req : Try.prog.cellsOf 35 = 4 := by kernel_rfl
theorem cof_foot : Try.prog.cellsOf 38 = 2 := by kernel_rfl
theorem cof_plan : Try.prog.cellsOf 40 = 7 := by kernel_rfl
theorem cof_act : Try.prog.cellsOf 42 = 11 := by kernel_rfl
theorem cof_acts : Try.prog.cellsOf 22 = 1 := by kernel_rfl
theorem cof_story : Try.prog.cellsOf 24 = 4 := by kernel_rfl
def partN (r : RP) : Nat := 1 + r.p.args.length + r.p.rd.length + r.p.wr.length

section
variable {H : Type} {enc : TypeId × Value → H} {w : World} {base : Nat} {spare : Nat → Bool} {held : Bool} {fuel : Nat} {cs : List Value} {x : DataW H × List MemPlace}

theorem fieldAt {fs : Array Field} {xs : List (DataW H × List MemPlace)} {n : Nat} (hf : ∀ (i : Nat) (f : Field), fs[i]? = some f → DataW.trod enc Try.prog w base spare held n f.type ((cs.drop f.offset).take (Try.prog.cellsOf f.type)) = xs[i]?) (i : Nat) {f : Field} (T : TypeId) (o k : Nat) {y : DataW H × List MemPlace}
    (hi : fs[i]? = some f) (hT : f.type = T) (ho : f.offset = o) (hc : Try.prog.cellsOf T = k) (hx : xs[i]? = some y) : DataW.trod enc Try.prog w base spare held n T ((cs.drop o).take k) = some y := by
  have := hf i f hi
  rw [hT, ho, hc, hx] at this
  exact this
theorem sum_ones {α : Type} (l : List α) : (l.map fun _ => 1).sum = l.length := by
  induction l with
  | nil => rfl
  | cons a l ih => rw [List.map_cons, List.sum_cons, ih, List.length_cons]; omega

theorem open_val (h : DataW.trod enc Try.prog w base spare held fuel 86 cs = some x) : ∃ v : Val, cs = v.cells ∧ True ∧ 1 ≤ Rows.uptoBulk x.1 := by
  obtain ⟨xs, n, _, rfl, hl, hlen, hf⟩ := DataW.trod_struct Try.underlying86 h
  rw [cof_val] at hl
  match cs, hl, xs, hlen with
  | [c0, c1, c2], _, [y0, y1, y2], _ =>
    have h0 := fieldAt hf 0 3 0 1 (y := y0) rfl rfl rfl cof_int rfl
    have h1 := fieldAt hf 1 2 1 1 (y := y1) rfl rfl rfl cof_i64 rfl
    have h2 := fieldAt hf 2 9 2 1 (y := y2) rfl rfl rfl cof_str rfl
    obtain ⟨k, e0, r0, _⟩ := DataW.trod_int Try.underlying3 (x := y0) h0
    obtain ⟨i, e1, r1, _⟩ := DataW.trod_int Try.underlying2 (x := y1) h1
    obtain ⟨s, e2, r2, _⟩ := DataW.trod_string Try.underlying9 (x := y2) h2
    simp at e0 e1 e2
    subst e0 e1 e2
    exact ⟨⟨k, i, s⟩, rfl, trivial, by simp [Rows.uptoBulk]⟩

theorem open_texts (h : DataW.trod enc Try.prog w base spare held fuel 36 cs = some x) :
    ∃ (A : Option Addr) (l : List ByteArray) (c : Nat), cs = [.slice A l.length c] ∧ Rd (fun b => b < w.heap.size) w 1 A l.length (l.map .string) ∧ l.length + 1 ≤ Rows.uptoBulk x.1 := by
  obtain ⟨A, l, c, e, hr, ho, hb⟩ := open_rows (α := ByteArray) (fun s => [Value.string s]) (fun _ => 1) (fun _ => True) 1 (by omega) (fun _ => rfl) Try.underlying36 cof_str (fun n cs' y hy => by
    obtain ⟨s, e, r, _⟩ := DataW.trod_string Try.underlying9 hy
    exact ⟨s, e, trivial, by rw [r]; simp [Rows.uptoBulk]⟩) h
  refine ⟨A, l, c, e, ?_, ?_⟩
  · have : l.flatMap (fun s => [Value.string s]) = l.map .string := by
      clear hr hb e ho
      induction l with
      | nil => rfl
      | cons a l ih => rw [List.flatMap_cons, ih]; rfl
    rw [← this]; exact hr
  · have := sum_ones l
    omega

theorem open_vals (h : DataW.trod enc Try.prog w base spare held fuel 33 cs = some x) :
    ∃ (A : Option Addr) (l : List Val) (c : Nat), cs = [.slice A l.length c] ∧ Rd (fun b => b < w.heap.size) w 3 A l.length (vcells l) ∧ l.length + 1 ≤ Rows.uptoBulk x.1 := by
  obtain ⟨A, l, c, e, hr, _, hb⟩ := open_rows (α := Val) Val.cells (fun _ => 1) (fun _ => True) 3 (by omega) (fun _ => rfl) Try.underlying33 cof_val (fun n cs' y hy => open_val hy) h
  have := sum_ones l
  exact ⟨A, l, c, e, hr, by omega⟩

theorem open_plan (h : DataW.trod enc Try.prog w base spare held fuel 40 cs = some x) : ∃ r : RP, cs = r.cells ∧ r.ok (fun b => b < w.heap.size) w ∧ partN r ≤ Rows.uptoBulk x.1 := by
  obtain ⟨xs, n, _, rfl, hl, hlen, hf⟩ := DataW.trod_struct Try.underlying40 h
  rw [cof_plan] at hl
  match cs, hl, xs, hlen with
  | [c0, c1, c2, c3, c4, c5, c6], _, [y0, y1, y2], _ =>
    have h0 := fieldAt hf 0 35 0 4 (y := y0) rfl rfl rfl cof_req rfl
    have h1 := fieldAt hf 1 3 4 1 (y := y1) rfl rfl rfl cof_int rfl
    have h2 := fieldAt hf 2 38 5 2 (y := y2) rfl rfl rfl cof_foot rfl
    obtain ⟨xs0, n0, _, rfl, _, hlen0, hf0⟩ := DataW.trod_struct Try.underlying35 (x := y0) h0
    obtain ⟨how, e4, r4, _⟩ := DataW.trod_int Try.underlying3 (x := y1) h1
    obtain ⟨xs2, n2, _, rfl, _, hlen2, hf2⟩ := DataW.trod_struct Try.underlying38 (x := y2) h2
    match xs0, hlen0, xs2, hlen2 with
    | [z0, z1, z2, z3], _, [u0, u1], _ =>
      have g0 := fieldAt hf0 0 3 0 1 (y := z0) rfl rfl rfl cof_int rfl
      have g1 := fieldAt hf0 1 32 1 1 (y := z1) rfl rfl rfl cof_u64 rfl
      have g2 := fieldAt hf0 2 9 2 1 (y := z2) rfl rfl rfl cof_str rfl
      have g3 := fieldAt hf0 3 33 3 1 (y := z3) rfl rfl rfl cof_vals rfl
      have k0 := fieldAt hf2 0 36 0 1 (y := u0) rfl rfl rfl cof_strs rfl
      have k1 := fieldAt hf2 1 36 1 1 (y := u1) rfl rfl rfl cof_strs rfl
      obtain ⟨cl, e0, r0, _⟩ := DataW.trod_int Try.underlying3 (x := z0) g0
      obtain ⟨tok, e1, r1, _⟩ := DataW.trod_int Try.underlying32 (x := z1) g1
      obtain ⟨nm, e2, r2, _⟩ := DataW.trod_string Try.underlying9 (x := z2) g2
      obtain ⟨A1, args, d1, e3, q3, b3⟩ := open_vals (x := z3) g3
      obtain ⟨A2, rd, d2, e5, q5, b5⟩ := open_texts (x := u0) k0
      obtain ⟨A3, wr, d3, e6, q6, b6⟩ := open_texts (x := u1) k1
      simp at e0 e1 e2 e3 e4 e5 e6
      subst e0 e1 e2 e3 e4 e5 e6
      refine ⟨⟨⟨cl, tok, nm, args, how, rd, wr⟩, A1, d1, A2, d2, A3, d3⟩, rfl, ⟨q3, q5, q6⟩, ?_⟩
      simp only [partN, Rows.uptoBulk, Rows.uptoBulkAll, List.map_cons, List.map_nil]
      omega

theorem open_act (h : DataW.trod enc Try.prog w base spare held fuel 42 cs = some x) : ∃ a : QA, cs = qcells a ∧ a.r.ok (fun b => b < w.heap.size) w ∧ partQ a + 1 ≤ Rows.uptoBulk x.1 := by
  obtain ⟨xs, n, _, rfl, hl, hlen, hf⟩ := DataW.trod_struct Try.underlying42 h
  rw [cof_act] at hl
  match cs, hl, xs, hlen with
  | [c0, c1, c2, c3, c4, c5, c6, c7, c8, c9, c10], _, [y0, y1, y2, y3, y4], _ =>
    have h0 := fieldAt hf 0 3 0 1 (y := y0) rfl rfl rfl cof_int rfl
    have h1 := fieldAt hf 1 40 1 7 (y := y1) rfl rfl rfl cof_plan rfl
    have h2 := fieldAt hf 2 3 8 1 (y := y2) rfl rfl rfl cof_int rfl
    have h3 := fieldAt hf 3 3 9 1 (y := y3) rfl rfl rfl cof_int rfl
    have h4 := fieldAt hf 4 32 10 1 (y := y4) rfl rfl rfl cof_u64 rfl
    obtain ⟨kind, e0, r0, _⟩ := DataW.trod_int Try.underlying3 (x := y0) h0
    obtain ⟨r, e1, hr, hb⟩ := open_plan (x := y1) h1
    obtain ⟨i, e2, r2, _⟩ := DataW.trod_int Try.underlying3 (x := y2) h2
    obtain ⟨cl, e3, r3, _⟩ := DataW.trod_int Try.underlying3 (x := y3) h3
    obtain ⟨tok, e4, r4, _⟩ := DataW.trod_int Try.underlying32 (x := y4) h4
    simp [RP.cells] at e0 e1 e2 e3 e4
    obtain ⟨f1, f2, f3, f4, f5, f6, f7⟩ := e1
    subst e0 e2 e3 e4 f1 f2 f3 f4 f5 f6 f7
    refine ⟨⟨kind, r, i, cl, tok⟩, rfl, hr, ?_⟩
    simp only [partQ, Rows.uptoBulk, Rows.uptoBulkAll, List.map_cons, List.map_nil]
    unfold partN at hb
    omega
theorem parts_one (us : List QA) : (us.map fun a => partQ a + 1).sum = partsQ us + us.length := by
  unfold partsQ
  induction us with
  | nil => rfl
  | cons a l ih => rw [List.map_cons, List.sum_cons, List.map_cons, List.sum_cons, List.length_cons, ih]; omega
theorem open_acts (h : DataW.trod enc Try.prog w base spare held fuel 22 cs = some x) :
    ∃ (A : Option Addr) (us : List QA) (c : Nat), cs = [.slice A us.length c] ∧ QActs (fun b => b < w.heap.size) w A us ∧ partsQ us + us.length ≤ Rows.uptoBulk x.1 := by
  obtain ⟨A, l, c, e, hr, ho, hb⟩ := open_rows qcells (fun a => partQ a + 1) (fun a => a.r.ok (fun b => b < w.heap.size) w) 11 (by omega) (fun _ => rfl) Try.underlying22 cof_act (fun n cs' y hy => open_act hy) h
  exact ⟨A, l, c, e, ⟨hr, ho⟩, by rw [parts_one] at hb; omega⟩
theorem open_story (h : DataW.trod enc Try.prog w base spare held fuel 24 cs = some x) :
    ∃ (m s n : Int) (A : Option Addr) (us : List QA) (c : Nat), cs = [.int .i64 m, .int .i64 s, .int .i64 n, .slice A us.length c] ∧ QActs (fun b => b < w.heap.size) w A us ∧ partsQ us + us.length ≤ Rows.uptoBulk x.1 := by
  obtain ⟨xs, k, _, rfl, hl, hlen, hf⟩ := DataW.trod_struct Try.underlying24 h
  rw [cof_story] at hl
  match cs, hl, xs, hlen with
  | [c0, c1, c2, c3], _, [y0, y1, y2, y3], _ =>
    have h0 := fieldAt hf 0 3 0 1 (y := y0) rfl rfl rfl cof_int rfl
    have h1 := fieldAt hf 1 3 1 1 (y := y1) rfl rfl rfl cof_int rfl
    have h2 := fieldAt hf 2 3 2 1 (y := y2) rfl rfl rfl cof_int rfl
    have h3 := fieldAt hf 3 22 3 1 (y := y3) rfl rfl rfl cof_acts rfl
    obtain ⟨m, e0, r0, _⟩ := DataW.trod_int Try.underlying3 (x := y0) h0
    obtain ⟨s, e1, r1, _⟩ := DataW.trod_int Try.underlying3 (x := y1) h1
    obtain ⟨n, e2, r2, _⟩ := DataW.trod_int Try.underlying3 (x := y2) h2
    obtain ⟨A, us, c, e3, ho, hb⟩ := open_acts (x := y3) h3
    simp at e0 e1 e2 e3
    subst e0 e1 e2 e3
    exact ⟨m, s, n, A, us, c, rfl, ho, by simp only [Rows.uptoBulk, Rows.uptoBulkAll, List.map_cons, List.map_nil]; omega⟩
theorem partsQ_mem {us : List QA} {a : QA} (h : a ∈ us) : partQ a ≤ partsQ us := by
  have : ∀ l : List QA, a ∈ l → partQ a ≤ (l.map partQ).sum := by
    intro l
    induction l with
    | nil => intro h; cases h
    | cons b l ih =>
      intro h
      rw [List.map_cons, List.sum_cons]
      rcases List.mem_cons.1 h with rfl | h
      · omega
      · have := ih h; omega
  exact this us h
end

end Go.Proofs.Ytppcjaljhahdnaa

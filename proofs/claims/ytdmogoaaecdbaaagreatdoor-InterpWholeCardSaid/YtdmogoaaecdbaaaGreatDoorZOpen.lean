/- interp: a job as it is read from the arguments. -/
import Derived.Test.YtdmogoaaecdbaaaGreatDoorJ21
namespace Go.Proofs.YtdmogoaaecdbaaaGreatDoor
open Go.RowKit Go.Deep Go.ChangeShapes
set_option linter.unusedVariables false
set_option linter.unusedSimpArgs false
set_option maxRecDepth 10000

section
variable {H : Type} {enc : TypeId × Value → H} {w : World} {base : Nat} {spare : Nat → Bool} {held : Bool} {fuel : Nat} {cs : List Value} {x : DataW H × List MemPlace}
theorem cof_ins : Tryz.prog.cellsOf 69 = 2 := by kernel_rfl
theorem cof_inss : Tryz.prog.cellsOf 31 = 1 := by kernel_rfl
theorem cof_prc : Tryz.prog.cellsOf 33 = 3 := by kernel_rfl
theorem byt_ins : Tryz.prog.bytesOf 69 = 16 := by kernel_rfl
theorem open_is (h : DataW.trod enc Tryz.prog w base spare held fuel 69 cs = some x) : ∃ v : Is, cs = v.cells ∧ True := by
  obtain ⟨xs, n, _, rfl, hl, hlen, hf⟩ := DataW.trod_struct Tryz.underlying69 h
  rw [cof_ins] at hl
  obtain ⟨c0, c1, rfl⟩ := list2 hl
  obtain ⟨y0, y1, rfl⟩ := list2 hlen
  have h0 := fieldAt hf 0 3 0 1 (y := y0) rfl rfl rfl cof_int rfl
  have h1 := fieldAt hf 1 3 1 1 (y := y1) rfl rfl rfl cof_int rfl
  obtain ⟨k, e0, r0, _⟩ := DataW.trod_int Tryz.underlying3 (x := y0) h0
  obtain ⟨i, e1, r1, w1⟩ := DataW.trod_int Tryz.underlying3 (x := y1) h1
  simp at e0 e1
  subst e0 e1 r0 r1
  exact ⟨⟨k, i⟩, rfl, trivial⟩
/-- a program of the arguments -/
structure PrArg (w : World) (A1 A2 : Option Addr) (p : Pr) : Prop where
  c : Rd (fun b => b < w.heap.size) w 3 A1 p.cs.length (vcells p.cs)
  i : Rd (fun b => b < w.heap.size) w 2 A2 p.code.length (icells p.code)
  v : ∀ v ∈ p.cs, v.rng ∧ v.s.size ≤ big
  n : p.cs.length ≤ 1000000000000000 ∧ p.code.length ≤ 1000000000000000
theorem PrArg.prIn {w : World} {A1 A2 : Option Addr} {p : Pr} (h : PrArg w A1 A2 p) (hl : p.code.length + p.cs.length ≤ 2000) : PrIn (fun b => b < w.heap.size) w A1 A2 p :=
  ⟨h.c, h.i, fun v hv => by have := (h.v v hv).2; unfold big at this; omega, by omega⟩
theorem open_pr (h : DataW.trod enc Tryz.prog w base spare held fuel 33 cs = some x) (hw : WB (x.1.weights Tryz.prog 33)) :
    ∃ (p : Pr) (A1 A2 : Option Addr) (c1 c2 : Nat), cs = [.int .i64 p.args, .slice A1 p.cs.length c1, .slice A2 p.code.length c2] ∧ PrArg w A1 A2 p := by
  obtain ⟨xs, n, _, rfl, hl, hlen, hf⟩ := DataW.trod_struct Tryz.underlying33 h
  rw [cof_prc] at hl
  obtain ⟨c0, c1, c2, rfl⟩ := list3 hl
  obtain ⟨y0, y1, y2, rfl⟩ := list3 hlen
  have h0 := fieldAt hf 0 3 0 1 (y := y0) rfl rfl rfl cof_int rfl
  have h1 := fieldAt hf 1 23 1 1 (y := y1) rfl rfl rfl cof_vals rfl
  have h2 := fieldAt hf 2 31 2 1 (y := y2) rfl rfl rfl cof_inss rfl
  have hw1 : WB (y1.1.weights Tryz.prog 23) := fun u hu => hw u (by simp [DataW.weights, DataW.weightsEach, Tryz.underlying33, hu])
  have hw2 : WB (y2.1.weights Tryz.prog 31) := fun u hu => hw u (by simp [DataW.weights, DataW.weightsEach, Tryz.underlying33, hu])
  obtain ⟨k, e0, r0, _⟩ := DataW.trod_int Tryz.underlying3 (x := y0) h0
  obtain ⟨A1, vs, d1, e1, hr1, ho1, hb1⟩ := open_rowsS Vl.cells (fun v => v.rng ∧ v.s.size ≤ big) 3 (by omega) (fun _ => rfl) Tryz.underlying23 cof_val (fun n cs' y hy hw => open_vl hy hw) h1 hw1
  obtain ⟨A2, is_, d2, e2, hr2, ho2, hb2⟩ := open_rowsS Is.cells (fun _ => True) 2 (by omega) (fun _ => rfl) Tryz.underlying31 cof_ins (fun n cs' y hy _ => open_is hy) h2 hw2
  rw [byt_val] at hb1
  rw [byt_ins] at hb2
  simp at e0 e1 e2
  subst e0 e1 e2
  exact ⟨⟨k, vs, is_⟩, A1, A2, d1, d2, rfl, hr1, hr2, ho1, by unfold big at hb1 hb2; simp only; omega⟩
theorem cof_itm : Tryz.prog.cellsOf 63 = 4 := by kernel_rfl
theorem cof_itms : Tryz.prog.cellsOf 34 = 1 := by kernel_rfl
theorem cof_job : Tryz.prog.cellsOf 36 = 6 := by kernel_rfl
theorem byt_itm : Tryz.prog.bytesOf 63 = 48 := by kernel_rfl
def kvC (x : Kv) : List Value := [.string x.1, .int .i64 x.2.k, .int .i64 x.2.n, .string x.2.s]
def kvOk (x : Kv) : Prop := x.2.rng ∧ x.2.s.size ≤ big
theorem list4I {α : Type} {l : List α} (h : l.length = 4) : ∃ a b c d, l = [a, b, c, d] := by
  match l, h with
  | [a, b, c, d], _ => exact ⟨a, b, c, d, rfl⟩
theorem list6I {α : Type} {l : List α} (h : l.length = 6) : ∃ a b c d e f, l = [a, b, c, d, e, f] := by
  match l, h with
  | [a, b, c, d, e, f], _ => exact ⟨a, b, c, d, e, f, rfl⟩
set_option maxRecDepth 100000 in
theorem open_kv (h : DataW.trod enc Tryz.prog w base spare held fuel 63 cs = some x) (hw : WB (x.1.weights Tryz.prog 63)) : ∃ y : Kv, cs = kvC y ∧ kvOk y := by
  obtain ⟨xs, n, _, rfl, hl, hlen, hf⟩ := DataW.trod_struct Tryz.underlying63 h
  rw [cof_itm] at hl
  obtain ⟨c0, c1, c2, c3, rfl⟩ := list4I hl
  obtain ⟨y0, y1, rfl⟩ := list2 hlen
  have h0 := fieldAt hf 0 9 0 1 (y := y0) rfl rfl rfl cof_str rfl
  have h1 := fieldAt hf 1 55 1 3 (y := y1) rfl rfl rfl cof_val rfl
  have hw1 : WB (y1.1.weights Tryz.prog 55) := fun u hu => hw u (by simp [DataW.weights, DataW.weightsEach, Tryz.underlying63, hu])
  obtain ⟨k, e0, r0, _⟩ := DataW.trod_string Tryz.underlying9 (x := y0) h0
  obtain ⟨v, e1, hr, hs⟩ := open_vl (x := y1) h1 hw1
  simp [Vl.cells] at e0 e1
  obtain ⟨f1, f2, f3⟩ := e1
  subst e0 f1 f2 f3
  exact ⟨(k, v), rfl, hr, hs⟩
theorem open_kvs (h : DataW.trod enc Tryz.prog w base spare held fuel 34 cs = some x) (hw : WB (x.1.weights Tryz.prog 34)) :
    ∃ (A : Option Addr) (l : List Kv) (c : Nat), cs = [.slice A l.length c] ∧ Rd (fun b => b < w.heap.size) w 4 A l.length (srcCells l) ∧ (∀ x ∈ l, kvOk x) ∧ l.length * 48 ≤ big := by
  obtain ⟨A, l, c, e, hr, ho, hb⟩ := open_rowsS kvC kvOk 4 (by omega) (fun _ => rfl) Tryz.underlying34 cof_itm (fun n cs' y hy hw => open_kv hy hw) h hw
  rw [byt_itm] at hb
  exact ⟨A, l, c, e, hr, ho, hb⟩
/-- a job of the arguments -/
structure JbArg (w : World) (Ac Ai Aa Al : Option Addr) (p : Pr) (args : List Vl) (src : List Kv) : Prop where
  p : PrArg w Ac Ai p
  a : Rd (fun b => b < w.heap.size) w 3 Aa args.length (vcells args)
  s : Rd (fun b => b < w.heap.size) w 4 Al src.length (srcCells src)
  av : ∀ v ∈ args, v.rng ∧ v.s.size ≤ big
  sv : ∀ x ∈ src, kvOk x
  n : args.length ≤ 1000000000000000 ∧ src.length ≤ 1000000000000000
set_option maxRecDepth 100000 in
theorem open_job (h : DataW.trod enc Tryz.prog w base spare held fuel 36 cs = some x) (hw : WB (x.1.weights Tryz.prog 36)) :
    ∃ (p : Pr) (args : List Vl) (src : List Kv) (f : Int) (Ac Ai Aa Al : Option Addr) (cc ci ca cl : Nat), cs = [.int .i64 p.args, .slice Ac p.cs.length cc, .slice Ai p.code.length ci, .slice Aa args.length ca, .slice Al src.length cl, .int .i64 f] ∧ JbArg w Ac Ai Aa Al p args src ∧ -9223372036854775808 ≤ f ∧ f ≤ 9223372036854775807 := by
  obtain ⟨xs, n, _, rfl, hl, hlen, hf⟩ := DataW.trod_struct Tryz.underlying36 h
  rw [cof_job] at hl
  obtain ⟨c0, c1, c2, c3, c4, c5, rfl⟩ := list6I hl
  obtain ⟨y0, y1, y2, y3, rfl⟩ := list4I hlen
  have h0 := fieldAt hf 0 33 0 3 (y := y0) rfl rfl rfl cof_prc rfl
  have h1 := fieldAt hf 1 23 3 1 (y := y1) rfl rfl rfl cof_vals rfl
  have h2 := fieldAt hf 2 34 4 1 (y := y2) rfl rfl rfl cof_itms rfl
  have h3 := fieldAt hf 3 3 5 1 (y := y3) rfl rfl rfl cof_int rfl
  have hw0 : WB (y0.1.weights Tryz.prog 33) := fun u hu => hw u (by simp [DataW.weights, DataW.weightsEach, Tryz.underlying36, hu])
  have hw1 : WB (y1.1.weights Tryz.prog 23) := fun u hu => hw u (by simp [DataW.weights, DataW.weightsEach, Tryz.underlying36, hu])
  have hw2 : WB (y2.1.weights Tryz.prog 34) := fun u hu => hw u (by simp [DataW.weights, DataW.weightsEach, Tryz.underlying36, hu])
  obtain ⟨p, Ac, Ai, cc, ci, e0, hp⟩ := open_pr (x := y0) h0 hw0
  obtain ⟨Aa, args, ca, e1, hr1, ho1, hb1⟩ := open_rowsS Vl.cells (fun v => v.rng ∧ v.s.size ≤ big) 3 (by omega) (fun _ => rfl) Tryz.underlying23 cof_val (fun n cs' y hy hw => open_vl hy hw) h1 hw1
  obtain ⟨Al, src, cl, e2, hr2, ho2, hb2⟩ := open_kvs (x := y2) h2 hw2
  obtain ⟨f, e3, r3, w3⟩ := DataW.trod_int Tryz.underlying3 (x := y3) h3
  rw [byt_val] at hb1
  simp at e0 e1 e2 e3
  obtain ⟨f1, f2, f3⟩ := e0
  subst f1 f2 f3 e1 e2 e3
  unfold big at hb1 hb2
  exact ⟨p, args, src, f, Ac, Ai, Aa, Al, cc, ci, ca, cl, rfl, ⟨hp, hr1, hr2, ho1, ho2, by omega, by omega⟩, wf_i64 w3⟩
end
end Go.Proofs.YtdmogoaaecdbaaaGreatDoor

/- A slice of acts, a slice of ints as arguments. -/
import Derived.Test.YtlnlffpkdeaimaaOpen
namespace Go.Proofs.Ytlnlffpkdeaimaa.acts
open Go.ChangeShapes Go.WideShapes Go.ChangeAt Go.RowKit Go.Proofs.Ytlnlffpkdeaimaa

open Go.Deep
set_option linter.unusedVariables false
theorem cof_bool : Try.prog.cellsOf 4 = 1 := by kernel_rfl
theorem cof_act : Try.prog.cellsOf 36 = 4 := by kernel_rfl

section
variable {H : Type} {enc : TypeId × Value → H} {w : World} {base : Nat} {spare : Nat → Bool} {held : Bool} {fuel : Nat} {cs : List Value} {x : DataW H × List MemPlace}
theorem open_act (h : DataW.trod enc Try.prog w base spare held fuel 36 cs = some x) :
    ∃ a : AR, cs = acells a ∧ (PlansOk (fun b => b < w.heap.size) w a.A a.rs ∧ a.x ≤ 9223372036854775807) ∧ partsL a.rs + 1 ≤ Rows.uptoBulk x.1 := by
  obtain ⟨xs, n, _, rfl, hl, hlen, hf⟩ := DataW.trod_struct Try.underlying36 h
  rw [cof_act] at hl
  match cs, hl, xs, hlen with
  | [c0, c1, c2, c3], _, [y0, y1, y2], _ =>
    have h0 := fieldAt hf 0 4 0 1 (y := y0) rfl rfl rfl cof_bool rfl
    have h1 := fieldAt hf 1 3 1 1 (y := y1) rfl rfl rfl cof_int rfl
    have h2 := fieldAt hf 2 34 2 2 (y := y2) rfl rfl rfl cof_batch rfl
    obtain ⟨tk, e0, r0⟩ := DataW.trod_bool Try.underlying4 (x := y0) h0
    obtain ⟨s, e1, r1, _⟩ := DataW.trod_int Try.underlying3 (x := y1) h1
    obtain ⟨e, A, rs, c, e2, hx, ho, hb⟩ := open_batch (x := y2) h2
    simp at e0 e1 e2
    obtain ⟨e2, e3⟩ := e2
    subst e0 e1 e2 e3
    exact ⟨⟨tk, s, e, A, c, rs⟩, rfl, ⟨ho, hx⟩, by simp only [Rows.uptoBulk, Rows.uptoBulkAll, List.map_cons, List.map_nil]; omega⟩
theorem parts_one (us : List AR) : (us.map fun a => partsL a.rs + 1).sum = partsAll us + us.length := by
  unfold partsAll
  induction us with
  | nil => rfl
  | cons a l ih => rw [List.map_cons, List.sum_cons, List.map_cons, List.sum_cons, List.length_cons, ih]; omega
theorem open_acts (h : DataW.trod enc Try.prog w base spare held fuel 25 cs = some x) :
    ∃ (A : Option Addr) (us : List AR) (c : Nat), cs = [.slice A us.length c] ∧ ActsOk (fun b => b < w.heap.size) w A us ∧ (∀ a ∈ us, a.x ≤ 9223372036854775807) ∧ partsAll us + us.length ≤ Rows.uptoBulk x.1 := by
  obtain ⟨A, l, c, e, hr, ho, hb⟩ := open_rows acells (fun a => partsL a.rs + 1) (fun a => PlansOk (fun b => b < w.heap.size) w a.A a.rs ∧ a.x ≤ 9223372036854775807) 4 (by omega) (fun _ => rfl) Try.underlying25 cof_act (fun n cs' y hy => open_act hy) h
  exact ⟨A, l, c, e, ⟨hr, fun a ha => (ho a ha).1⟩, fun a ha => (ho a ha).2, by rw [parts_one] at hb; omega⟩
end
theorem partsAll_len (us : List AR) : us.length ≤ partsAll us := by
  unfold partsAll
  induction us with
  | nil => simp
  | cons a l ih => rw [List.map_cons, List.sum_cons, List.length_cons]; have := partsL_len a.rs; omega
theorem partsAll_mem {us : List AR} {a : AR} (h : a ∈ us) : partsL a.rs ≤ partsAll us := by
  have : ∀ l : List AR, a ∈ l → partsL a.rs ≤ (l.map fun a => partsL a.rs).sum := by
    intro l
    induction l with
    | nil => intro h; cases h
    | cons b l ih =>
      intro h
      rw [List.map_cons, List.sum_cons]
      rcases List.mem_cons.1 h with rfl | h
      · omega
      · have := ih h; omega
  exact this us h


section
variable {H : Type} {enc : TypeId × Value → H} {w : World} {base : Nat} {spare : Nat → Bool} {held : Bool} {fuel : Nat} {cs : List Value} {x : DataW H × List MemPlace}
theorem flat_one (us : List Int) : us.flatMap (fun a => [Value.int .i64 a]) = us.map (Value.int .i64) := by
  induction us with
  | nil => rfl
  | cons a l ih => rw [List.flatMap_cons, List.map_cons, ih]; rfl
theorem open_turn (h : DataW.trod enc Try.prog w base spare held fuel 26 cs = some x) :
    ∃ (A : Option Addr) (us : List Int) (c : Nat), cs = [.slice A us.length c] ∧ Rd (fun b => b < w.heap.size) w 1 A us.length (us.map (Value.int .i64)) ∧ us.length ≤ Rows.uptoBulk x.1 := by
  obtain ⟨A, l, c, e, hr, _, hb⟩ := open_rows (fun a => [Value.int .i64 a]) (fun _ => 1) (fun _ => True) 1 (by omega) (fun _ => rfl) Try.underlying26 cof_int (fun n cs' y hy => by
    obtain ⟨s, e1, r1, _⟩ := DataW.trod_int Try.underlying3 (x := y) hy
    subst e1 r1
    exact ⟨s, rfl, trivial, by simp [Rows.uptoBulk]⟩) h
  exact ⟨A, l, c, e, flat_one l ▸ hr, by rw [sum_ones] at hb; omega⟩
end

end Go.Proofs.Ytlnlffpkdeaimaa.acts

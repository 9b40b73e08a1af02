/- MergePlays holds where the arguments are of the row's bulk: at every n and every list of acts the law returns true; each argument reads as before. -/
import Derived.Test.YtlnlffpkdeaimaaPlaysWalk
import Derived.Test.YtlnlffpkdeaimaaOpen
import Derived.Test.YtlnlffpkdeaimaaLawOf
namespace Go.Proofs.Ytlnlffpkdeaimaa.plays
open Go.ChangeShapes Go.WideShapes Go.ChangeAt Go.RowKit Go.Proofs.Ytlnlffpkdeaimaa

theorem own : ownKnob Try.prog.godebug = none := by kernel_rfl
theorem laidOut : laidOutB Try.prog = true := by kernel_rfl
theorem rowed : Try.f5.params.toList.all (fun t => Try.prog.readableRec t && decide (t < Try.prog.types.size)) = true := by kernel_rfl
theorem res : Try.f5.resultTypes = #[4] := by kernel_rfl


open Go.Deep
set_option linter.unusedVariables false
theorem cof_bool : Try.prog.cellsOf 4 = 1 := by kernel_rfl
theorem cof_act : Try.prog.cellsOf 36 = 4 := by kernel_rfl

section
variable {H : Type} {enc : TypeId × Value → H} {w : World} {base : Nat} {spare : Nat → Bool} {held : Bool} {fuel : Nat} {cs : List Value} {x : DataW H × List MemPlace}
theorem open_act (h : DataW.trod enc Try.prog w base spare held fuel 36 cs = some x) :
    ∃ a : AR, cs = acells a ∧ (PlansOk (fun b => b < w.heap.size) w a.A a.rs ∧ a.x ≤ 9223372036854775807) ∧ partsL a.rs + 1 ≤ Rows.uptoBulk x.1 := by
  obtain ⟨xs, n, _, rfl, hl, hlen, hf⟩ := DataW.trod_struct Try.underlying36 h
  rw [cof_act] at hl
  match cs, hl, xs, hlen with
  | [c0, c1, c2, c3], _, [y0, y1, y2], _ =>
    have h0 := fieldAt hf 0 4 0 1 (y := y0) rfl rfl rfl cof_bool rfl
    have h1 := fieldAt hf 1 3 1 1 (y := y1) rfl rfl rfl cof_int rfl
    have h2 := fieldAt hf 2 34 2 2 (y := y2) rfl rfl rfl cof_batch rfl
    obtain ⟨tk, e0, r0⟩ := DataW.trod_bool Try.underlying4 (x := y0) h0
    obtain ⟨s, e1, r1, _⟩ := DataW.trod_int Try.underlying3 (x := y1) h1
    obtain ⟨e, A, rs, c, e2, hx, ho, hb⟩ := open_batch (x := y2) h2
    simp at e0 e1 e2
    obtain ⟨e2, e3⟩ := e2
    subst e0 e1 e2 e3
    exact ⟨⟨tk, s, e, A, c, rs⟩, rfl, ⟨ho, hx⟩, by simp only [Rows.uptoBulk, Rows.uptoBulkAll, List.map_cons, List.map_nil]; omega⟩
theorem parts_one (us : List AR) : (us.map fun a => partsL a.rs + 1).sum = partsAll us + us.length := by
  unfold partsAll
  induction us with
  | nil => rfl
  | cons a l ih => rw [List.map_cons, List.sum_cons, List.map_cons, List.sum_cons, List.length_cons, ih]; omega
theorem open_acts (h : DataW.trod enc Try.prog w base spare held fuel 25 cs = some x) :
    ∃ (A : Option Addr) (us : List AR) (c : Nat), cs = [.slice A us.length c] ∧ ActsOk (fun b => b < w.heap.size) w A us ∧ (∀ a ∈ us, a.x ≤ 9223372036854775807) ∧ partsAll us + us.length ≤ Rows.uptoBulk x.1 := by
  obtain ⟨A, l, c, e, hr, ho, hb⟩ := open_rows acells (fun a => partsL a.rs + 1) (fun a => PlansOk (fun b => b < w.heap.size) w a.A a.rs ∧ a.x ≤ 9223372036854775807) 4 (by omega) (fun _ => rfl) Try.underlying25 cof_act (fun n cs' y hy => open_act hy) h
  exact ⟨A, l, c, e, ⟨hr, fun a ha => (ho a ha).1⟩, fun a ha => (ho a ha).2, by rw [parts_one] at hb; omega⟩
end
theorem partsAll_len (us : List AR) : us.length ≤ partsAll us := by
  unfold partsAll
  induction us with
  | nil => simp
  | cons a l ih => rw [List.map_cons, List.sum_cons, List.length_cons]; have := partsL_len a.rs; omega
theorem partsAll_mem {us : List AR} {a : AR} (h : a ∈ us) : partsL a.rs ≤ partsAll us := by
  have : ∀ l : List AR, a ∈ l → partsL a.rs ≤ (l.map fun a => partsL a.rs).sum := by
    intro l
    induction l with
    | nil => intro h; cases h
    | cons b l ih =>
      intro h
      rw [List.map_cons, List.sum_cons]
      rcases List.mem_cons.1 h with rfl | h
      · omega
      · have := ih h; omega
  exact this us h

theorem contract (H : Type) (enc : TypeId × Value → H) (W : World) (base : Nat) (args : Array Value) (ds gs : List (DataW H)) (before : List MemPlace)
    (hval0 : ∀ (j : Nat) t v, Try.f5.params[j]? = some t → args[j]? = some v → Value.okWide Try.prog W .any base t v)
    (hW : DataW.Whole enc Try.prog Try.f5.params.toList Rows.mergePlaysSpec.vars false W args.toList ds gs before) (hk : Rows.uptoSmall H (ds ++ gs) = true) :
    Calls Try.prog 5 args W fun e W' => ∃ v, e = .returned v ∧ Rows.mergePlaysSpec.post enc Try.prog Try.f5 false true false false W args v W' := by
  have hval := hval0
  have hW' := hW
  obtain ⟨p, q, hA0, hV, rfl, hfz, hnd⟩ := hW
  have hA : DataW.TrodAll enc Try.prog W 0 (fun _ => true) true Try.f5.params.toList args.toList ds p := hA0
  rw [Try.params5] at hA hval
  obtain ⟨v0, v1, d0, d1, p0, p1, rfl, rfl, rfl, h0, h1⟩ := trodAll_two hA
  obtain ⟨rfl, rfl⟩ := trodVars_none hV
  obtain ⟨n, rfl, rfl, rfl, ws⟩ := open_int Try.underlying3 (hval 0 3 v0 rfl rfl) h0
  obtain ⟨a1, len, cap, rfl⟩ := okWide_slice Try.underlying25 (hval 1 25 v1 rfl rfl)
  obtain ⟨fuel, hf⟩ := h1
  obtain ⟨A, us, c, e, ho, hx, hb⟩ := open_acts hf
  simp only [Value.cells, List.cons.injEq, and_true, Value.slice.injEq] at e
  obtain ⟨rfl, rfl, rfl⟩ := e
  have hbulk := of_decide_eq_true hk
  simp only [Rows.uptoBulkAll, Rows.uptoBulk, List.cons_append, List.nil_append, List.append_nil] at hbulk
  have hlen := partsAll_len us
  clear hA0 hval hval0
  refine (plays_walk n a1 cap us W ho (by simp only at hb; omega) (by simp only at hb; omega) (fun a ha => by
    have h1 := partsAll_mem ha
    have h2 := partsL_fits (rs := a.rs) (by simp only at hb; omega)
    exact ⟨h2.1, h2.2, hx a ha⟩)).mono fun e W' ⟨he, hb⟩ => ?_
  subst he
  exact ⟨_, rfl, law_post laidOut rowed res Try.underlying4 rfl hW' rfl rfl rfl hb⟩


set_option maxRecDepth 100000 in
theorem lifted (os : Os) (started : os.Started) (H : Type) (enc : TypeId × Value → H) (F : Stop.Interp) :
    ReturnsInHanded {} Try.checked os 5 .any ((Rows.OpenSpec.upto Rows.mergePlaysSpec).pre6 enc Try.prog Try.f5 Rows.mergePlaysUptoRow.domain false) (((Rows.OpenSpec.upto Rows.mergePlaysSpec).at F).post enc Try.prog Try.f5 false true false false) := by
  refine returnsInHanded_of_cond (C := Try.checked) (s := Rows.OpenSpec.upto Rows.mergePlaysSpec) (k := Rows.uptoSmall) rfl own started (by kernel_rfl) Try.func5
    (OpenSpec.witness (enc := enc) (C := Try.checked) (s := Rows.OpenSpec.upto Rows.mergePlaysSpec) (k := Rows.uptoSmall) rfl false ⟨#[], #[.int .i64 0, .slice none 0 0], []⟩ 8 (by kernel_rfl) (by kernel_rfl) (by kernel_rfl)
      (x := ([.lit (.int .i64 0), .nil], [], [])) (by kernel_rfl) rfl (by kernel_rfl)) ?_
  intro W base args ds gs before hval hW _ hk _
  exact contract H enc W base args ds gs before hval hW hk

theorem over : Rows.mergePlaysUptoRow.holds Try.pinned (Rows.OpenSpec.upto Rows.mergePlaysSpec) :=
  OpenClaim.holds_of_cond 5 Try.f5 rfl rfl rfl rfl rfl rfl rfl ⟨rfl, rfl, rfl, rfl, rfl⟩ rfl rfl rfl rfl rfl (by kernel_rfl) Try.func5 (by kernel_rfl)
    (of_decide_eq_true (by kernel_rfl)) (by unfold Func.isWrapper; first | (rw [if_pos (by decide +kernel)]; kernel_rfl) | (rw [if_neg (by decide +kernel)]; exact ⟨rfl, rfl⟩))
    (fun os started H enc _ F => lifted os started H enc F)

theorem holds : Rows.MergePlaysUptoSaid := over

end Go.Proofs.Ytlnlffpkdeaimaa.plays

/- ProcWords: the walk. -/
import Derived.Test.YtbakfkhmopebnaaJ13
namespace Go.Proofs.Ytbakfkhmopebnaa
open Go.RowKit
set_option linter.unusedVariables false
set_option linter.unusedSimpArgs false

set_option maxRecDepth 100000 in
set_option maxHeartbeats 1000000 in
theorem words_walk (op : Int) (s : ByteArray) (w : World) : Calls Try.prog 8 #[.int .i64 op, .string s] w fun e w' => e = .returned (.bool true) ∧ Below w.heap.size w w' := by
  have h1 := hid (fun w => word_any op w)
  have h2 := hid (fun w => rword_any op w)
  have h3 := hid (fun w => op_any s w)
  have h4 := hid (fun w => rop_any s w)
  have h5 := hid (fun w => operand_any op w)
  have h6 := hid (fun w => roperand_any op w)
  have h7 := hid (fun w => takes_any op w)
  have h8 := hid (fun w => rtakes_any op w)
  generalize wordI op = ws at *
  generalize opI s = oi at *
  generalize opd op = od at *
  generalize takes op = tk at *
  generalize lays op = ly at *
  have hbX := hid (Below.refl w.heap.size w)
  go_enter Try.func8, Try.ntmps8
  go_wp2_with (first
    | (go_at_call 25; refine (h7.out _).mono ?_; rintro e wn ⟨rfl, hb0⟩; have hbX : Hid (Below w.heap.size w wn) := hid (hbX.out.trans (hb0.mono hbX.out.size)); clear hb0)
    | (go_at_call 26; refine (h8.out _).mono ?_; rintro e wq ⟨rfl, rfl⟩)
    | (go_at_call 27; refine (h1.out _).mono ?_; rintro e wn ⟨rfl, hb0⟩; have hbX : Hid (Below w.heap.size w wn) := hid (hbX.out.trans (hb0.mono hbX.out.size)); clear hb0)
    | (go_at_call 28; refine (h2.out _).mono ?_; rintro e wn ⟨rfl, hb0⟩; have hbX : Hid (Below w.heap.size w wn) := hid (hbX.out.trans (hb0.mono hbX.out.size)); clear hb0)
    | (go_at_call 29; refine (h3.out _).mono ?_; rintro e wn ⟨rfl, hb0⟩; have hbX : Hid (Below w.heap.size w wn) := hid (hbX.out.trans (hb0.mono hbX.out.size)); clear hb0)
    | (go_at_call 30; refine (h4.out _).mono ?_; rintro e wn ⟨rfl, hb0⟩; have hbX : Hid (Below w.heap.size w wn) := hid (hbX.out.trans (hb0.mono hbX.out.size)); clear hb0)
    | (go_at_call 31; refine (h5.out _).mono ?_; rintro e wn ⟨rfl, hb0⟩; have hbX : Hid (Below w.heap.size w wn) := hid (hbX.out.trans (hb0.mono hbX.out.size)); clear hb0)
    | (go_at_call 32; refine (h6.out _).mono ?_; rintro e wq ⟨rfl, rfl⟩)
    | (go_at_call 10; refine (live_any _).mono ?_; rintro e wn ⟨rfl, hb0⟩; have hbX : Hid (Below w.heap.size w wn) := hid (hbX.out.trans (hb0.mono hbX.out.size)); clear hb0))
  go_ret
  exact ⟨rfl, hbX.out⟩
end Go.Proofs.Ytbakfkhmopebnaa

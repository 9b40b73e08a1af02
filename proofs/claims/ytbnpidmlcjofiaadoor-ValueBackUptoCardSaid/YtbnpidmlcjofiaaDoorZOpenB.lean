/- A []byte as it is read from the arguments. -/
import Derived.Test.YtbnpidmlcjofiaaDoorJ12
namespace Go.Proofs.YtbnpidmlcjofiaaDoor
open Go.RowKit Go.Deep Go.ChangeShapes
set_option linter.unusedVariables false
set_option linter.unusedSimpArgs false
set_option maxRecDepth 10000

section
variable {H : Type} {enc : TypeId × Value → H} {w : World} {base : Nat} {spare : Nat → Bool} {held : Bool} {fuel : Nat} {cs : List Value} {x : DataW H × List MemPlace}
theorem cof_u8 : Tryd.prog.cellsOf 5 = 1 := by kernel_rfl
theorem byt_u8 : Tryd.prog.bytesOf 5 = 1 := by kernel_rfl
theorem wf_u8 {n : Int} (h : (Lit.int .u8 n).wf = true) : 0 ≤ n ∧ n ≤ 255 := by
  simpa [Lit.wf, IntKind.min, IntKind.max, IntKind.bits, IntKind.signed] using h
theorem flat_b (l : List Nat) : l.flatMap (fun n : Nat => [Value.int .u8 (n : Int)]) = bcells l := by
  unfold bcells
  induction l with
  | nil => rfl
  | cons a t ih => rw [List.flatMap_cons, List.map_cons, ih]; rfl
theorem open_bytes (h : DataW.trod enc Tryd.prog w base spare held fuel 22 cs = some x) (hw : WB (x.1.weights Tryd.prog 22)) :
    ∃ (A : Option Addr) (l : List Nat) (c : Nat), cs = [.slice A l.length c] ∧ Rd (fun b => b < w.heap.size) w 1 A l.length (bcells l) ∧ l.length ≤ 140737488351232 ∧ ∀ b ∈ l, b < 256 := by
  obtain ⟨A, l, c, e, hr, ho, hb⟩ := open_rowsS (fun n : Nat => [.int .u8 (n : Int)]) (fun n => n < 256) 1 (by omega) (fun _ => rfl) Tryd.underlying22 cof_u8 (fun n cs' y hy _ => by
    obtain ⟨k, e0, r0, w0⟩ := DataW.trod_int Tryd.underlying5 hy
    have h2 := wf_u8 w0
    exact ⟨k.toNat, by rw [e0, Int.toNat_of_nonneg h2.1], by omega⟩) h hw
  rw [flat_b] at hr
  rw [byt_u8] at hb
  exact ⟨A, l, c, e, hr, by unfold big at hb; omega, ho⟩
end
end Go.Proofs.YtbnpidmlcjofiaaDoor

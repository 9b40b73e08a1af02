/- quorum: kinds. -/
import Derived.Test.YtbgopicpdpkccaaGDel
import Derived.Laws.EntriesVeiled
namespace Go.Proofs.Ytbgopicpdpkccaa
open Go.RowKit
set_option linter.unusedVariables false
set_option linter.unusedSimpArgs false

set_option maxRecDepth 100000 in
set_option maxHeartbeats 1000000 in
theorem kinds_any (g : Nat) (w : World) : Calls Try.prog 40 #[.pointer (some ⟨g, 0, none⟩)] w fun e w' => e = .returned (.agg #[.nilFunc, .func (Fn.func 56) #[.pointer (some ⟨g, 0, none⟩)] #[], .func (Fn.func 57) #[.pointer (some ⟨g, 0, none⟩)] #[], .func (Fn.func 58) #[.pointer (some ⟨g, 0, none⟩)] #[], .func (Fn.func 59) #[.pointer (some ⟨g, 0, none⟩)] #[], .func (Fn.func 60) #[.pointer (some ⟨g, 0, none⟩)] #[], .func (Fn.func 61) #[.pointer (some ⟨g, 0, none⟩)] #[]]) ∧ Below w.heap.size w w' := by
  have hmf : ∀ (fn : Fn) (first cap : Array Value) (w : World), (Instr.makeFunc fn first cap).run Try.prog w = .ok (.func fn first cap) w := fun _ _ _ _ => rfl
  have hB : Below w.heap.size w (w.alloc (.cells #[.nilFunc, .nilFunc, .nilFunc, .nilFunc, .nilFunc, .nilFunc, .nilFunc] 86)) := (Below.refl _ _).alloc (Nat.le_refl _) _
  have kr := Blk.new w 86 #[.nilFunc, .nilFunc, .nilFunc, .nilFunc, .nilFunc, .nilFunc, .nilFunc]
  have qz := fun j => kr.frozen j
  have z0 : (w.alloc (.cells #[.nilFunc, .nilFunc, .nilFunc, .nilFunc, .nilFunc, .nilFunc, .nilFunc] 86)).cell? ⟨w.heap.size, 0, none⟩ = some .nilFunc := kr.cell 0
  have z1 : (w.alloc (.cells #[.nilFunc, .nilFunc, .nilFunc, .nilFunc, .nilFunc, .nilFunc, .nilFunc] 86)).cell? ⟨w.heap.size, 1, none⟩ = some .nilFunc := kr.cell 1
  have z2 : (w.alloc (.cells #[.nilFunc, .nilFunc, .nilFunc, .nilFunc, .nilFunc, .nilFunc, .nilFunc] 86)).cell? ⟨w.heap.size, 2, none⟩ = some .nilFunc := kr.cell 2
  have z3 : (w.alloc (.cells #[.nilFunc, .nilFunc, .nilFunc, .nilFunc, .nilFunc, .nilFunc, .nilFunc] 86)).cell? ⟨w.heap.size, 3, none⟩ = some .nilFunc := kr.cell 3
  have z4 : (w.alloc (.cells #[.nilFunc, .nilFunc, .nilFunc, .nilFunc, .nilFunc, .nilFunc, .nilFunc] 86)).cell? ⟨w.heap.size, 4, none⟩ = some .nilFunc := kr.cell 4
  have z5 : (w.alloc (.cells #[.nilFunc, .nilFunc, .nilFunc, .nilFunc, .nilFunc, .nilFunc, .nilFunc] 86)).cell? ⟨w.heap.size, 5, none⟩ = some .nilFunc := kr.cell 5
  have z6 : (w.alloc (.cells #[.nilFunc, .nilFunc, .nilFunc, .nilFunc, .nilFunc, .nilFunc, .nilFunc] 86)).cell? ⟨w.heap.size, 6, none⟩ = some .nilFunc := kr.cell 6
  have hrl := kr.lt
  clear kr
  have hB := hid hB
  go_enter Try.func40, Try.ntmps40
  go_wp2_with fail
  refine bodyPost_ret (v := .agg #[.nilFunc, .func (Fn.func 56) #[.pointer (some ⟨g, 0, none⟩)] #[], .func (Fn.func 57) #[.pointer (some ⟨g, 0, none⟩)] #[], .func (Fn.func 58) #[.pointer (some ⟨g, 0, none⟩)] #[], .func (Fn.func 59) #[.pointer (some ⟨g, 0, none⟩)] #[], .func (Fn.func 60) #[.pointer (some ⟨g, 0, none⟩)] #[], .func (Fn.func 61) #[.pointer (some ⟨g, 0, none⟩)] #[]]) (by simp [results, Try.results40, go_sem, z0, z1, z2, z3, z4, z5, z6]) rfl ⟨rfl, ?_⟩
  exact (Below.refl _ _).alloc (Nat.le_refl _) _

end Go.Proofs.Ytbgopicpdpkccaa

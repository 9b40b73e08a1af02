/- codec: numbers' bytes, of the program and of the document. -/
import Derived.Test.YtnbbdjbjbjlcpaaDoorGBase
import Derived.Test.YtnbbdjbjbjlcpaaDoorKBytes
import Derived.Test.YtnbbdjbjbjlcpaaDoorKHelp
import Derived.Laws.MakeOwn
import Derived.Laws.OwnMore
import Derived.Laws.Bits64
namespace Go.Proofs.YtnbbdjbjbjlcpaaDoor
open Go.RowKit
set_option linter.unusedVariables false
set_option linter.unusedSimpArgs false

def bcells (l : List Nat) : List Value := l.map fun c => .int .u8 (c : Nat)
theorem bcells_snoc (l : List Nat) (c : Nat) : bcells (l ++ [c]) = bcells l ++ [.int .u8 (c : Nat)] := by unfold bcells; rw [List.map_append]; rfl
theorem bcells_one (l : List Nat) : ∀ u ∈ bcells l, u.oneCell' = true := fun u hu => by obtain ⟨c, _, rfl⟩ := List.mem_map.1 hu; rfl
theorem info_u8 : (Tryd.prog.info? 5).map (fun i => (i.zero, i.size, i.bytes)) = some (some (.int .u8 0), 1, 1) := by kernel_rfl
theorem u8_or (m : Nat) : bits BinOp.or IntKind.u8 (((m % 256 : Nat)) : Int) 128 = ((m % 128 + 128 : Nat) : Int) := by
  have h : ∀ x : Fin 256, bits BinOp.or IntKind.u8 ((x.val : Nat) : Int) 128 = ((x.val % 128 + 128 : Nat) : Int) := by decide +kernel
  have := h ⟨m % 256, by omega⟩
  simp only at this
  rw [this]
  congr 2
  omega
theorem u8_wrap (m : Nat) : IntKind.u8.wrap (m : Int) = ((m % 256 : Nat) : Int) := by
  simp [IntKind.wrap, IntKind.bits, IntKind.signed]
def natOf : Value → Nat
  | .int _ n => n.toNat
  | _ => 0
end Go.Proofs.YtnbbdjbjbjlcpaaDoor

/- The keys of a Merge's map. -/
import Derived.Test.YtlnlffpkdeaimaaMap
namespace Go.Proofs.Ytlnlffpkdeaimaa
open Go.RowKit

def placeV (x : Int × Int) : Value := .agg #[.int .i64 x.1, .int .i64 x.2]
theorem place_eq (a b : Int × Int) (w : World) : (Op.equal 75 (placeV a) (placeV b)).run Try.prog w = .ok (decide (a = b)) w := by
  have ht : Try.prog.underlying 75 = some (.struct (Try.prog.fieldsOf 75)) := by kernel_rfl
  have hp : Try.prog.stoodInHeld 75 = false := by kernel_rfl
  unfold Op.equal Op.maxDepth placeV
  rw [run_equalIn_agg w 9999 _ _ _ ht hp]
  clear ht hp
  simp only [Program.fieldsOf, Try.underlying75]
  go_simp
  obtain ⟨a1, a2⟩ := a
  obtain ⟨b1, b2⟩ := b
  by_cases h1 : a1 = b1 <;> by_cases h2 : a2 = b2 <;> simp [h1, h2]
theorem place_check (em : Bool) (a : Int × Int) (w : World) : (Instr.checkKey em 10000 75 (placeV a)).run Try.prog w = .ok () w := by
  kernel_rfl
def placeE : KeyEnc Try.prog 75 (Int × Int) where
  enc := placeV
  desc := _
  under := Try.underlying75
  eq := place_eq
  check := place_check
  now := fun a b => .inl rfl
  bits := fun a => by
    unfold placeV
    rw [show (10000 : Nat) = 9998 + 1 + 1 from rfl]
    simp [Instr.sameBits]

end Go.Proofs.Ytlnlffpkdeaimaa

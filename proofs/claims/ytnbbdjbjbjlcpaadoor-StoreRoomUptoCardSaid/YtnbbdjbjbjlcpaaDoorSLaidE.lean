/- store: what the rows lay gives the table. -/
import Derived.Test.YtnbbdjbjbjlcpaaDoorSLaid
import Derived.Test.YtnbbdjbjbjlcpaaDoorSVal
namespace Go.Proofs.YtnbbdjbjbjlcpaaDoor
open Go.RowKit Go.ChangeShapes
set_option linter.unusedVariables false
set_option linter.unusedSimpArgs false
set_option maxRecDepth 100000

theorem ty_pow : (Tryd.prog.globals[2]?).map (·.type) = some 130 := by kernel_rfl
theorem co_pow : Tryd.prog.cellsOf 130 = 20 := by kernel_rfl
theorem co_u64 : Tryd.prog.cellsOf 79 = 1 := by kernel_rfl
theorem pow_data : (Rows.laid_internal_strconv_uint64pow10 : DataW Unit) = Lib.tabData .u64 Lib.pow10Tab := by kernel_rfl
theorem env_of_laid {W : World} (h : laidMet Tryd.prog lst W) : Env W := by
  have h3 : laidMet Tryd.prog (("internal/strconv.uint64pow10", Lib.tabData .u64 Lib.pow10Tab) :: [("bytes.ErrTooLarge", Rows.laid_bytes_ErrTooLarge)]) W := by
    have := h.tail.tail
    rw [pow_data] at this
    exact this
  refine ⟨Lib.tabIs_of_head gPow ty_pow Tryd.underlying130 Tryd.underlying79 co_u64 co_pow h3, ?_⟩
  obtain ⟨ps, ⟨g', t', cs, fuel, p, q, hg', ht', hvar, _⟩, _⟩ := h.tail
  have e : Tryd.prog.globalNamed "math/bits.deBruijn64tab" = some 4 := by kernel_rfl
  unfold World.var? at hvar
  rw [e] at hvar
  simp only [Option.bind_some] at hvar
  have : ∃ o, W.heap[4]? = some o := by
    cases ho : W.heap[4]? with
    | none => rw [ho] at hvar; cases hvar
    | some o => exact ⟨o, rfl⟩
  obtain ⟨o, ho⟩ := this
  have := (Array.getElem?_eq_some_iff.1 ho).1
  omega
end Go.Proofs.YtnbbdjbjbjlcpaaDoor

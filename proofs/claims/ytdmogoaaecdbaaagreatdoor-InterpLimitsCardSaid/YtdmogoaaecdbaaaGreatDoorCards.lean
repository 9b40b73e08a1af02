/-
  DERIVED. GIVEN WITH THE SEED: THE CARDS: each row of YtdmogoaaecdbaaaGreatDoorRows.lean that lists a variable, with what it lists TIED to the program's text (the seventh form; the later family's looks); each row that meets fmt, with fmt's text TOLD by the authors' own Lean function (tested against real Go, not proved from fmt's source: count such statements apart). THE CARD IS WHAT COUNTS. Prove the row's statement (the work); the ties are given (YtdmogoaaecdbaaaGreatDoorTie.lean); close each card by the builder's one call (the guide's Derived/Test/ToyasCard.lean, 'card_holds'). Laid BY PROGRAM, IN A SANDBOX (cutbox-door.mjs). By AI agents, Wed Nov 11 2026. No macro, syntax, notation, axiom, sorry.
-/
import Derived.Test.YtdmogoaaecdbaaaGreatDoorRows
import GoSem.ClaimSeven
namespace Go.Proofs.YtdmogoaaecdbaaaGreatDoor
namespace Rows

/-- THE TIED CARD OF 'tranchelaw07.InterpNames'. -/
def interpNamesCard : Claim7 := { stood := { row := interpNamesRow, standIns := [], harness := (true, "b41b3a97a59714ccce0dc3b079401f90652b9ba348ea21382a3b127a8212a8fb"), looks := true }, kinds := [], alts := [], laidByText := true, laidKinds := [.data, .data, .data, .sentinel, .sentinel], laidTests := true, laidLooks := .later }
def InterpNamesCardSaid : Prop := Claim7.holds Tryz.pinned (.plain (OpenSpec.ofChange interpNamesSpec)) interpNamesCard

/-- THE TIED CARD OF 'tranchelaw07.InterpRuns'. -/
def interpRunsCard : Claim7 := { stood := { row := interpRunsRow, standIns := [], harness := (true, "b41b3a97a59714ccce0dc3b079401f90652b9ba348ea21382a3b127a8212a8fb"), looks := true }, kinds := [], alts := [], laidByText := true, laidKinds := [.data, .data, .data, .sentinel, .sentinel], laidTests := true, laidLooks := .later }
def InterpRunsCardSaid : Prop := Claim7.holds Tryz.pinned (.plain (OpenSpec.ofChange interpRunsSpec)) interpRunsCard

/-- THE TIED CARD OF 'tranchelaw07.InterpFuel'. -/
def interpFuelCard : Claim7 := { stood := { row := interpFuelRow, standIns := [], harness := (true, "b41b3a97a59714ccce0dc3b079401f90652b9ba348ea21382a3b127a8212a8fb"), looks := true }, kinds := [], alts := [], laidByText := true, laidKinds := [.data, .data, .data, .sentinel, .sentinel], laidTests := true, laidLooks := .later }
def InterpFuelCardSaid : Prop := Claim7.holds Tryz.pinned (.plain (OpenSpec.ofChange interpFuelSpec)) interpFuelCard

/-- THE TIED CARD OF 'tranchelaw07.InterpReads'. -/
def interpReadsCard : Claim7 := { stood := { row := interpReadsRow, standIns := [], harness := (true, "b41b3a97a59714ccce0dc3b079401f90652b9ba348ea21382a3b127a8212a8fb"), looks := true }, kinds := [], alts := [], laidByText := true, laidKinds := [.data, .data, .data, .sentinel, .sentinel], laidTests := true, laidLooks := .later }
def InterpReadsCardSaid : Prop := Claim7.holds Tryz.pinned (.plain (OpenSpec.ofChange interpReadsSpec)) interpReadsCard

/-- THE TIED CARD OF 'tranchelaw07.InterpWhole'. -/
def interpWholeCard : Claim7 := { stood := { row := interpWholeRow, standIns := [], harness := (true, "b41b3a97a59714ccce0dc3b079401f90652b9ba348ea21382a3b127a8212a8fb"), looks := true }, kinds := [], alts := [], laidByText := true, laidKinds := [.data, .data, .data, .sentinel, .sentinel], laidTests := true, laidLooks := .later }
def InterpWholeCardSaid : Prop := Claim7.holds Tryz.pinned (.plain (OpenSpec.ofChange interpWholeSpec)) interpWholeCard

/-- THE TIED CARD OF 'tranchelaw07.InterpSums'. -/
def interpSumsCard : Claim7 := { stood := { row := interpSumsRow, standIns := [], harness := (true, "b41b3a97a59714ccce0dc3b079401f90652b9ba348ea21382a3b127a8212a8fb"), looks := true }, kinds := [], alts := [], laidByText := true, laidKinds := [.data, .data, .data, .sentinel, .sentinel], laidTests := true, laidLooks := .later }
def InterpSumsCardSaid : Prop := Claim7.holds Tryz.pinned (.plain (OpenSpec.ofChange interpSumsSpec)) interpSumsCard

/-- THE TIED CARD OF 'tranchelaw07.InterpLimits'. -/
def interpLimitsCard : Claim7 := { stood := { row := interpLimitsRow, standIns := [], harness := (true, "b41b3a97a59714ccce0dc3b079401f90652b9ba348ea21382a3b127a8212a8fb"), looks := true }, kinds := [], alts := [], laidByText := true, laidKinds := [.data, .data, .data, .sentinel, .sentinel], laidTests := true, laidLooks := .later }
def InterpLimitsCardSaid : Prop := Claim7.holds Tryz.pinned (.plain (OpenSpec.ofChange interpLimitsSpec)) interpLimitsCard

/-- THE TIED CARD OF 'tranchelaw07.InterpOwn'. -/
def interpOwnCard : Claim7 := { stood := { row := interpOwnRow, standIns := [], harness := (true, "b41b3a97a59714ccce0dc3b079401f90652b9ba348ea21382a3b127a8212a8fb"), looks := true }, kinds := [], alts := [], laidByText := true, laidKinds := [.data, .data, .data, .sentinel, .sentinel], laidTests := true, laidLooks := .later }
def InterpOwnCardSaid : Prop := Claim7.holds Tryz.pinned (.plain (OpenSpec.ofChange interpOwnSpec)) interpOwnCard

/-- THE TIED CARD OF 'tranchelaw07.InterpSteps'. -/
def interpStepsCard : Claim7 := { stood := { row := interpStepsRow, standIns := [], harness := (true, "b41b3a97a59714ccce0dc3b079401f90652b9ba348ea21382a3b127a8212a8fb"), looks := true }, kinds := [], alts := [], laidByText := true, laidKinds := [.data, .data, .data, .sentinel, .sentinel], laidTests := true, laidLooks := .later }
def InterpStepsCardSaid : Prop := Claim7.holds Tryz.pinned (.plain (OpenSpec.ofChange interpStepsSpec)) interpStepsCard

/-- THE TIED CARD OF 'tranchelaw07.InterpTold'. -/
def interpToldCard : Claim7 := { stood := { row := interpToldRow, standIns := [], harness := (true, "b41b3a97a59714ccce0dc3b079401f90652b9ba348ea21382a3b127a8212a8fb"), looks := true }, kinds := [], alts := [], laidByText := true, laidKinds := [.data, .data, .data, .sentinel, .sentinel], laidTests := true, laidLooks := .later }
def InterpToldCardSaid : Prop := Claim7.holds Tryz.pinned (.plain (OpenSpec.ofChange interpToldSpec)) interpToldCard

/-- THE TIED CARD OF 'tranchelaw07.InterpAsBefore'. -/
def interpAsBeforeCard : Claim7 := { stood := { row := interpAsBeforeRow, standIns := [], harness := (true, "b41b3a97a59714ccce0dc3b079401f90652b9ba348ea21382a3b127a8212a8fb"), looks := true }, kinds := [], alts := [], laidByText := true, laidKinds := [.data, .data, .data, .sentinel, .sentinel], laidTests := true, laidLooks := .later }
def InterpAsBeforeCardSaid : Prop := Claim7.holds Tryz.pinned (.plain (OpenSpec.ofChange interpAsBeforeSpec)) interpAsBeforeCard

/-- THE SECOND FORM's CARD OF 'tranchelaw07.InterpNames'. -/
def interpNamesUptoCard : Claim7 := { stood := { row := interpNamesUptoRow, standIns := [], harness := (true, "b41b3a97a59714ccce0dc3b079401f90652b9ba348ea21382a3b127a8212a8fb"), looks := true }, kinds := [], alts := [], laidByText := true, laidKinds := [.data, .data, .data, .sentinel, .sentinel], laidTests := true, laidLooks := .later }
def InterpNamesUptoCardSaid : Prop := Claim7.holds Tryz.pinned (.plain (OpenSpec.upto interpNamesSpec)) interpNamesUptoCard

/-- THE SECOND FORM's CARD OF 'tranchelaw07.InterpRuns'. -/
def interpRunsUptoCard : Claim7 := { stood := { row := interpRunsUptoRow, standIns := [], harness := (true, "b41b3a97a59714ccce0dc3b079401f90652b9ba348ea21382a3b127a8212a8fb"), looks := true }, kinds := [], alts := [], laidByText := true, laidKinds := [.data, .data, .data, .sentinel, .sentinel], laidTests := true, laidLooks := .later }
def InterpRunsUptoCardSaid : Prop := Claim7.holds Tryz.pinned (.plain (OpenSpec.upto interpRunsSpec)) interpRunsUptoCard

/-- THE SECOND FORM's CARD OF 'tranchelaw07.InterpFuel'. -/
def interpFuelUptoCard : Claim7 := { stood := { row := interpFuelUptoRow, standIns := [], harness := (true, "b41b3a97a59714ccce0dc3b079401f90652b9ba348ea21382a3b127a8212a8fb"), looks := true }, kinds := [], alts := [], laidByText := true, laidKinds := [.data, .data, .data, .sentinel, .sentinel], laidTests := true, laidLooks := .later }
def InterpFuelUptoCardSaid : Prop := Claim7.holds Tryz.pinned (.plain (OpenSpec.upto interpFuelSpec)) interpFuelUptoCard

/-- THE SECOND FORM's CARD OF 'tranchelaw07.InterpReads'. -/
def interpReadsUptoCard : Claim7 := { stood := { row := interpReadsUptoRow, standIns := [], harness := (true, "b41b3a97a59714ccce0dc3b079401f90652b9ba348ea21382a3b127a8212a8fb"), looks := true }, kinds := [], alts := [], laidByText := true, laidKinds := [.data, .data, .data, .sentinel, .sentinel], laidTests := true, laidLooks := .later }
def InterpReadsUptoCardSaid : Prop := Claim7.holds Tryz.pinned (.plain (OpenSpec.upto interpReadsSpec)) interpReadsUptoCard

/-- THE SECOND FORM's CARD OF 'tranchelaw07.InterpWhole'. -/
def interpWholeUptoCard : Claim7 := { stood := { row := interpWholeUptoRow, standIns := [], harness := (true, "b41b3a97a59714ccce0dc3b079401f90652b9ba348ea21382a3b127a8212a8fb"), looks := true }, kinds := [], alts := [], laidByText := true, laidKinds := [.data, .data, .data, .sentinel, .sentinel], laidTests := true, laidLooks := .later }
def InterpWholeUptoCardSaid : Prop := Claim7.holds Tryz.pinned (.plain (OpenSpec.upto interpWholeSpec)) interpWholeUptoCard

/-- THE SECOND FORM's CARD OF 'tranchelaw07.InterpSums'. -/
def interpSumsUptoCard : Claim7 := { stood := { row := interpSumsUptoRow, standIns := [], harness := (true, "b41b3a97a59714ccce0dc3b079401f90652b9ba348ea21382a3b127a8212a8fb"), looks := true }, kinds := [], alts := [], laidByText := true, laidKinds := [.data, .data, .data, .sentinel, .sentinel], laidTests := true, laidLooks := .later }
def InterpSumsUptoCardSaid : Prop := Claim7.holds Tryz.pinned (.plain (OpenSpec.upto interpSumsSpec)) interpSumsUptoCard

/-- THE SECOND FORM's CARD OF 'tranchelaw07.InterpLimits'. -/
def interpLimitsUptoCard : Claim7 := { stood := { row := interpLimitsUptoRow, standIns := [], harness := (true, "b41b3a97a59714ccce0dc3b079401f90652b9ba348ea21382a3b127a8212a8fb"), looks := true }, kinds := [], alts := [], laidByText := true, laidKinds := [.data, .data, .data, .sentinel, .sentinel], laidTests := true, laidLooks := .later }
def InterpLimitsUptoCardSaid : Prop := Claim7.holds Tryz.pinned (.plain (OpenSpec.upto interpLimitsSpec)) interpLimitsUptoCard

/-- THE SECOND FORM's CARD OF 'tranchelaw07.InterpOwn'. -/
def interpOwnUptoCard : Claim7 := { stood := { row := interpOwnUptoRow, standIns := [], harness := (true, "b41b3a97a59714ccce0dc3b079401f90652b9ba348ea21382a3b127a8212a8fb"), looks := true }, kinds := [], alts := [], laidByText := true, laidKinds := [.data, .data, .data, .sentinel, .sentinel], laidTests := true, laidLooks := .later }
def InterpOwnUptoCardSaid : Prop := Claim7.holds Tryz.pinned (.plain (OpenSpec.upto interpOwnSpec)) interpOwnUptoCard

/-- THE SECOND FORM's CARD OF 'tranchelaw07.InterpSteps'. -/
def interpStepsUptoCard : Claim7 := { stood := { row := interpStepsUptoRow, standIns := [], harness := (true, "b41b3a97a59714ccce0dc3b079401f90652b9ba348ea21382a3b127a8212a8fb"), looks := true }, kinds := [], alts := [], laidByText := true, laidKinds := [.data, .data, .data, .sentinel, .sentinel], laidTests := true, laidLooks := .later }
def InterpStepsUptoCardSaid : Prop := Claim7.holds Tryz.pinned (.plain (OpenSpec.upto interpStepsSpec)) interpStepsUptoCard

/-- THE SECOND FORM's CARD OF 'tranchelaw07.InterpTold'. -/
def interpToldUptoCard : Claim7 := { stood := { row := interpToldUptoRow, standIns := [], harness := (true, "b41b3a97a59714ccce0dc3b079401f90652b9ba348ea21382a3b127a8212a8fb"), looks := true }, kinds := [], alts := [], laidByText := true, laidKinds := [.data, .data, .data, .sentinel, .sentinel], laidTests := true, laidLooks := .later }
def InterpToldUptoCardSaid : Prop := Claim7.holds Tryz.pinned (.plain (OpenSpec.upto interpToldSpec)) interpToldUptoCard

/-- THE SECOND FORM's CARD OF 'tranchelaw07.InterpAsBefore'. -/
def interpAsBeforeUptoCard : Claim7 := { stood := { row := interpAsBeforeUptoRow, standIns := [], harness := (true, "b41b3a97a59714ccce0dc3b079401f90652b9ba348ea21382a3b127a8212a8fb"), looks := true }, kinds := [], alts := [], laidByText := true, laidKinds := [.data, .data, .data, .sentinel, .sentinel], laidTests := true, laidLooks := .later }
def InterpAsBeforeUptoCardSaid : Prop := Claim7.holds Tryz.pinned (.plain (OpenSpec.upto interpAsBeforeSpec)) interpAsBeforeUptoCard
end Rows
end Go.Proofs.YtdmogoaaecdbaaaGreatDoor

/-
  DERIVED. GIVEN WITH THE SEED: THE CARDS: each row of YtefigpmkiemfhaaDoorRows.lean that lists a variable, with what it lists TIED to the program's text (the seventh form; the later family's looks); each row that meets fmt, with fmt's text TOLD by the authors' own Lean function (tested against real Go, not proved from fmt's source: count such statements apart). THE CARD IS WHAT COUNTS. Prove the row's statement (the work); the ties are given (YtefigpmkiemfhaaDoorTie.lean); close each card by the builder's one call (the guide's Derived/Test/ToyasCard.lean, 'card_holds'). Laid BY PROGRAM, IN A SANDBOX (cutbox-door.mjs). By AI agents, Wed Nov 11 2026. No macro, syntax, notation, axiom, sorry.
-/
import Derived.Test.YtefigpmkiemfhaaDoorRows
import GoSem.ClaimSeven
namespace Go.Proofs.YtefigpmkiemfhaaDoor
namespace Rows

/-- THE TIED CARD OF 'tranchelaw22.CkptAnswers'. -/
def ckptAnswersCard : Claim7 := { stood := { row := ckptAnswersRow, standIns := [], harness := (true, "cd745ced431866cda82658dcc426d66cf099ed336a6e33bf2c0badf9ccefb11e"), looks := false }, kinds := [], alts := [], laidByText := true, laidKinds := [.data, .data, .data, .sentinel], laidTests := true, laidLooks := .later }
def CkptAnswersCardSaid : Prop := Claim7.holds Tryd.pinned (.plain (OpenSpec.ofChange ckptAnswersSpec)) ckptAnswersCard

/-- THE TIED CARD OF 'tranchelaw22.CkptFrozen'. -/
def ckptFrozenCard : Claim7 := { stood := { row := ckptFrozenRow, standIns := [], harness := (true, "cd745ced431866cda82658dcc426d66cf099ed336a6e33bf2c0badf9ccefb11e"), looks := false }, kinds := [], alts := [], laidByText := true, laidKinds := [.data, .data, .data, .sentinel], laidTests := true, laidLooks := .later }
def CkptFrozenCardSaid : Prop := Claim7.holds Tryd.pinned (.plain (OpenSpec.ofChange ckptFrozenSpec)) ckptFrozenCard

/-- THE TIED CARD OF 'tranchelaw22.CkptWas'. -/
def ckptWasCard : Claim7 := { stood := { row := ckptWasRow, standIns := [], harness := (true, "cd745ced431866cda82658dcc426d66cf099ed336a6e33bf2c0badf9ccefb11e"), looks := false }, kinds := [], alts := [], laidByText := true, laidKinds := [.data, .data, .data, .sentinel], laidTests := true, laidLooks := .later }
def CkptWasCardSaid : Prop := Claim7.holds Tryd.pinned (.plain (OpenSpec.ofChange ckptWasSpec)) ckptWasCard

/-- THE TIED CARD OF 'tranchelaw22.CkptNil'. -/
def ckptNilCard : Claim7 := { stood := { row := ckptNilRow, standIns := [], harness := (true, "cd745ced431866cda82658dcc426d66cf099ed336a6e33bf2c0badf9ccefb11e"), looks := false }, kinds := [], alts := [], laidByText := true, laidKinds := [.data, .data, .data, .sentinel], laidTests := true, laidLooks := .later }
def CkptNilCardSaid : Prop := Claim7.holds Tryd.pinned (.plain (OpenSpec.ofChange ckptNilSpec)) ckptNilCard

/-- THE SECOND FORM's CARD OF 'tranchelaw22.CkptAnswers'. -/
def ckptAnswersUptoCard : Claim7 := { stood := { row := ckptAnswersUptoRow, standIns := [], harness := (true, "cd745ced431866cda82658dcc426d66cf099ed336a6e33bf2c0badf9ccefb11e"), looks := false }, kinds := [], alts := [], laidByText := true, laidKinds := [.data, .data, .data, .sentinel], laidTests := true, laidLooks := .later }
def CkptAnswersUptoCardSaid : Prop := Claim7.holds Tryd.pinned (.plain (OpenSpec.upto ckptAnswersSpec)) ckptAnswersUptoCard

/-- THE SECOND FORM's CARD OF 'tranchelaw22.CkptFrozen'. -/
def ckptFrozenUptoCard : Claim7 := { stood := { row := ckptFrozenUptoRow, standIns := [], harness := (true, "cd745ced431866cda82658dcc426d66cf099ed336a6e33bf2c0badf9ccefb11e"), looks := false }, kinds := [], alts := [], laidByText := true, laidKinds := [.data, .data, .data, .sentinel], laidTests := true, laidLooks := .later }
def CkptFrozenUptoCardSaid : Prop := Claim7.holds Tryd.pinned (.plain (OpenSpec.upto ckptFrozenSpec)) ckptFrozenUptoCard

/-- THE SECOND FORM's CARD OF 'tranchelaw22.CkptWas'. -/
def ckptWasUptoCard : Claim7 := { stood := { row := ckptWasUptoRow, standIns := [], harness := (true, "cd745ced431866cda82658dcc426d66cf099ed336a6e33bf2c0badf9ccefb11e"), looks := false }, kinds := [], alts := [], laidByText := true, laidKinds := [.data, .data, .data, .sentinel], laidTests := true, laidLooks := .later }
def CkptWasUptoCardSaid : Prop := Claim7.holds Tryd.pinned (.plain (OpenSpec.upto ckptWasSpec)) ckptWasUptoCard

/-- THE SECOND FORM's CARD OF 'tranchelaw22.CkptNil'. -/
def ckptNilUptoCard : Claim7 := { stood := { row := ckptNilUptoRow, standIns := [], harness := (true, "cd745ced431866cda82658dcc426d66cf099ed336a6e33bf2c0badf9ccefb11e"), looks := false }, kinds := [], alts := [], laidByText := true, laidKinds := [.data, .data, .data, .sentinel], laidTests := true, laidLooks := .later }
def CkptNilUptoCardSaid : Prop := Claim7.holds Tryd.pinned (.plain (OpenSpec.upto ckptNilSpec)) ckptNilUptoCard
end Rows
end Go.Proofs.YtefigpmkiemfhaaDoor

/-
  No cell of these rows narrows 'for every input' (looked for: loops, veiled, ifaces, maps, wideKeys, modest, calm, conditions, laid).
  DERIVED. THE GIVEN ROWS OF THIS SEAT. 6 by the template 'for every input the law returns true; each argument reads behind the call as it read before'; 0 by the template 'total and deterministic' (their statements: YtbakfkhmopebnaaTotals.lean).
  GIVEN WITH THE SEED: the statements are not yours to turn. If you find one false, say at which input.
  Laid BY PROGRAM, IN A SANDBOX (cutbox-rows.mjs): the forced cells as the released guide's own fill.sh prints them over the translation c367925e46ac0c7d… (all of the seat's roots in one cut). By AI agents, Wed Nov 11 2026. No macro, syntax, notation, axiom, sorry.
-/
import Derived.Test.YtbakfkhmopebnaaChecked
import GoSem.Claim
import GoSem.ClaimJoined
import GoSem.ClaimMapViews
import Derived.JoinedTies
import Derived.KernelRfl
namespace Go.Proofs.Ytbakfkhmopebnaa
/- THE CELL 'sum', in the pinned program and in every row, IS THE sha256 OF THE DUMP (.gsa) THAT YtbakfkhmopebnaaProg.lean LOADS. Nothing in Lean hashes anything: it is a label: what it is worth is what the hold of that sum in a sandbox is worth. -/
noncomputable def Try.pinned : Pinned := { name := "ytbakfkhmopebnaa", sum := "c367925e46ac0c7dd8d37b2980f19a201cac461f178a5d9f502228f45f8891cd", checked := Try.checked }
namespace Rows
def none {H : Type} : Left H := { results := [], args := [] }

/-- 'tranchelaw05.ProcNames': WHATEVER THE INPUT: true; the input reads as it did. -/
def procNamesSpec : ChangeSpec := { name := "procNames", fn := fun _ => fun
  | [] => { results := [.lit (.bool true)], args := [] }
  | _ => none }
def procNamesRow : OpenClaim := { program := "ytbakfkhmopebnaa", sum := "c367925e46ac0c7dd8d37b2980f19a201cac461f178a5d9f502228f45f8891cd", func := "tranche/tranchelaw05.ProcNames", spec := "procNames", unfollowed := true, recurses := true, apart := false }
def ProcNamesSaid : Prop := procNamesRow.holds Try.pinned (OpenSpec.ofChange procNamesSpec)

/-- ITS FALSE NEIGHBOUR: 'it returns false'. Refute it at one input. -/
def procNamesWrong : ChangeSpec := { name := "procNames", fn := fun _ => fun
  | [] => { results := [.lit (.bool false)], args := [] }
  | _ => none }
def ProcNamesWrongFalsely : Prop := procNamesRow.holds Try.pinned (OpenSpec.ofChange procNamesWrong)

/-- 'tranchelaw05.ProcChecks': WHATEVER THE INPUT: true; the input reads as it did. -/
def procChecksSpec : ChangeSpec := { name := "procChecks", fn := fun _ => fun
  | [d] => { results := [.lit (.bool true)], args := [d] }
  | _ => none }
def procChecksRow : OpenClaim := { program := "ytbakfkhmopebnaa", sum := "c367925e46ac0c7dd8d37b2980f19a201cac461f178a5d9f502228f45f8891cd", func := "tranche/tranchelaw05.ProcChecks", spec := "procChecks", unfollowed := true, recurses := true, apart := false }
def ProcChecksSaid : Prop := procChecksRow.holds Try.pinned (OpenSpec.ofChange procChecksSpec)

/-- ITS FALSE NEIGHBOUR: 'it returns false'. Refute it at one input. -/
def procChecksWrong : ChangeSpec := { name := "procChecks", fn := fun _ => fun
  | [d] => { results := [.lit (.bool false)], args := [d] }
  | _ => none }
def ProcChecksWrongFalsely : Prop := procChecksRow.holds Try.pinned (OpenSpec.ofChange procChecksWrong)

/-- 'tranchelaw05.ProcBytes': WHATEVER THE INPUT: true; the input reads as it did. -/
def procBytesSpec : ChangeSpec := { name := "procBytes", fn := fun _ => fun
  | [d1, d2, d3] => { results := [.lit (.bool true)], args := [d1, d2, d3] }
  | _ => none }
def procBytesRow : OpenClaim := { program := "ytbakfkhmopebnaa", sum := "c367925e46ac0c7dd8d37b2980f19a201cac461f178a5d9f502228f45f8891cd", func := "tranche/tranchelaw05.ProcBytes", spec := "procBytes", unfollowed := true, recurses := true, apart := false }
def ProcBytesSaid : Prop := procBytesRow.holds Try.pinned (OpenSpec.ofChange procBytesSpec)

/-- ITS FALSE NEIGHBOUR: 'it returns false'. Refute it at one input. -/
def procBytesWrong : ChangeSpec := { name := "procBytes", fn := fun _ => fun
  | [d1, d2, d3] => { results := [.lit (.bool false)], args := [d1, d2, d3] }
  | _ => none }
def ProcBytesWrongFalsely : Prop := procBytesRow.holds Try.pinned (OpenSpec.ofChange procBytesWrong)

/-- 'tranchelaw05.ProcFits': WHATEVER THE INPUT: true; the input reads as it did. -/
def procFitsSpec : ChangeSpec := { name := "procFits", fn := fun _ => fun
  | [d] => { results := [.lit (.bool true)], args := [d] }
  | _ => none }
def procFitsRow : OpenClaim := { program := "ytbakfkhmopebnaa", sum := "c367925e46ac0c7dd8d37b2980f19a201cac461f178a5d9f502228f45f8891cd", func := "tranche/tranchelaw05.ProcFits", spec := "procFits", unfollowed := true, recurses := true, apart := false }
def ProcFitsSaid : Prop := procFitsRow.holds Try.pinned (OpenSpec.ofChange procFitsSpec)

/-- ITS FALSE NEIGHBOUR: 'it returns false'. Refute it at one input. -/
def procFitsWrong : ChangeSpec := { name := "procFits", fn := fun _ => fun
  | [d] => { results := [.lit (.bool false)], args := [d] }
  | _ => none }
def ProcFitsWrongFalsely : Prop := procFitsRow.holds Try.pinned (OpenSpec.ofChange procFitsWrong)

/-- 'tranchelaw05.ProcBack': WHATEVER THE INPUT: true; the input reads as it did. -/
def procBackSpec : ChangeSpec := { name := "procBack", fn := fun _ => fun
  | [d1, d2, d3] => { results := [.lit (.bool true)], args := [d1, d2, d3] }
  | _ => none }
def procBackRow : OpenClaim := { program := "ytbakfkhmopebnaa", sum := "c367925e46ac0c7dd8d37b2980f19a201cac461f178a5d9f502228f45f8891cd", func := "tranche/tranchelaw05.ProcBack", spec := "procBack", unfollowed := true, recurses := true, apart := false }
def ProcBackSaid : Prop := procBackRow.holds Try.pinned (OpenSpec.ofChange procBackSpec)

/-- ITS FALSE NEIGHBOUR: 'it returns false'. Refute it at one input. -/
def procBackWrong : ChangeSpec := { name := "procBack", fn := fun _ => fun
  | [d1, d2, d3] => { results := [.lit (.bool false)], args := [d1, d2, d3] }
  | _ => none }
def ProcBackWrongFalsely : Prop := procBackRow.holds Try.pinned (OpenSpec.ofChange procBackWrong)

/-- 'tranchelaw05.ProcWords': WHATEVER THE INPUT: true; the input reads as it did. -/
def procWordsSpec : ChangeSpec := { name := "procWords", fn := fun _ => fun
  | [d1, d2] => { results := [.lit (.bool true)], args := [d1, d2] }
  | _ => none }
def procWordsRow : OpenClaim := { program := "ytbakfkhmopebnaa", sum := "c367925e46ac0c7dd8d37b2980f19a201cac461f178a5d9f502228f45f8891cd", func := "tranche/tranchelaw05.ProcWords", spec := "procWords", unfollowed := true, recurses := true, apart := false }
def ProcWordsSaid : Prop := procWordsRow.holds Try.pinned (OpenSpec.ofChange procWordsSpec)

/-- ITS FALSE NEIGHBOUR: 'it returns false'. Refute it at one input. -/
def procWordsWrong : ChangeSpec := { name := "procWords", fn := fun _ => fun
  | [d1, d2] => { results := [.lit (.bool false)], args := [d1, d2] }
  | _ => none }
def ProcWordsWrongFalsely : Prop := procWordsRow.holds Try.pinned (OpenSpec.ofChange procWordsWrong)

/- THE SECOND FORM. 'bulk': how many values and letters a reading holds, each counted each time it is reached (what is shared counts as often as it is met; a slice's spare places count too). A statement '..UptoSaid' is the law's where the arguments, and the package variables that the reading takes, are together of bulk at most 1048576: NARROWER than '..Said'. Prove '..Said' where nothing that the law and all that it calls make is longer than what came in: it says more and counts as full. Else prove '..UptoSaid'. A law counts once. -/
mutual
def uptoBulk {H : Type} : DataW H → Nat
  | .lit (.string bytes) => bytes.length + 1
  | .lit _ => 1
  | .nil => 1
  | .ptr d => uptoBulk d + 1
  | .slice elems spare => uptoBulkAll elems + uptoBulkAll spare + 1
  | .agg parts => uptoBulkAll parts + 1
  | .iface _ d => uptoBulk d + 1
  | .map entries => uptoBulkEntries entries + 1
  | .held _ => 1
def uptoBulkAll {H : Type} : List (DataW H) → Nat
  | [] => 0
  | d :: r => uptoBulk d + uptoBulkAll r
def uptoBulkEntries {H : Type} : List (Lit × DataW H) → Nat
  | [] => 0
  | x :: r => uptoBulkEntry x + uptoBulkEntries r
def uptoBulkEntry {H : Type} : Lit × DataW H → Nat
  | (.string bytes, d) => bytes.length + uptoBulk d + 1
  | (_, d) => uptoBulk d + 1
 end
def uptoSmall : (H : Type) → List (DataW H) → Bool := fun _ ds => decide (uptoBulkAll ds ≤ 1048576)
def OpenSpec.upto (s : _root_.Go.ChangeSpec) : _root_.Go.OpenSpec := { _root_.Go.OpenSpec.ofChange s with cond := some uptoSmall }

/-- 'tranchelaw05.ProcNames', WHERE WHAT IT READS IS OF BULK AT MOST 1048576: true; the input reads as it did. -/
def procNamesUptoRow : OpenClaim := { program := "ytbakfkhmopebnaa", sum := "c367925e46ac0c7dd8d37b2980f19a201cac461f178a5d9f502228f45f8891cd", func := "tranche/tranchelaw05.ProcNames", spec := "procNames", unfollowed := true, recurses := true, apart := false, narrowed := true }
def ProcNamesUptoSaid : Prop := procNamesUptoRow.holds Try.pinned (OpenSpec.upto procNamesSpec)

/-- 'tranchelaw05.ProcChecks', WHERE WHAT IT READS IS OF BULK AT MOST 1048576: true; the input reads as it did. -/
def procChecksUptoRow : OpenClaim := { program := "ytbakfkhmopebnaa", sum := "c367925e46ac0c7dd8d37b2980f19a201cac461f178a5d9f502228f45f8891cd", func := "tranche/tranchelaw05.ProcChecks", spec := "procChecks", unfollowed := true, recurses := true, apart := false, narrowed := true }
def ProcChecksUptoSaid : Prop := procChecksUptoRow.holds Try.pinned (OpenSpec.upto procChecksSpec)

/-- 'tranchelaw05.ProcBytes', WHERE WHAT IT READS IS OF BULK AT MOST 1048576: true; the input reads as it did. -/
def procBytesUptoRow : OpenClaim := { program := "ytbakfkhmopebnaa", sum := "c367925e46ac0c7dd8d37b2980f19a201cac461f178a5d9f502228f45f8891cd", func := "tranche/tranchelaw05.ProcBytes", spec := "procBytes", unfollowed := true, recurses := true, apart := false, narrowed := true }
def ProcBytesUptoSaid : Prop := procBytesUptoRow.holds Try.pinned (OpenSpec.upto procBytesSpec)

/-- 'tranchelaw05.ProcFits', WHERE WHAT IT READS IS OF BULK AT MOST 1048576: true; the input reads as it did. -/
def procFitsUptoRow : OpenClaim := { program := "ytbakfkhmopebnaa", sum := "c367925e46ac0c7dd8d37b2980f19a201cac461f178a5d9f502228f45f8891cd", func := "tranche/tranchelaw05.ProcFits", spec := "procFits", unfollowed := true, recurses := true, apart := false, narrowed := true }
def ProcFitsUptoSaid : Prop := procFitsUptoRow.holds Try.pinned (OpenSpec.upto procFitsSpec)

/-- 'tranchelaw05.ProcBack', WHERE WHAT IT READS IS OF BULK AT MOST 1048576: true; the input reads as it did. -/
def procBackUptoRow : OpenClaim := { program := "ytbakfkhmopebnaa", sum := "c367925e46ac0c7dd8d37b2980f19a201cac461f178a5d9f502228f45f8891cd", func := "tranche/tranchelaw05.ProcBack", spec := "procBack", unfollowed := true, recurses := true, apart := false, narrowed := true }
def ProcBackUptoSaid : Prop := procBackUptoRow.holds Try.pinned (OpenSpec.upto procBackSpec)

/-- 'tranchelaw05.ProcWords', WHERE WHAT IT READS IS OF BULK AT MOST 1048576: true; the input reads as it did. -/
def procWordsUptoRow : OpenClaim := { program := "ytbakfkhmopebnaa", sum := "c367925e46ac0c7dd8d37b2980f19a201cac461f178a5d9f502228f45f8891cd", func := "tranche/tranchelaw05.ProcWords", spec := "procWords", unfollowed := true, recurses := true, apart := false, narrowed := true }
def ProcWordsUptoSaid : Prop := procWordsUptoRow.holds Try.pinned (OpenSpec.upto procWordsSpec)

end Rows
end Go.Proofs.Ytbakfkhmopebnaa

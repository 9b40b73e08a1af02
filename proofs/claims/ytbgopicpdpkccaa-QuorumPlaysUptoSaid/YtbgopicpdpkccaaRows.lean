/-
  No cell of these rows narrows 'for every input' (looked for: loops, veiled, ifaces, maps, wideKeys, modest, calm, conditions, laid).
  DERIVED. THE GIVEN ROWS OF THIS SEAT. 7 by the template 'for every input the law returns true; each argument reads behind the call as it read before'; 0 by the template 'total and deterministic' (their statements: YtbgopicpdpkccaaTotals.lean).
  GIVEN WITH THE SEED: the statements are not yours to turn. If you find one false, say at which input.
  Laid BY PROGRAM, IN A SANDBOX (cutbox-rows.mjs): the forced cells as the released guide's own fill.sh prints them over the translation dbfc46c4646621d6… (all of the seat's roots in one cut). By AI agents, Wed Nov 11 2026. No macro, syntax, notation, axiom, sorry.
-/
import Derived.Test.YtbgopicpdpkccaaChecked
import GoSem.Claim
import GoSem.ClaimJoined
import GoSem.ClaimMapViews
import Derived.JoinedTies
import Derived.KernelRfl
namespace Go.Proofs.Ytbgopicpdpkccaa
/- THE CELL 'sum', in the pinned program and in every row, IS THE sha256 OF THE DUMP (.gsa) THAT YtbgopicpdpkccaaProg.lean LOADS. Nothing in Lean hashes anything: it is a label: what it is worth is what the hold of that sum in a sandbox is worth. -/
noncomputable def Try.pinned : Pinned := { name := "ytbgopicpdpkccaa", sum := "dbfc46c4646621d6382938df8be4e3900efc72b25bb3282a2f26fb8d6fe27e54", checked := Try.checked }
namespace Rows
def none {H : Type} : Left H := { results := [], args := [] }

/-- 'tranchelaw27.QuorumNames': WHATEVER THE INPUT: true; the input reads as it did. -/
def quorumNamesSpec : ChangeSpec := { name := "quorumNames", fn := fun _ => fun
  | [] => { results := [.lit (.bool true)], args := [] }
  | _ => none }
def quorumNamesRow : OpenClaim := { program := "ytbgopicpdpkccaa", sum := "dbfc46c4646621d6382938df8be4e3900efc72b25bb3282a2f26fb8d6fe27e54", func := "tranche/tranchelaw27.QuorumNames", spec := "quorumNames", unfollowed := true, recurses := true, plainKeys := false, apart := false }
def QuorumNamesSaid : Prop := quorumNamesRow.holds Try.pinned (OpenSpec.ofChange quorumNamesSpec)

/-- ITS FALSE NEIGHBOUR: 'it returns false'. Refute it at one input. -/
def quorumNamesWrong : ChangeSpec := { name := "quorumNames", fn := fun _ => fun
  | [] => { results := [.lit (.bool false)], args := [] }
  | _ => none }
def QuorumNamesWrongFalsely : Prop := quorumNamesRow.holds Try.pinned (OpenSpec.ofChange quorumNamesWrong)

/-- 'tranchelaw27.QuorumEnds': WHATEVER THE INPUT: true; the input reads as it did. -/
def quorumEndsSpec : ChangeSpec := { name := "quorumEnds", fn := fun _ => fun
  | [d1, d2, d3, d4, d5] => { results := [.lit (.bool true)], args := [d1, d2, d3, d4, d5] }
  | _ => none }
def quorumEndsRow : OpenClaim := { program := "ytbgopicpdpkccaa", sum := "dbfc46c4646621d6382938df8be4e3900efc72b25bb3282a2f26fb8d6fe27e54", func := "tranche/tranchelaw27.QuorumEnds", spec := "quorumEnds", unfollowed := true, recurses := true, plainKeys := false, apart := false }
def QuorumEndsSaid : Prop := quorumEndsRow.holds Try.pinned (OpenSpec.ofChange quorumEndsSpec)

/-- ITS FALSE NEIGHBOUR: 'it returns false'. Refute it at one input. -/
def quorumEndsWrong : ChangeSpec := { name := "quorumEnds", fn := fun _ => fun
  | [d1, d2, d3, d4, d5] => { results := [.lit (.bool false)], args := [d1, d2, d3, d4, d5] }
  | _ => none }
def QuorumEndsWrongFalsely : Prop := quorumEndsRow.holds Try.pinned (OpenSpec.ofChange quorumEndsWrong)

/-- 'tranchelaw27.QuorumBallots': WHATEVER THE INPUT: true; the input reads as it did. -/
def quorumBallotsSpec : ChangeSpec := { name := "quorumBallots", fn := fun _ => fun
  | [d1, d2, d3] => { results := [.lit (.bool true)], args := [d1, d2, d3] }
  | _ => none }
def quorumBallotsRow : OpenClaim := { program := "ytbgopicpdpkccaa", sum := "dbfc46c4646621d6382938df8be4e3900efc72b25bb3282a2f26fb8d6fe27e54", func := "tranche/tranchelaw27.QuorumBallots", spec := "quorumBallots", unfollowed := true, recurses := true, plainKeys := false, apart := false }
def QuorumBallotsSaid : Prop := quorumBallotsRow.holds Try.pinned (OpenSpec.ofChange quorumBallotsSpec)

/-- ITS FALSE NEIGHBOUR: 'it returns false'. Refute it at one input. -/
def quorumBallotsWrong : ChangeSpec := { name := "quorumBallots", fn := fun _ => fun
  | [d1, d2, d3] => { results := [.lit (.bool false)], args := [d1, d2, d3] }
  | _ => none }
def QuorumBallotsWrongFalsely : Prop := quorumBallotsRow.holds Try.pinned (OpenSpec.ofChange quorumBallotsWrong)

/-- 'tranchelaw27.QuorumAgrees': WHATEVER THE INPUT: true; the input reads as it did. -/
def quorumAgreesSpec : ChangeSpec := { name := "quorumAgrees", fn := fun _ => fun
  | [d1, d2, d3] => { results := [.lit (.bool true)], args := [d1, d2, d3] }
  | _ => none }
def quorumAgreesRow : OpenClaim := { program := "ytbgopicpdpkccaa", sum := "dbfc46c4646621d6382938df8be4e3900efc72b25bb3282a2f26fb8d6fe27e54", func := "tranche/tranchelaw27.QuorumAgrees", spec := "quorumAgrees", unfollowed := true, recurses := true, plainKeys := false, apart := false }
def QuorumAgreesSaid : Prop := quorumAgreesRow.holds Try.pinned (OpenSpec.ofChange quorumAgreesSpec)

/-- ITS FALSE NEIGHBOUR: 'it returns false'. Refute it at one input. -/
def quorumAgreesWrong : ChangeSpec := { name := "quorumAgrees", fn := fun _ => fun
  | [d1, d2, d3] => { results := [.lit (.bool false)], args := [d1, d2, d3] }
  | _ => none }
def QuorumAgreesWrongFalsely : Prop := quorumAgreesRow.holds Try.pinned (OpenSpec.ofChange quorumAgreesWrong)

/-- 'tranchelaw27.QuorumCatches': WHATEVER THE INPUT: true; the input reads as it did. -/
def quorumCatchesSpec : ChangeSpec := { name := "quorumCatches", fn := fun _ => fun
  | [d1, d2, d3, d4] => { results := [.lit (.bool true)], args := [d1, d2, d3, d4] }
  | _ => none }
def quorumCatchesRow : OpenClaim := { program := "ytbgopicpdpkccaa", sum := "dbfc46c4646621d6382938df8be4e3900efc72b25bb3282a2f26fb8d6fe27e54", func := "tranche/tranchelaw27.QuorumCatches", spec := "quorumCatches", unfollowed := true, recurses := true, plainKeys := false, apart := false }
def QuorumCatchesSaid : Prop := quorumCatchesRow.holds Try.pinned (OpenSpec.ofChange quorumCatchesSpec)

/-- ITS FALSE NEIGHBOUR: 'it returns false'. Refute it at one input. -/
def quorumCatchesWrong : ChangeSpec := { name := "quorumCatches", fn := fun _ => fun
  | [d1, d2, d3, d4] => { results := [.lit (.bool false)], args := [d1, d2, d3, d4] }
  | _ => none }
def QuorumCatchesWrongFalsely : Prop := quorumCatchesRow.holds Try.pinned (OpenSpec.ofChange quorumCatchesWrong)

/-- 'tranchelaw27.QuorumPlays': WHATEVER THE INPUT: true; the input reads as it did. -/
def quorumPlaysSpec : ChangeSpec := { name := "quorumPlays", fn := fun _ => fun
  | [d1, d2] => { results := [.lit (.bool true)], args := [d1, d2] }
  | _ => none }
def quorumPlaysRow : OpenClaim := { program := "ytbgopicpdpkccaa", sum := "dbfc46c4646621d6382938df8be4e3900efc72b25bb3282a2f26fb8d6fe27e54", func := "tranche/tranchelaw27.QuorumPlays", spec := "quorumPlays", unfollowed := true, recurses := true, plainKeys := false, apart := false }
def QuorumPlaysSaid : Prop := quorumPlaysRow.holds Try.pinned (OpenSpec.ofChange quorumPlaysSpec)

/-- ITS FALSE NEIGHBOUR: 'it returns false'. Refute it at one input. -/
def quorumPlaysWrong : ChangeSpec := { name := "quorumPlays", fn := fun _ => fun
  | [d1, d2] => { results := [.lit (.bool false)], args := [d1, d2] }
  | _ => none }
def QuorumPlaysWrongFalsely : Prop := quorumPlaysRow.holds Try.pinned (OpenSpec.ofChange quorumPlaysWrong)

/-- 'tranchelaw27.QuorumNil': WHATEVER THE INPUT: true; the input reads as it did. -/
def quorumNilSpec : ChangeSpec := { name := "quorumNil", fn := fun _ => fun
  | [d1, d2, d3] => { results := [.lit (.bool true)], args := [d1, d2, d3] }
  | _ => none }
def quorumNilRow : OpenClaim := { program := "ytbgopicpdpkccaa", sum := "dbfc46c4646621d6382938df8be4e3900efc72b25bb3282a2f26fb8d6fe27e54", func := "tranche/tranchelaw27.QuorumNil", spec := "quorumNil", unfollowed := true, recurses := true, plainKeys := false, apart := false }
def QuorumNilSaid : Prop := quorumNilRow.holds Try.pinned (OpenSpec.ofChange quorumNilSpec)

/-- ITS FALSE NEIGHBOUR: 'it returns false'. Refute it at one input. -/
def quorumNilWrong : ChangeSpec := { name := "quorumNil", fn := fun _ => fun
  | [d1, d2, d3] => { results := [.lit (.bool false)], args := [d1, d2, d3] }
  | _ => none }
def QuorumNilWrongFalsely : Prop := quorumNilRow.holds Try.pinned (OpenSpec.ofChange quorumNilWrong)

/- THE SECOND FORM. 'bulk': how many values and letters a reading holds, each counted each time it is reached (what is shared counts as often as it is met; a slice's spare places count too). A statement '..UptoSaid' is the law's where the arguments, and the package variables that the reading takes, are together of bulk at most 1048576: NARROWER than '..Said'. Prove '..Said' where nothing that the law and all that it calls make is longer than what came in: it says more and counts as full. Else prove '..UptoSaid'. A law counts once. -/
mutual
def uptoBulk {H : Type} : DataW H → Nat
  | .lit (.string bytes) => bytes.length + 1
  | .lit _ => 1
  | .nil => 1
  | .ptr d => uptoBulk d + 1
  | .slice elems spare => uptoBulkAll elems + uptoBulkAll spare + 1
  | .agg parts => uptoBulkAll parts + 1
  | .iface _ d => uptoBulk d + 1
  | .map entries => uptoBulkEntries entries + 1
  | .held _ => 1
def uptoBulkAll {H : Type} : List (DataW H) → Nat
  | [] => 0
  | d :: r => uptoBulk d + uptoBulkAll r
def uptoBulkEntries {H : Type} : List (Lit × DataW H) → Nat
  | [] => 0
  | x :: r => uptoBulkEntry x + uptoBulkEntries r
def uptoBulkEntry {H : Type} : Lit × DataW H → Nat
  | (.string bytes, d) => bytes.length + uptoBulk d + 1
  | (_, d) => uptoBulk d + 1
 end
def uptoSmall : (H : Type) → List (DataW H) → Bool := fun _ ds => decide (uptoBulkAll ds ≤ 1048576)
def OpenSpec.upto (s : _root_.Go.ChangeSpec) : _root_.Go.OpenSpec := { _root_.Go.OpenSpec.ofChange s with cond := some uptoSmall }

/-- 'tranchelaw27.QuorumNames', WHERE WHAT IT READS IS OF BULK AT MOST 1048576: true; the input reads as it did. -/
def quorumNamesUptoRow : OpenClaim := { program := "ytbgopicpdpkccaa", sum := "dbfc46c4646621d6382938df8be4e3900efc72b25bb3282a2f26fb8d6fe27e54", func := "tranche/tranchelaw27.QuorumNames", spec := "quorumNames", unfollowed := true, recurses := true, plainKeys := false, apart := false, narrowed := true }
def QuorumNamesUptoSaid : Prop := quorumNamesUptoRow.holds Try.pinned (OpenSpec.upto quorumNamesSpec)

/-- 'tranchelaw27.QuorumEnds', WHERE WHAT IT READS IS OF BULK AT MOST 1048576: true; the input reads as it did. -/
def quorumEndsUptoRow : OpenClaim := { program := "ytbgopicpdpkccaa", sum := "dbfc46c4646621d6382938df8be4e3900efc72b25bb3282a2f26fb8d6fe27e54", func := "tranche/tranchelaw27.QuorumEnds", spec := "quorumEnds", unfollowed := true, recurses := true, plainKeys := false, apart := false, narrowed := true }
def QuorumEndsUptoSaid : Prop := quorumEndsUptoRow.holds Try.pinned (OpenSpec.upto quorumEndsSpec)

/-- 'tranchelaw27.QuorumBallots', WHERE WHAT IT READS IS OF BULK AT MOST 1048576: true; the input reads as it did. -/
def quorumBallotsUptoRow : OpenClaim := { program := "ytbgopicpdpkccaa", sum := "dbfc46c4646621d6382938df8be4e3900efc72b25bb3282a2f26fb8d6fe27e54", func := "tranche/tranchelaw27.QuorumBallots", spec := "quorumBallots", unfollowed := true, recurses := true, plainKeys := false, apart := false, narrowed := true }
def QuorumBallotsUptoSaid : Prop := quorumBallotsUptoRow.holds Try.pinned (OpenSpec.upto quorumBallotsSpec)

/-- 'tranchelaw27.QuorumAgrees', WHERE WHAT IT READS IS OF BULK AT MOST 1048576: true; the input reads as it did. -/
def quorumAgreesUptoRow : OpenClaim := { program := "ytbgopicpdpkccaa", sum := "dbfc46c4646621d6382938df8be4e3900efc72b25bb3282a2f26fb8d6fe27e54", func := "tranche/tranchelaw27.QuorumAgrees", spec := "quorumAgrees", unfollowed := true, recurses := true, plainKeys := false, apart := false, narrowed := true }
def QuorumAgreesUptoSaid : Prop := quorumAgreesUptoRow.holds Try.pinned (OpenSpec.upto quorumAgreesSpec)

/-- 'tranchelaw27.QuorumCatches', WHERE WHAT IT READS IS OF BULK AT MOST 1048576: true; the input reads as it did. -/
def quorumCatchesUptoRow : OpenClaim := { program := "ytbgopicpdpkccaa", sum := "dbfc46c4646621d6382938df8be4e3900efc72b25bb3282a2f26fb8d6fe27e54", func := "tranche/tranchelaw27.QuorumCatches", spec := "quorumCatches", unfollowed := true, recurses := true, plainKeys := false, apart := false, narrowed := true }
def QuorumCatchesUptoSaid : Prop := quorumCatchesUptoRow.holds Try.pinned (OpenSpec.upto quorumCatchesSpec)

/-- 'tranchelaw27.QuorumPlays', WHERE WHAT IT READS IS OF BULK AT MOST 1048576: true; the input reads as it did. -/
def quorumPlaysUptoRow : OpenClaim := { program := "ytbgopicpdpkccaa", sum := "dbfc46c4646621d6382938df8be4e3900efc72b25bb3282a2f26fb8d6fe27e54", func := "tranche/tranchelaw27.QuorumPlays", spec := "quorumPlays", unfollowed := true, recurses := true, plainKeys := false, apart := false, narrowed := true }
def QuorumPlaysUptoSaid : Prop := quorumPlaysUptoRow.holds Try.pinned (OpenSpec.upto quorumPlaysSpec)

/-- 'tranchelaw27.QuorumNil', WHERE WHAT IT READS IS OF BULK AT MOST 1048576: true; the input reads as it did. -/
def quorumNilUptoRow : OpenClaim := { program := "ytbgopicpdpkccaa", sum := "dbfc46c4646621d6382938df8be4e3900efc72b25bb3282a2f26fb8d6fe27e54", func := "tranche/tranchelaw27.QuorumNil", spec := "quorumNil", unfollowed := true, recurses := true, plainKeys := false, apart := false, narrowed := true }
def QuorumNilUptoSaid : Prop := quorumNilUptoRow.holds Try.pinned (OpenSpec.upto quorumNilSpec)

end Rows
end Go.Proofs.Ytbgopicpdpkccaa

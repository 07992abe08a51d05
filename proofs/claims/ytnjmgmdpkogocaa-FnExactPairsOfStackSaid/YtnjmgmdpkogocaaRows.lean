/-
  No cell of these rows narrows 'for every input' (looked for: loops, veiled, ifaces, maps, wideKeys, modest, calm, conditions, laid).
  DERIVED. THE GIVEN ROWS OF THIS SEAT. 10 by the template 'for every input the law returns true; each argument reads behind the call as it read before'; 0 by the template 'total and deterministic' (their statements: YtnjmgmdpkogocaaTotals.lean).
  GIVEN WITH THE SEED: the statements are not yours to turn. If you find one false, say at which input.
  Laid BY PROGRAM, IN A SANDBOX (cutbox-rows.mjs): the forced cells as the released guide's own fill.sh prints them over the translation 3fee1a1ded175c19… (all of the seat's roots in one cut). By AI agents, Wed Nov 11 2026. No macro, syntax, notation, axiom, sorry.
-/
import Derived.Test.YtnjmgmdpkogocaaChecked
import GoSem.Claim
import GoSem.ClaimJoined
import GoSem.ClaimMapViews
import Derived.JoinedTies
import Derived.KernelRfl
namespace Go.Proofs.Ytnjmgmdpkogocaa
/- THE CELL 'sum', in the pinned program and in every row, IS THE sha256 OF THE DUMP (.gsa) THAT YtnjmgmdpkogocaaProg.lean LOADS. Nothing in Lean hashes anything: it is a label: what it is worth is what the hold of that sum in a sandbox is worth. -/
noncomputable def Try.pinned : Pinned := { name := "ytnjmgmdpkogocaa", sum := "3fee1a1ded175c190d9de4cb4f263f9bd790a1899906ceb3d731e57887ab2b96", checked := Try.checked }
namespace Rows
def none {H : Type} : Left H := { results := [], args := [] }

/-- 'laws.FnExactSetOf': WHATEVER THE INPUT: true; the input reads as it did. -/
def fnExactSetOfSpec : ChangeSpec := { name := "fnExactSetOf", fn := fun _ => fun
  | [d1, d2] => { results := [.lit (.bool true)], args := [d1, d2] }
  | _ => none }
def fnExactSetOfRow : OpenClaim := { program := "ytnjmgmdpkogocaa", sum := "3fee1a1ded175c190d9de4cb4f263f9bd790a1899906ceb3d731e57887ab2b96", func := "loop.example/g01354/laws.FnExactSetOf", spec := "fnExactSetOf", unfollowed := true, recurses := true, plainKeys := false, apart := false }
def FnExactSetOfSaid : Prop := fnExactSetOfRow.holds Try.pinned (OpenSpec.ofChange fnExactSetOfSpec)

/-- ITS FALSE NEIGHBOUR: 'it returns false'. Refute it at one input. -/
def fnExactSetOfWrong : ChangeSpec := { name := "fnExactSetOf", fn := fun _ => fun
  | [d1, d2] => { results := [.lit (.bool false)], args := [d1, d2] }
  | _ => none }
def FnExactSetOfWrongFalsely : Prop := fnExactSetOfRow.holds Try.pinned (OpenSpec.ofChange fnExactSetOfWrong)

/-- 'laws.FnExactTurnedSet': WHATEVER THE INPUT: true; the input reads as it did. -/
def fnExactTurnedSetSpec : ChangeSpec := { name := "fnExactTurnedSet", fn := fun _ => fun
  | [d] => { results := [.lit (.bool true)], args := [d] }
  | _ => none }
def fnExactTurnedSetRow : OpenClaim := { program := "ytnjmgmdpkogocaa", sum := "3fee1a1ded175c190d9de4cb4f263f9bd790a1899906ceb3d731e57887ab2b96", func := "loop.example/g01354/laws.FnExactTurnedSet", spec := "fnExactTurnedSet", unfollowed := true, recurses := true, plainKeys := false, apart := false }
def FnExactTurnedSetSaid : Prop := fnExactTurnedSetRow.holds Try.pinned (OpenSpec.ofChange fnExactTurnedSetSpec)

/-- ITS FALSE NEIGHBOUR: 'it returns false'. Refute it at one input. -/
def fnExactTurnedSetWrong : ChangeSpec := { name := "fnExactTurnedSet", fn := fun _ => fun
  | [d] => { results := [.lit (.bool false)], args := [d] }
  | _ => none }
def FnExactTurnedSetWrongFalsely : Prop := fnExactTurnedSetRow.holds Try.pinned (OpenSpec.ofChange fnExactTurnedSetWrong)

/-- 'laws.FnExactFlippedSet': WHATEVER THE INPUT: true; the input reads as it did. -/
def fnExactFlippedSetSpec : ChangeSpec := { name := "fnExactFlippedSet", fn := fun _ => fun
  | [d] => { results := [.lit (.bool true)], args := [d] }
  | _ => none }
def fnExactFlippedSetRow : OpenClaim := { program := "ytnjmgmdpkogocaa", sum := "3fee1a1ded175c190d9de4cb4f263f9bd790a1899906ceb3d731e57887ab2b96", func := "loop.example/g01354/laws.FnExactFlippedSet", spec := "fnExactFlippedSet", unfollowed := true, recurses := true, plainKeys := false, apart := false }
def FnExactFlippedSetSaid : Prop := fnExactFlippedSetRow.holds Try.pinned (OpenSpec.ofChange fnExactFlippedSetSpec)

/-- ITS FALSE NEIGHBOUR: 'it returns false'. Refute it at one input. -/
def fnExactFlippedSetWrong : ChangeSpec := { name := "fnExactFlippedSet", fn := fun _ => fun
  | [d] => { results := [.lit (.bool false)], args := [d] }
  | _ => none }
def FnExactFlippedSetWrongFalsely : Prop := fnExactFlippedSetRow.holds Try.pinned (OpenSpec.ofChange fnExactFlippedSetWrong)

/-- 'laws.FnExactMirroredSet': WHATEVER THE INPUT: true; the input reads as it did. -/
def fnExactMirroredSetSpec : ChangeSpec := { name := "fnExactMirroredSet", fn := fun _ => fun
  | [d] => { results := [.lit (.bool true)], args := [d] }
  | _ => none }
def fnExactMirroredSetRow : OpenClaim := { program := "ytnjmgmdpkogocaa", sum := "3fee1a1ded175c190d9de4cb4f263f9bd790a1899906ceb3d731e57887ab2b96", func := "loop.example/g01354/laws.FnExactMirroredSet", spec := "fnExactMirroredSet", unfollowed := true, recurses := true, plainKeys := false, apart := false }
def FnExactMirroredSetSaid : Prop := fnExactMirroredSetRow.holds Try.pinned (OpenSpec.ofChange fnExactMirroredSetSpec)

/-- ITS FALSE NEIGHBOUR: 'it returns false'. Refute it at one input. -/
def fnExactMirroredSetWrong : ChangeSpec := { name := "fnExactMirroredSet", fn := fun _ => fun
  | [d] => { results := [.lit (.bool false)], args := [d] }
  | _ => none }
def FnExactMirroredSetWrongFalsely : Prop := fnExactMirroredSetRow.holds Try.pinned (OpenSpec.ofChange fnExactMirroredSetWrong)

/-- 'laws.FnExactTransposedSet': WHATEVER THE INPUT: true; the input reads as it did. -/
def fnExactTransposedSetSpec : ChangeSpec := { name := "fnExactTransposedSet", fn := fun _ => fun
  | [d] => { results := [.lit (.bool true)], args := [d] }
  | _ => none }
def fnExactTransposedSetRow : OpenClaim := { program := "ytnjmgmdpkogocaa", sum := "3fee1a1ded175c190d9de4cb4f263f9bd790a1899906ceb3d731e57887ab2b96", func := "loop.example/g01354/laws.FnExactTransposedSet", spec := "fnExactTransposedSet", unfollowed := true, recurses := true, plainKeys := false, apart := false }
def FnExactTransposedSetSaid : Prop := fnExactTransposedSetRow.holds Try.pinned (OpenSpec.ofChange fnExactTransposedSetSpec)

/-- ITS FALSE NEIGHBOUR: 'it returns false'. Refute it at one input. -/
def fnExactTransposedSetWrong : ChangeSpec := { name := "fnExactTransposedSet", fn := fun _ => fun
  | [d] => { results := [.lit (.bool false)], args := [d] }
  | _ => none }
def FnExactTransposedSetWrongFalsely : Prop := fnExactTransposedSetRow.holds Try.pinned (OpenSpec.ofChange fnExactTransposedSetWrong)

/-- 'laws.FnExactJoinSets': WHATEVER THE INPUT: true; the input reads as it did. -/
def fnExactJoinSetsSpec : ChangeSpec := { name := "fnExactJoinSets", fn := fun _ => fun
  | [d1, d2] => { results := [.lit (.bool true)], args := [d1, d2] }
  | _ => none }
def fnExactJoinSetsRow : OpenClaim := { program := "ytnjmgmdpkogocaa", sum := "3fee1a1ded175c190d9de4cb4f263f9bd790a1899906ceb3d731e57887ab2b96", func := "loop.example/g01354/laws.FnExactJoinSets", spec := "fnExactJoinSets", unfollowed := true, recurses := true, plainKeys := false, apart := false }
def FnExactJoinSetsSaid : Prop := fnExactJoinSetsRow.holds Try.pinned (OpenSpec.ofChange fnExactJoinSetsSpec)

/-- ITS FALSE NEIGHBOUR: 'it returns false'. Refute it at one input. -/
def fnExactJoinSetsWrong : ChangeSpec := { name := "fnExactJoinSets", fn := fun _ => fun
  | [d1, d2] => { results := [.lit (.bool false)], args := [d1, d2] }
  | _ => none }
def FnExactJoinSetsWrongFalsely : Prop := fnExactJoinSetsRow.holds Try.pinned (OpenSpec.ofChange fnExactJoinSetsWrong)

/-- 'laws.FnExactProductOfSets': WHATEVER THE INPUT: true; the input reads as it did. -/
def fnExactProductOfSetsSpec : ChangeSpec := { name := "fnExactProductOfSets", fn := fun _ => fun
  | [d1, d2] => { results := [.lit (.bool true)], args := [d1, d2] }
  | _ => none }
def fnExactProductOfSetsRow : OpenClaim := { program := "ytnjmgmdpkogocaa", sum := "3fee1a1ded175c190d9de4cb4f263f9bd790a1899906ceb3d731e57887ab2b96", func := "loop.example/g01354/laws.FnExactProductOfSets", spec := "fnExactProductOfSets", unfollowed := true, recurses := true, plainKeys := false, apart := false }
def FnExactProductOfSetsSaid : Prop := fnExactProductOfSetsRow.holds Try.pinned (OpenSpec.ofChange fnExactProductOfSetsSpec)

/-- ITS FALSE NEIGHBOUR: 'it returns false'. Refute it at one input. -/
def fnExactProductOfSetsWrong : ChangeSpec := { name := "fnExactProductOfSets", fn := fun _ => fun
  | [d1, d2] => { results := [.lit (.bool false)], args := [d1, d2] }
  | _ => none }
def FnExactProductOfSetsWrongFalsely : Prop := fnExactProductOfSetsRow.holds Try.pinned (OpenSpec.ofChange fnExactProductOfSetsWrong)

/-- 'laws.FnExactPutTile': WHATEVER THE INPUT: true; the input reads as it did. -/
def fnExactPutTileSpec : ChangeSpec := { name := "fnExactPutTile", fn := fun _ => fun
  | [d1, d2] => { results := [.lit (.bool true)], args := [d1, d2] }
  | _ => none }
def fnExactPutTileRow : OpenClaim := { program := "ytnjmgmdpkogocaa", sum := "3fee1a1ded175c190d9de4cb4f263f9bd790a1899906ceb3d731e57887ab2b96", func := "loop.example/g01354/laws.FnExactPutTile", spec := "fnExactPutTile", unfollowed := true, recurses := true, plainKeys := false, apart := false }
def FnExactPutTileSaid : Prop := fnExactPutTileRow.holds Try.pinned (OpenSpec.ofChange fnExactPutTileSpec)

/-- ITS FALSE NEIGHBOUR: 'it returns false'. Refute it at one input. -/
def fnExactPutTileWrong : ChangeSpec := { name := "fnExactPutTile", fn := fun _ => fun
  | [d1, d2] => { results := [.lit (.bool false)], args := [d1, d2] }
  | _ => none }
def FnExactPutTileWrongFalsely : Prop := fnExactPutTileRow.holds Try.pinned (OpenSpec.ofChange fnExactPutTileWrong)

/-- 'laws.FnExactRenameColours': WHATEVER THE INPUT: true; the input reads as it did. -/
def fnExactRenameColoursSpec : ChangeSpec := { name := "fnExactRenameColours", fn := fun _ => fun
  | [d1, d2] => { results := [.lit (.bool true)], args := [d1, d2] }
  | _ => none }
def fnExactRenameColoursRow : OpenClaim := { program := "ytnjmgmdpkogocaa", sum := "3fee1a1ded175c190d9de4cb4f263f9bd790a1899906ceb3d731e57887ab2b96", func := "loop.example/g01354/laws.FnExactRenameColours", spec := "fnExactRenameColours", unfollowed := true, recurses := true, plainKeys := false, apart := false }
def FnExactRenameColoursSaid : Prop := fnExactRenameColoursRow.holds Try.pinned (OpenSpec.ofChange fnExactRenameColoursSpec)

/-- ITS FALSE NEIGHBOUR: 'it returns false'. Refute it at one input. -/
def fnExactRenameColoursWrong : ChangeSpec := { name := "fnExactRenameColours", fn := fun _ => fun
  | [d1, d2] => { results := [.lit (.bool false)], args := [d1, d2] }
  | _ => none }
def FnExactRenameColoursWrongFalsely : Prop := fnExactRenameColoursRow.holds Try.pinned (OpenSpec.ofChange fnExactRenameColoursWrong)

/-- 'laws.FnExactPairsOfStack': WHATEVER THE INPUT: true; the input reads as it did. -/
def fnExactPairsOfStackSpec : ChangeSpec := { name := "fnExactPairsOfStack", fn := fun _ => fun
  | [d1, d2] => { results := [.lit (.bool true)], args := [d1, d2] }
  | _ => none }
def fnExactPairsOfStackRow : OpenClaim := { program := "ytnjmgmdpkogocaa", sum := "3fee1a1ded175c190d9de4cb4f263f9bd790a1899906ceb3d731e57887ab2b96", func := "loop.example/g01354/laws.FnExactPairsOfStack", spec := "fnExactPairsOfStack", unfollowed := true, recurses := true, plainKeys := false, apart := false }
def FnExactPairsOfStackSaid : Prop := fnExactPairsOfStackRow.holds Try.pinned (OpenSpec.ofChange fnExactPairsOfStackSpec)

/-- ITS FALSE NEIGHBOUR: 'it returns false'. Refute it at one input. -/
def fnExactPairsOfStackWrong : ChangeSpec := { name := "fnExactPairsOfStack", fn := fun _ => fun
  | [d1, d2] => { results := [.lit (.bool false)], args := [d1, d2] }
  | _ => none }
def FnExactPairsOfStackWrongFalsely : Prop := fnExactPairsOfStackRow.holds Try.pinned (OpenSpec.ofChange fnExactPairsOfStackWrong)

/- THE SECOND FORM. 'bulk': how many values and letters a reading holds, each counted each time it is reached (what is shared counts as often as it is met; a slice's spare places count too). A statement '..UptoSaid' is the law's where the arguments, and the package variables that the reading takes, are together of bulk at most 1048576: NARROWER than '..Said'. Prove '..Said' where nothing that the law and all that it calls make is longer than what came in: it says more and counts as full. Else prove '..UptoSaid'. A law counts once. -/
mutual
def uptoBulk {H : Type} : DataW H → Nat
  | .lit (.string bytes) => bytes.length + 1
  | .lit _ => 1
  | .nil => 1
  | .ptr d => uptoBulk d + 1
  | .slice elems spare => uptoBulkAll elems + uptoBulkAll spare + 1
  | .agg parts => uptoBulkAll parts + 1
  | .iface _ d => uptoBulk d + 1
  | .map entries => uptoBulkEntries entries + 1
  | .held _ => 1
def uptoBulkAll {H : Type} : List (DataW H) → Nat
  | [] => 0
  | d :: r => uptoBulk d + uptoBulkAll r
def uptoBulkEntries {H : Type} : List (Lit × DataW H) → Nat
  | [] => 0
  | x :: r => uptoBulkEntry x + uptoBulkEntries r
def uptoBulkEntry {H : Type} : Lit × DataW H → Nat
  | (.string bytes, d) => bytes.length + uptoBulk d + 1
  | (_, d) => uptoBulk d + 1
 end
def uptoSmall : (H : Type) → List (DataW H) → Bool := fun _ ds => decide (uptoBulkAll ds ≤ 1048576)
def OpenSpec.upto (s : _root_.Go.ChangeSpec) : _root_.Go.OpenSpec := { _root_.Go.OpenSpec.ofChange s with cond := some uptoSmall }

/-- 'laws.FnExactSetOf', WHERE WHAT IT READS IS OF BULK AT MOST 1048576: true; the input reads as it did. -/
def fnExactSetOfUptoRow : OpenClaim := { program := "ytnjmgmdpkogocaa", sum := "3fee1a1ded175c190d9de4cb4f263f9bd790a1899906ceb3d731e57887ab2b96", func := "loop.example/g01354/laws.FnExactSetOf", spec := "fnExactSetOf", unfollowed := true, recurses := true, plainKeys := false, apart := false, narrowed := true }
def FnExactSetOfUptoSaid : Prop := fnExactSetOfUptoRow.holds Try.pinned (OpenSpec.upto fnExactSetOfSpec)

/-- 'laws.FnExactTurnedSet', WHERE WHAT IT READS IS OF BULK AT MOST 1048576: true; the input reads as it did. -/
def fnExactTurnedSetUptoRow : OpenClaim := { program := "ytnjmgmdpkogocaa", sum := "3fee1a1ded175c190d9de4cb4f263f9bd790a1899906ceb3d731e57887ab2b96", func := "loop.example/g01354/laws.FnExactTurnedSet", spec := "fnExactTurnedSet", unfollowed := true, recurses := true, plainKeys := false, apart := false, narrowed := true }
def FnExactTurnedSetUptoSaid : Prop := fnExactTurnedSetUptoRow.holds Try.pinned (OpenSpec.upto fnExactTurnedSetSpec)

/-- 'laws.FnExactFlippedSet', WHERE WHAT IT READS IS OF BULK AT MOST 1048576: true; the input reads as it did. -/
def fnExactFlippedSetUptoRow : OpenClaim := { program := "ytnjmgmdpkogocaa", sum := "3fee1a1ded175c190d9de4cb4f263f9bd790a1899906ceb3d731e57887ab2b96", func := "loop.example/g01354/laws.FnExactFlippedSet", spec := "fnExactFlippedSet", unfollowed := true, recurses := true, plainKeys := false, apart := false, narrowed := true }
def FnExactFlippedSetUptoSaid : Prop := fnExactFlippedSetUptoRow.holds Try.pinned (OpenSpec.upto fnExactFlippedSetSpec)

/-- 'laws.FnExactMirroredSet', WHERE WHAT IT READS IS OF BULK AT MOST 1048576: true; the input reads as it did. -/
def fnExactMirroredSetUptoRow : OpenClaim := { program := "ytnjmgmdpkogocaa", sum := "3fee1a1ded175c190d9de4cb4f263f9bd790a1899906ceb3d731e57887ab2b96", func := "loop.example/g01354/laws.FnExactMirroredSet", spec := "fnExactMirroredSet", unfollowed := true, recurses := true, plainKeys := false, apart := false, narrowed := true }
def FnExactMirroredSetUptoSaid : Prop := fnExactMirroredSetUptoRow.holds Try.pinned (OpenSpec.upto fnExactMirroredSetSpec)

/-- 'laws.FnExactTransposedSet', WHERE WHAT IT READS IS OF BULK AT MOST 1048576: true; the input reads as it did. -/
def fnExactTransposedSetUptoRow : OpenClaim := { program := "ytnjmgmdpkogocaa", sum := "3fee1a1ded175c190d9de4cb4f263f9bd790a1899906ceb3d731e57887ab2b96", func := "loop.example/g01354/laws.FnExactTransposedSet", spec := "fnExactTransposedSet", unfollowed := true, recurses := true, plainKeys := false, apart := false, narrowed := true }
def FnExactTransposedSetUptoSaid : Prop := fnExactTransposedSetUptoRow.holds Try.pinned (OpenSpec.upto fnExactTransposedSetSpec)

/-- 'laws.FnExactJoinSets', WHERE WHAT IT READS IS OF BULK AT MOST 1048576: true; the input reads as it did. -/
def fnExactJoinSetsUptoRow : OpenClaim := { program := "ytnjmgmdpkogocaa", sum := "3fee1a1ded175c190d9de4cb4f263f9bd790a1899906ceb3d731e57887ab2b96", func := "loop.example/g01354/laws.FnExactJoinSets", spec := "fnExactJoinSets", unfollowed := true, recurses := true, plainKeys := false, apart := false, narrowed := true }
def FnExactJoinSetsUptoSaid : Prop := fnExactJoinSetsUptoRow.holds Try.pinned (OpenSpec.upto fnExactJoinSetsSpec)

/-- 'laws.FnExactProductOfSets', WHERE WHAT IT READS IS OF BULK AT MOST 1048576: true; the input reads as it did. -/
def fnExactProductOfSetsUptoRow : OpenClaim := { program := "ytnjmgmdpkogocaa", sum := "3fee1a1ded175c190d9de4cb4f263f9bd790a1899906ceb3d731e57887ab2b96", func := "loop.example/g01354/laws.FnExactProductOfSets", spec := "fnExactProductOfSets", unfollowed := true, recurses := true, plainKeys := false, apart := false, narrowed := true }
def FnExactProductOfSetsUptoSaid : Prop := fnExactProductOfSetsUptoRow.holds Try.pinned (OpenSpec.upto fnExactProductOfSetsSpec)

/-- 'laws.FnExactPutTile', WHERE WHAT IT READS IS OF BULK AT MOST 1048576: true; the input reads as it did. -/
def fnExactPutTileUptoRow : OpenClaim := { program := "ytnjmgmdpkogocaa", sum := "3fee1a1ded175c190d9de4cb4f263f9bd790a1899906ceb3d731e57887ab2b96", func := "loop.example/g01354/laws.FnExactPutTile", spec := "fnExactPutTile", unfollowed := true, recurses := true, plainKeys := false, apart := false, narrowed := true }
def FnExactPutTileUptoSaid : Prop := fnExactPutTileUptoRow.holds Try.pinned (OpenSpec.upto fnExactPutTileSpec)

/-- 'laws.FnExactRenameColours', WHERE WHAT IT READS IS OF BULK AT MOST 1048576: true; the input reads as it did. -/
def fnExactRenameColoursUptoRow : OpenClaim := { program := "ytnjmgmdpkogocaa", sum := "3fee1a1ded175c190d9de4cb4f263f9bd790a1899906ceb3d731e57887ab2b96", func := "loop.example/g01354/laws.FnExactRenameColours", spec := "fnExactRenameColours", unfollowed := true, recurses := true, plainKeys := false, apart := false, narrowed := true }
def FnExactRenameColoursUptoSaid : Prop := fnExactRenameColoursUptoRow.holds Try.pinned (OpenSpec.upto fnExactRenameColoursSpec)

/-- 'laws.FnExactPairsOfStack', WHERE WHAT IT READS IS OF BULK AT MOST 1048576: true; the input reads as it did. -/
def fnExactPairsOfStackUptoRow : OpenClaim := { program := "ytnjmgmdpkogocaa", sum := "3fee1a1ded175c190d9de4cb4f263f9bd790a1899906ceb3d731e57887ab2b96", func := "loop.example/g01354/laws.FnExactPairsOfStack", spec := "fnExactPairsOfStack", unfollowed := true, recurses := true, plainKeys := false, apart := false, narrowed := true }
def FnExactPairsOfStackUptoSaid : Prop := fnExactPairsOfStackUptoRow.holds Try.pinned (OpenSpec.upto fnExactPairsOfStackSpec)

end Rows
end Go.Proofs.Ytnjmgmdpkogocaa

/-
  No cell of these rows narrows 'for every input' (looked for: loops, veiled, ifaces, maps, wideKeys, modest, calm, conditions, laid).
  DERIVED. THE GIVEN ROWS OF THIS SEAT. 12 by the template 'for every input the law returns true; each argument reads behind the call as it read before'; 0 by the template 'total and deterministic' (their statements: YtaidmloaoogmoaaTotals.lean).
  GIVEN WITH THE SEED: the statements are not yours to turn. If you find one false, say at which input.
  Laid BY PROGRAM, IN A SANDBOX (cutbox-rows.mjs): the forced cells as the released guide's own fill.sh prints them over the translation c281d36e20c0e85d… (all of the seat's roots in one cut). By AI agents, Wed Nov 11 2026. No macro, syntax, notation, axiom, sorry.
-/
import Derived.Test.YtaidmloaoogmoaaChecked
import GoSem.Claim
import GoSem.ClaimJoined
import GoSem.ClaimMapViews
import Derived.JoinedTies
import Derived.KernelRfl
namespace Go.Proofs.Ytaidmloaoogmoaa
/- THE CELL 'sum', in the pinned program and in every row, IS THE sha256 OF THE DUMP (.gsa) THAT YtaidmloaoogmoaaProg.lean LOADS. Nothing in Lean hashes anything: it is a label: what it is worth is what the hold of that sum in a sandbox is worth. -/
noncomputable def Try.pinned : Pinned := { name := "ytaidmloaoogmoaa", sum := "c281d36e20c0e85d5b57634dabc4e53699d1adf66f069dbda34dd8d6cdba3b6e", checked := Try.checked }
namespace Rows
def none {H : Type} : Left H := { results := [], args := [] }

/-- 'laws.FnExactConstants': WHATEVER THE INPUT: true; the input reads as it did. -/
def fnExactConstantsSpec : ChangeSpec := { name := "fnExactConstants", fn := fun _ => fun
  | [] => { results := [.lit (.bool true)], args := [] }
  | _ => none }
def fnExactConstantsRow : OpenClaim := { program := "ytaidmloaoogmoaa", sum := "c281d36e20c0e85d5b57634dabc4e53699d1adf66f069dbda34dd8d6cdba3b6e", func := "loop.example/g01354/laws.FnExactConstants", spec := "fnExactConstants", apart := false }
def FnExactConstantsSaid : Prop := fnExactConstantsRow.holds Try.pinned (OpenSpec.ofChange fnExactConstantsSpec)

/-- ITS FALSE NEIGHBOUR: 'it returns false'. Refute it at one input. -/
def fnExactConstantsWrong : ChangeSpec := { name := "fnExactConstants", fn := fun _ => fun
  | [] => { results := [.lit (.bool false)], args := [] }
  | _ => none }
def FnExactConstantsWrongFalsely : Prop := fnExactConstantsRow.holds Try.pinned (OpenSpec.ofChange fnExactConstantsWrong)

/-- 'laws.FnExactIsSet': WHATEVER THE INPUT: true; the input reads as it did. -/
def fnExactIsSetSpec : ChangeSpec := { name := "fnExactIsSet", fn := fun _ => fun
  | [d] => { results := [.lit (.bool true)], args := [d] }
  | _ => none }
def fnExactIsSetRow : OpenClaim := { program := "ytaidmloaoogmoaa", sum := "c281d36e20c0e85d5b57634dabc4e53699d1adf66f069dbda34dd8d6cdba3b6e", func := "loop.example/g01354/laws.FnExactIsSet", spec := "fnExactIsSet", unfollowed := true, recurses := true, apart := false }
def FnExactIsSetSaid : Prop := fnExactIsSetRow.holds Try.pinned (OpenSpec.ofChange fnExactIsSetSpec)

/-- ITS FALSE NEIGHBOUR: 'it returns false'. Refute it at one input. -/
def fnExactIsSetWrong : ChangeSpec := { name := "fnExactIsSet", fn := fun _ => fun
  | [d] => { results := [.lit (.bool false)], args := [d] }
  | _ => none }
def FnExactIsSetWrongFalsely : Prop := fnExactIsSetRow.holds Try.pinned (OpenSpec.ofChange fnExactIsSetWrong)

/-- 'laws.FnExactIsDetermined': WHATEVER THE INPUT: true; the input reads as it did. -/
def fnExactIsDeterminedSpec : ChangeSpec := { name := "fnExactIsDetermined", fn := fun _ => fun
  | [d1, d2] => { results := [.lit (.bool true)], args := [d1, d2] }
  | _ => none }
def fnExactIsDeterminedRow : OpenClaim := { program := "ytaidmloaoogmoaa", sum := "c281d36e20c0e85d5b57634dabc4e53699d1adf66f069dbda34dd8d6cdba3b6e", func := "loop.example/g01354/laws.FnExactIsDetermined", spec := "fnExactIsDetermined", unfollowed := true, recurses := true, apart := false }
def FnExactIsDeterminedSaid : Prop := fnExactIsDeterminedRow.holds Try.pinned (OpenSpec.ofChange fnExactIsDeterminedSpec)

/-- ITS FALSE NEIGHBOUR: 'it returns false'. Refute it at one input. -/
def fnExactIsDeterminedWrong : ChangeSpec := { name := "fnExactIsDetermined", fn := fun _ => fun
  | [d1, d2] => { results := [.lit (.bool false)], args := [d1, d2] }
  | _ => none }
def FnExactIsDeterminedWrongFalsely : Prop := fnExactIsDeterminedRow.holds Try.pinned (OpenSpec.ofChange fnExactIsDeterminedWrong)

/-- 'laws.FnExactIsRow': WHATEVER THE INPUT: true; the input reads as it did. -/
def fnExactIsRowSpec : ChangeSpec := { name := "fnExactIsRow", fn := fun _ => fun
  | [d1, d2] => { results := [.lit (.bool true)], args := [d1, d2] }
  | _ => none }
def fnExactIsRowRow : OpenClaim := { program := "ytaidmloaoogmoaa", sum := "c281d36e20c0e85d5b57634dabc4e53699d1adf66f069dbda34dd8d6cdba3b6e", func := "loop.example/g01354/laws.FnExactIsRow", spec := "fnExactIsRow", unfollowed := true, recurses := true, apart := false }
def FnExactIsRowSaid : Prop := fnExactIsRowRow.holds Try.pinned (OpenSpec.ofChange fnExactIsRowSpec)

/-- ITS FALSE NEIGHBOUR: 'it returns false'. Refute it at one input. -/
def fnExactIsRowWrong : ChangeSpec := { name := "fnExactIsRow", fn := fun _ => fun
  | [d1, d2] => { results := [.lit (.bool false)], args := [d1, d2] }
  | _ => none }
def FnExactIsRowWrongFalsely : Prop := fnExactIsRowRow.holds Try.pinned (OpenSpec.ofChange fnExactIsRowWrong)

/-- 'laws.FnExactCommonTiles': WHATEVER THE INPUT: true; the input reads as it did. -/
def fnExactCommonTilesSpec : ChangeSpec := { name := "fnExactCommonTiles", fn := fun _ => fun
  | [d1, d2] => { results := [.lit (.bool true)], args := [d1, d2] }
  | _ => none }
def fnExactCommonTilesRow : OpenClaim := { program := "ytaidmloaoogmoaa", sum := "c281d36e20c0e85d5b57634dabc4e53699d1adf66f069dbda34dd8d6cdba3b6e", func := "loop.example/g01354/laws.FnExactCommonTiles", spec := "fnExactCommonTiles", unfollowed := true, recurses := true, apart := false }
def FnExactCommonTilesSaid : Prop := fnExactCommonTilesRow.holds Try.pinned (OpenSpec.ofChange fnExactCommonTilesSpec)

/-- ITS FALSE NEIGHBOUR: 'it returns false'. Refute it at one input. -/
def fnExactCommonTilesWrong : ChangeSpec := { name := "fnExactCommonTiles", fn := fun _ => fun
  | [d1, d2] => { results := [.lit (.bool false)], args := [d1, d2] }
  | _ => none }
def FnExactCommonTilesWrongFalsely : Prop := fnExactCommonTilesRow.holds Try.pinned (OpenSpec.ofChange fnExactCommonTilesWrong)

/-- 'laws.FnExactBelowOf': WHATEVER THE INPUT: true; the input reads as it did. -/
def fnExactBelowOfSpec : ChangeSpec := { name := "fnExactBelowOf", fn := fun _ => fun
  | [d1, d2] => { results := [.lit (.bool true)], args := [d1, d2] }
  | _ => none }
def fnExactBelowOfRow : OpenClaim := { program := "ytaidmloaoogmoaa", sum := "c281d36e20c0e85d5b57634dabc4e53699d1adf66f069dbda34dd8d6cdba3b6e", func := "loop.example/g01354/laws.FnExactBelowOf", spec := "fnExactBelowOf", unfollowed := true, recurses := true, apart := false }
def FnExactBelowOfSaid : Prop := fnExactBelowOfRow.holds Try.pinned (OpenSpec.ofChange fnExactBelowOfSpec)

/-- ITS FALSE NEIGHBOUR: 'it returns false'. Refute it at one input. -/
def fnExactBelowOfWrong : ChangeSpec := { name := "fnExactBelowOf", fn := fun _ => fun
  | [d1, d2] => { results := [.lit (.bool false)], args := [d1, d2] }
  | _ => none }
def FnExactBelowOfWrongFalsely : Prop := fnExactBelowOfRow.holds Try.pinned (OpenSpec.ofChange fnExactBelowOfWrong)

/-- 'laws.FnExactRightOf': WHATEVER THE INPUT: true; the input reads as it did. -/
def fnExactRightOfSpec : ChangeSpec := { name := "fnExactRightOf", fn := fun _ => fun
  | [d1, d2] => { results := [.lit (.bool true)], args := [d1, d2] }
  | _ => none }
def fnExactRightOfRow : OpenClaim := { program := "ytaidmloaoogmoaa", sum := "c281d36e20c0e85d5b57634dabc4e53699d1adf66f069dbda34dd8d6cdba3b6e", func := "loop.example/g01354/laws.FnExactRightOf", spec := "fnExactRightOf", unfollowed := true, recurses := true, apart := false }
def FnExactRightOfSaid : Prop := fnExactRightOfRow.holds Try.pinned (OpenSpec.ofChange fnExactRightOfSpec)

/-- ITS FALSE NEIGHBOUR: 'it returns false'. Refute it at one input. -/
def fnExactRightOfWrong : ChangeSpec := { name := "fnExactRightOf", fn := fun _ => fun
  | [d1, d2] => { results := [.lit (.bool false)], args := [d1, d2] }
  | _ => none }
def FnExactRightOfWrongFalsely : Prop := fnExactRightOfRow.holds Try.pinned (OpenSpec.ofChange fnExactRightOfWrong)

/-- 'laws.FnExactTakeTile': WHATEVER THE INPUT: true; the input reads as it did. -/
def fnExactTakeTileSpec : ChangeSpec := { name := "fnExactTakeTile", fn := fun _ => fun
  | [d1, d2] => { results := [.lit (.bool true)], args := [d1, d2] }
  | _ => none }
def fnExactTakeTileRow : OpenClaim := { program := "ytaidmloaoogmoaa", sum := "c281d36e20c0e85d5b57634dabc4e53699d1adf66f069dbda34dd8d6cdba3b6e", func := "loop.example/g01354/laws.FnExactTakeTile", spec := "fnExactTakeTile", unfollowed := true, recurses := true, apart := false }
def FnExactTakeTileSaid : Prop := fnExactTakeTileRow.holds Try.pinned (OpenSpec.ofChange fnExactTakeTileSpec)

/-- ITS FALSE NEIGHBOUR: 'it returns false'. Refute it at one input. -/
def fnExactTakeTileWrong : ChangeSpec := { name := "fnExactTakeTile", fn := fun _ => fun
  | [d1, d2] => { results := [.lit (.bool false)], args := [d1, d2] }
  | _ => none }
def FnExactTakeTileWrongFalsely : Prop := fnExactTakeTileRow.holds Try.pinned (OpenSpec.ofChange fnExactTakeTileWrong)

/-- 'laws.FnExactWordsOfRow': WHATEVER THE INPUT: true; the input reads as it did. -/
def fnExactWordsOfRowSpec : ChangeSpec := { name := "fnExactWordsOfRow", fn := fun _ => fun
  | [d1, d2] => { results := [.lit (.bool true)], args := [d1, d2] }
  | _ => none }
def fnExactWordsOfRowRow : OpenClaim := { program := "ytaidmloaoogmoaa", sum := "c281d36e20c0e85d5b57634dabc4e53699d1adf66f069dbda34dd8d6cdba3b6e", func := "loop.example/g01354/laws.FnExactWordsOfRow", spec := "fnExactWordsOfRow", unfollowed := true, recurses := true, apart := false }
def FnExactWordsOfRowSaid : Prop := fnExactWordsOfRowRow.holds Try.pinned (OpenSpec.ofChange fnExactWordsOfRowSpec)

/-- ITS FALSE NEIGHBOUR: 'it returns false'. Refute it at one input. -/
def fnExactWordsOfRowWrong : ChangeSpec := { name := "fnExactWordsOfRow", fn := fun _ => fun
  | [d1, d2] => { results := [.lit (.bool false)], args := [d1, d2] }
  | _ => none }
def FnExactWordsOfRowWrongFalsely : Prop := fnExactWordsOfRowRow.holds Try.pinned (OpenSpec.ofChange fnExactWordsOfRowWrong)

/-- 'laws.FnExactIsFilling': WHATEVER THE INPUT: true; the input reads as it did. -/
def fnExactIsFillingSpec : ChangeSpec := { name := "fnExactIsFilling", fn := fun _ => fun
  | [d1, d2] => { results := [.lit (.bool true)], args := [d1, d2] }
  | _ => none }
def fnExactIsFillingRow : OpenClaim := { program := "ytaidmloaoogmoaa", sum := "c281d36e20c0e85d5b57634dabc4e53699d1adf66f069dbda34dd8d6cdba3b6e", func := "loop.example/g01354/laws.FnExactIsFilling", spec := "fnExactIsFilling", unfollowed := true, recurses := true, apart := false }
def FnExactIsFillingSaid : Prop := fnExactIsFillingRow.holds Try.pinned (OpenSpec.ofChange fnExactIsFillingSpec)

/-- ITS FALSE NEIGHBOUR: 'it returns false'. Refute it at one input. -/
def fnExactIsFillingWrong : ChangeSpec := { name := "fnExactIsFilling", fn := fun _ => fun
  | [d1, d2] => { results := [.lit (.bool false)], args := [d1, d2] }
  | _ => none }
def FnExactIsFillingWrongFalsely : Prop := fnExactIsFillingRow.holds Try.pinned (OpenSpec.ofChange fnExactIsFillingWrong)

/-- 'laws.FnExactBordersOf': WHATEVER THE INPUT: true; the input reads as it did. -/
def fnExactBordersOfSpec : ChangeSpec := { name := "fnExactBordersOf", fn := fun _ => fun
  | [d1, d2] => { results := [.lit (.bool true)], args := [d1, d2] }
  | _ => none }
def fnExactBordersOfRow : OpenClaim := { program := "ytaidmloaoogmoaa", sum := "c281d36e20c0e85d5b57634dabc4e53699d1adf66f069dbda34dd8d6cdba3b6e", func := "loop.example/g01354/laws.FnExactBordersOf", spec := "fnExactBordersOf", unfollowed := true, recurses := true, apart := false }
def FnExactBordersOfSaid : Prop := fnExactBordersOfRow.holds Try.pinned (OpenSpec.ofChange fnExactBordersOfSpec)

/-- ITS FALSE NEIGHBOUR: 'it returns false'. Refute it at one input. -/
def fnExactBordersOfWrong : ChangeSpec := { name := "fnExactBordersOf", fn := fun _ => fun
  | [d1, d2] => { results := [.lit (.bool false)], args := [d1, d2] }
  | _ => none }
def FnExactBordersOfWrongFalsely : Prop := fnExactBordersOfRow.holds Try.pinned (OpenSpec.ofChange fnExactBordersOfWrong)

/-- 'laws.FnExactKeepLasting': WHATEVER THE INPUT: true; the input reads as it did. -/
def fnExactKeepLastingSpec : ChangeSpec := { name := "fnExactKeepLasting", fn := fun _ => fun
  | [d] => { results := [.lit (.bool true)], args := [d] }
  | _ => none }
def fnExactKeepLastingRow : OpenClaim := { program := "ytaidmloaoogmoaa", sum := "c281d36e20c0e85d5b57634dabc4e53699d1adf66f069dbda34dd8d6cdba3b6e", func := "loop.example/g01354/laws.FnExactKeepLasting", spec := "fnExactKeepLasting", unfollowed := true, recurses := true, apart := false }
def FnExactKeepLastingSaid : Prop := fnExactKeepLastingRow.holds Try.pinned (OpenSpec.ofChange fnExactKeepLastingSpec)

/-- ITS FALSE NEIGHBOUR: 'it returns false'. Refute it at one input. -/
def fnExactKeepLastingWrong : ChangeSpec := { name := "fnExactKeepLasting", fn := fun _ => fun
  | [d] => { results := [.lit (.bool false)], args := [d] }
  | _ => none }
def FnExactKeepLastingWrongFalsely : Prop := fnExactKeepLastingRow.holds Try.pinned (OpenSpec.ofChange fnExactKeepLastingWrong)

/- THE SECOND FORM. 'bulk': how many values and letters a reading holds, each counted each time it is reached (what is shared counts as often as it is met; a slice's spare places count too). A statement '..UptoSaid' is the law's where the arguments, and the package variables that the reading takes, are together of bulk at most 1048576: NARROWER than '..Said'. Prove '..Said' where nothing that the law and all that it calls make is longer than what came in: it says more and counts as full. Else prove '..UptoSaid'. A law counts once. -/
mutual
def uptoBulk {H : Type} : DataW H → Nat
  | .lit (.string bytes) => bytes.length + 1
  | .lit _ => 1
  | .nil => 1
  | .ptr d => uptoBulk d + 1
  | .slice elems spare => uptoBulkAll elems + uptoBulkAll spare + 1
  | .agg parts => uptoBulkAll parts + 1
  | .iface _ d => uptoBulk d + 1
  | .map entries => uptoBulkEntries entries + 1
  | .held _ => 1
def uptoBulkAll {H : Type} : List (DataW H) → Nat
  | [] => 0
  | d :: r => uptoBulk d + uptoBulkAll r
def uptoBulkEntries {H : Type} : List (Lit × DataW H) → Nat
  | [] => 0
  | x :: r => uptoBulkEntry x + uptoBulkEntries r
def uptoBulkEntry {H : Type} : Lit × DataW H → Nat
  | (.string bytes, d) => bytes.length + uptoBulk d + 1
  | (_, d) => uptoBulk d + 1
 end
def uptoSmall : (H : Type) → List (DataW H) → Bool := fun _ ds => decide (uptoBulkAll ds ≤ 1048576)
def OpenSpec.upto (s : _root_.Go.ChangeSpec) : _root_.Go.OpenSpec := { _root_.Go.OpenSpec.ofChange s with cond := some uptoSmall }

/-- 'laws.FnExactConstants', WHERE WHAT IT READS IS OF BULK AT MOST 1048576: true; the input reads as it did. -/
def fnExactConstantsUptoRow : OpenClaim := { program := "ytaidmloaoogmoaa", sum := "c281d36e20c0e85d5b57634dabc4e53699d1adf66f069dbda34dd8d6cdba3b6e", func := "loop.example/g01354/laws.FnExactConstants", spec := "fnExactConstants", apart := false, narrowed := true }
def FnExactConstantsUptoSaid : Prop := fnExactConstantsUptoRow.holds Try.pinned (OpenSpec.upto fnExactConstantsSpec)

/-- 'laws.FnExactIsSet', WHERE WHAT IT READS IS OF BULK AT MOST 1048576: true; the input reads as it did. -/
def fnExactIsSetUptoRow : OpenClaim := { program := "ytaidmloaoogmoaa", sum := "c281d36e20c0e85d5b57634dabc4e53699d1adf66f069dbda34dd8d6cdba3b6e", func := "loop.example/g01354/laws.FnExactIsSet", spec := "fnExactIsSet", unfollowed := true, recurses := true, apart := false, narrowed := true }
def FnExactIsSetUptoSaid : Prop := fnExactIsSetUptoRow.holds Try.pinned (OpenSpec.upto fnExactIsSetSpec)

/-- 'laws.FnExactIsDetermined', WHERE WHAT IT READS IS OF BULK AT MOST 1048576: true; the input reads as it did. -/
def fnExactIsDeterminedUptoRow : OpenClaim := { program := "ytaidmloaoogmoaa", sum := "c281d36e20c0e85d5b57634dabc4e53699d1adf66f069dbda34dd8d6cdba3b6e", func := "loop.example/g01354/laws.FnExactIsDetermined", spec := "fnExactIsDetermined", unfollowed := true, recurses := true, apart := false, narrowed := true }
def FnExactIsDeterminedUptoSaid : Prop := fnExactIsDeterminedUptoRow.holds Try.pinned (OpenSpec.upto fnExactIsDeterminedSpec)

/-- 'laws.FnExactIsRow', WHERE WHAT IT READS IS OF BULK AT MOST 1048576: true; the input reads as it did. -/
def fnExactIsRowUptoRow : OpenClaim := { program := "ytaidmloaoogmoaa", sum := "c281d36e20c0e85d5b57634dabc4e53699d1adf66f069dbda34dd8d6cdba3b6e", func := "loop.example/g01354/laws.FnExactIsRow", spec := "fnExactIsRow", unfollowed := true, recurses := true, apart := false, narrowed := true }
def FnExactIsRowUptoSaid : Prop := fnExactIsRowUptoRow.holds Try.pinned (OpenSpec.upto fnExactIsRowSpec)

/-- 'laws.FnExactCommonTiles', WHERE WHAT IT READS IS OF BULK AT MOST 1048576: true; the input reads as it did. -/
def fnExactCommonTilesUptoRow : OpenClaim := { program := "ytaidmloaoogmoaa", sum := "c281d36e20c0e85d5b57634dabc4e53699d1adf66f069dbda34dd8d6cdba3b6e", func := "loop.example/g01354/laws.FnExactCommonTiles", spec := "fnExactCommonTiles", unfollowed := true, recurses := true, apart := false, narrowed := true }
def FnExactCommonTilesUptoSaid : Prop := fnExactCommonTilesUptoRow.holds Try.pinned (OpenSpec.upto fnExactCommonTilesSpec)

/-- 'laws.FnExactBelowOf', WHERE WHAT IT READS IS OF BULK AT MOST 1048576: true; the input reads as it did. -/
def fnExactBelowOfUptoRow : OpenClaim := { program := "ytaidmloaoogmoaa", sum := "c281d36e20c0e85d5b57634dabc4e53699d1adf66f069dbda34dd8d6cdba3b6e", func := "loop.example/g01354/laws.FnExactBelowOf", spec := "fnExactBelowOf", unfollowed := true, recurses := true, apart := false, narrowed := true }
def FnExactBelowOfUptoSaid : Prop := fnExactBelowOfUptoRow.holds Try.pinned (OpenSpec.upto fnExactBelowOfSpec)

/-- 'laws.FnExactRightOf', WHERE WHAT IT READS IS OF BULK AT MOST 1048576: true; the input reads as it did. -/
def fnExactRightOfUptoRow : OpenClaim := { program := "ytaidmloaoogmoaa", sum := "c281d36e20c0e85d5b57634dabc4e53699d1adf66f069dbda34dd8d6cdba3b6e", func := "loop.example/g01354/laws.FnExactRightOf", spec := "fnExactRightOf", unfollowed := true, recurses := true, apart := false, narrowed := true }
def FnExactRightOfUptoSaid : Prop := fnExactRightOfUptoRow.holds Try.pinned (OpenSpec.upto fnExactRightOfSpec)

/-- 'laws.FnExactTakeTile', WHERE WHAT IT READS IS OF BULK AT MOST 1048576: true; the input reads as it did. -/
def fnExactTakeTileUptoRow : OpenClaim := { program := "ytaidmloaoogmoaa", sum := "c281d36e20c0e85d5b57634dabc4e53699d1adf66f069dbda34dd8d6cdba3b6e", func := "loop.example/g01354/laws.FnExactTakeTile", spec := "fnExactTakeTile", unfollowed := true, recurses := true, apart := false, narrowed := true }
def FnExactTakeTileUptoSaid : Prop := fnExactTakeTileUptoRow.holds Try.pinned (OpenSpec.upto fnExactTakeTileSpec)

/-- 'laws.FnExactWordsOfRow', WHERE WHAT IT READS IS OF BULK AT MOST 1048576: true; the input reads as it did. -/
def fnExactWordsOfRowUptoRow : OpenClaim := { program := "ytaidmloaoogmoaa", sum := "c281d36e20c0e85d5b57634dabc4e53699d1adf66f069dbda34dd8d6cdba3b6e", func := "loop.example/g01354/laws.FnExactWordsOfRow", spec := "fnExactWordsOfRow", unfollowed := true, recurses := true, apart := false, narrowed := true }
def FnExactWordsOfRowUptoSaid : Prop := fnExactWordsOfRowUptoRow.holds Try.pinned (OpenSpec.upto fnExactWordsOfRowSpec)

/-- 'laws.FnExactIsFilling', WHERE WHAT IT READS IS OF BULK AT MOST 1048576: true; the input reads as it did. -/
def fnExactIsFillingUptoRow : OpenClaim := { program := "ytaidmloaoogmoaa", sum := "c281d36e20c0e85d5b57634dabc4e53699d1adf66f069dbda34dd8d6cdba3b6e", func := "loop.example/g01354/laws.FnExactIsFilling", spec := "fnExactIsFilling", unfollowed := true, recurses := true, apart := false, narrowed := true }
def FnExactIsFillingUptoSaid : Prop := fnExactIsFillingUptoRow.holds Try.pinned (OpenSpec.upto fnExactIsFillingSpec)

/-- 'laws.FnExactBordersOf', WHERE WHAT IT READS IS OF BULK AT MOST 1048576: true; the input reads as it did. -/
def fnExactBordersOfUptoRow : OpenClaim := { program := "ytaidmloaoogmoaa", sum := "c281d36e20c0e85d5b57634dabc4e53699d1adf66f069dbda34dd8d6cdba3b6e", func := "loop.example/g01354/laws.FnExactBordersOf", spec := "fnExactBordersOf", unfollowed := true, recurses := true, apart := false, narrowed := true }
def FnExactBordersOfUptoSaid : Prop := fnExactBordersOfUptoRow.holds Try.pinned (OpenSpec.upto fnExactBordersOfSpec)

/-- 'laws.FnExactKeepLasting', WHERE WHAT IT READS IS OF BULK AT MOST 1048576: true; the input reads as it did. -/
def fnExactKeepLastingUptoRow : OpenClaim := { program := "ytaidmloaoogmoaa", sum := "c281d36e20c0e85d5b57634dabc4e53699d1adf66f069dbda34dd8d6cdba3b6e", func := "loop.example/g01354/laws.FnExactKeepLasting", spec := "fnExactKeepLasting", unfollowed := true, recurses := true, apart := false, narrowed := true }
def FnExactKeepLastingUptoSaid : Prop := fnExactKeepLastingUptoRow.holds Try.pinned (OpenSpec.upto fnExactKeepLastingSpec)

end Rows
end Go.Proofs.Ytaidmloaoogmoaa

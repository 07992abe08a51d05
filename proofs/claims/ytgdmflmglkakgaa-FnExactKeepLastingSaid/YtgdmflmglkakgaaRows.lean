/-
  No cell of these rows narrows 'for every input' (looked for: loops, veiled, ifaces, maps, wideKeys, modest, calm, conditions, laid).
  DERIVED. THE GIVEN ROWS OF THIS SEAT. 4 by the template 'for every input the law returns true; each argument reads behind the call as it read before'; 0 by the template 'total and deterministic' (their statements: YtgdmflmglkakgaaTotals.lean).
  GIVEN WITH THE SEED: the statements are not yours to turn. If you find one false, say at which input.
  Laid BY PROGRAM, IN A SANDBOX (cutbox-rows.mjs): the forced cells as the released guide's own fill.sh prints them over the translation 4447b59412711275… (all of the seat's roots in one cut). By AI agents, Wed Nov 11 2026. No macro, syntax, notation, axiom, sorry.
-/
import Derived.Test.YtgdmflmglkakgaaChecked
import GoSem.Claim
import GoSem.ClaimJoined
import GoSem.ClaimMapViews
import Derived.JoinedTies
import Derived.KernelRfl
namespace Go.Proofs.Ytgdmflmglkakgaa
/- THE CELL 'sum', in the pinned program and in every row, IS THE sha256 OF THE DUMP (.gsa) THAT YtgdmflmglkakgaaProg.lean LOADS. Nothing in Lean hashes anything: it is a label: what it is worth is what the hold of that sum in a sandbox is worth. -/
noncomputable def Try.pinned : Pinned := { name := "ytgdmflmglkakgaa", sum := "4447b5941271127581fee8e537bd5adba823df5ca036648490a0791688579e56", checked := Try.checked }
namespace Rows
def none {H : Type} : Left H := { results := [], args := [] }

/-- 'laws.FnExactIsFilling': WHATEVER THE INPUT: true; the input reads as it did. -/
def fnExactIsFillingSpec : ChangeSpec := { name := "fnExactIsFilling", fn := fun _ => fun
  | [d1, d2] => { results := [.lit (.bool true)], args := [d1, d2] }
  | _ => none }
def fnExactIsFillingRow : OpenClaim := { program := "ytgdmflmglkakgaa", sum := "4447b5941271127581fee8e537bd5adba823df5ca036648490a0791688579e56", func := "loop.example/g01354/laws.FnExactIsFilling", spec := "fnExactIsFilling", unfollowed := true, recurses := true, apart := false }
def FnExactIsFillingSaid : Prop := fnExactIsFillingRow.holds Try.pinned (OpenSpec.ofChange fnExactIsFillingSpec)

/-- ITS FALSE NEIGHBOUR: 'it returns false'. Refute it at one input. -/
def fnExactIsFillingWrong : ChangeSpec := { name := "fnExactIsFilling", fn := fun _ => fun
  | [d1, d2] => { results := [.lit (.bool false)], args := [d1, d2] }
  | _ => none }
def FnExactIsFillingWrongFalsely : Prop := fnExactIsFillingRow.holds Try.pinned (OpenSpec.ofChange fnExactIsFillingWrong)

/-- 'laws.FnExactBordersOf': WHATEVER THE INPUT: true; the input reads as it did. -/
def fnExactBordersOfSpec : ChangeSpec := { name := "fnExactBordersOf", fn := fun _ => fun
  | [d1, d2] => { results := [.lit (.bool true)], args := [d1, d2] }
  | _ => none }
def fnExactBordersOfRow : OpenClaim := { program := "ytgdmflmglkakgaa", sum := "4447b5941271127581fee8e537bd5adba823df5ca036648490a0791688579e56", func := "loop.example/g01354/laws.FnExactBordersOf", spec := "fnExactBordersOf", unfollowed := true, recurses := true, apart := false }
def FnExactBordersOfSaid : Prop := fnExactBordersOfRow.holds Try.pinned (OpenSpec.ofChange fnExactBordersOfSpec)

/-- ITS FALSE NEIGHBOUR: 'it returns false'. Refute it at one input. -/
def fnExactBordersOfWrong : ChangeSpec := { name := "fnExactBordersOf", fn := fun _ => fun
  | [d1, d2] => { results := [.lit (.bool false)], args := [d1, d2] }
  | _ => none }
def FnExactBordersOfWrongFalsely : Prop := fnExactBordersOfRow.holds Try.pinned (OpenSpec.ofChange fnExactBordersOfWrong)

/-- 'laws.FnExactKeepLasting': WHATEVER THE INPUT: true; the input reads as it did. -/
def fnExactKeepLastingSpec : ChangeSpec := { name := "fnExactKeepLasting", fn := fun _ => fun
  | [d] => { results := [.lit (.bool true)], args := [d] }
  | _ => none }
def fnExactKeepLastingRow : OpenClaim := { program := "ytgdmflmglkakgaa", sum := "4447b5941271127581fee8e537bd5adba823df5ca036648490a0791688579e56", func := "loop.example/g01354/laws.FnExactKeepLasting", spec := "fnExactKeepLasting", unfollowed := true, recurses := true, apart := false }
def FnExactKeepLastingSaid : Prop := fnExactKeepLastingRow.holds Try.pinned (OpenSpec.ofChange fnExactKeepLastingSpec)

/-- ITS FALSE NEIGHBOUR: 'it returns false'. Refute it at one input. -/
def fnExactKeepLastingWrong : ChangeSpec := { name := "fnExactKeepLasting", fn := fun _ => fun
  | [d] => { results := [.lit (.bool false)], args := [d] }
  | _ => none }
def FnExactKeepLastingWrongFalsely : Prop := fnExactKeepLastingRow.holds Try.pinned (OpenSpec.ofChange fnExactKeepLastingWrong)

/-- 'laws.FnExactTrimSet': WHATEVER THE INPUT: true; the input reads as it did. -/
def fnExactTrimSetSpec : ChangeSpec := { name := "fnExactTrimSet", fn := fun _ => fun
  | [d] => { results := [.lit (.bool true)], args := [d] }
  | _ => none }
def fnExactTrimSetRow : OpenClaim := { program := "ytgdmflmglkakgaa", sum := "4447b5941271127581fee8e537bd5adba823df5ca036648490a0791688579e56", func := "loop.example/g01354/laws.FnExactTrimSet", spec := "fnExactTrimSet", unfollowed := true, recurses := true, apart := false }
def FnExactTrimSetSaid : Prop := fnExactTrimSetRow.holds Try.pinned (OpenSpec.ofChange fnExactTrimSetSpec)

/-- ITS FALSE NEIGHBOUR: 'it returns false'. Refute it at one input. -/
def fnExactTrimSetWrong : ChangeSpec := { name := "fnExactTrimSet", fn := fun _ => fun
  | [d] => { results := [.lit (.bool false)], args := [d] }
  | _ => none }
def FnExactTrimSetWrongFalsely : Prop := fnExactTrimSetRow.holds Try.pinned (OpenSpec.ofChange fnExactTrimSetWrong)

/- THE SECOND FORM. 'bulk': how many values and letters a reading holds, each counted each time it is reached (what is shared counts as often as it is met; a slice's spare places count too). A statement '..UptoSaid' is the law's where the arguments, and the package variables that the reading takes, are together of bulk at most 1048576: NARROWER than '..Said'. Prove '..Said' where nothing that the law and all that it calls make is longer than what came in: it says more and counts as full. Else prove '..UptoSaid'. A law counts once. -/
mutual
def uptoBulk {H : Type} : DataW H → Nat
  | .lit (.string bytes) => bytes.length + 1
  | .lit _ => 1
  | .nil => 1
  | .ptr d => uptoBulk d + 1
  | .slice elems spare => uptoBulkAll elems + uptoBulkAll spare + 1
  | .agg parts => uptoBulkAll parts + 1
  | .iface _ d => uptoBulk d + 1
  | .map entries => uptoBulkEntries entries + 1
  | .held _ => 1
def uptoBulkAll {H : Type} : List (DataW H) → Nat
  | [] => 0
  | d :: r => uptoBulk d + uptoBulkAll r
def uptoBulkEntries {H : Type} : List (Lit × DataW H) → Nat
  | [] => 0
  | x :: r => uptoBulkEntry x + uptoBulkEntries r
def uptoBulkEntry {H : Type} : Lit × DataW H → Nat
  | (.string bytes, d) => bytes.length + uptoBulk d + 1
  | (_, d) => uptoBulk d + 1
 end
def uptoSmall : (H : Type) → List (DataW H) → Bool := fun _ ds => decide (uptoBulkAll ds ≤ 1048576)
def OpenSpec.upto (s : _root_.Go.ChangeSpec) : _root_.Go.OpenSpec := { _root_.Go.OpenSpec.ofChange s with cond := some uptoSmall }

/-- 'laws.FnExactIsFilling', WHERE WHAT IT READS IS OF BULK AT MOST 1048576: true; the input reads as it did. -/
def fnExactIsFillingUptoRow : OpenClaim := { program := "ytgdmflmglkakgaa", sum := "4447b5941271127581fee8e537bd5adba823df5ca036648490a0791688579e56", func := "loop.example/g01354/laws.FnExactIsFilling", spec := "fnExactIsFilling", unfollowed := true, recurses := true, apart := false, narrowed := true }
def FnExactIsFillingUptoSaid : Prop := fnExactIsFillingUptoRow.holds Try.pinned (OpenSpec.upto fnExactIsFillingSpec)

/-- 'laws.FnExactBordersOf', WHERE WHAT IT READS IS OF BULK AT MOST 1048576: true; the input reads as it did. -/
def fnExactBordersOfUptoRow : OpenClaim := { program := "ytgdmflmglkakgaa", sum := "4447b5941271127581fee8e537bd5adba823df5ca036648490a0791688579e56", func := "loop.example/g01354/laws.FnExactBordersOf", spec := "fnExactBordersOf", unfollowed := true, recurses := true, apart := false, narrowed := true }
def FnExactBordersOfUptoSaid : Prop := fnExactBordersOfUptoRow.holds Try.pinned (OpenSpec.upto fnExactBordersOfSpec)

/-- 'laws.FnExactKeepLasting', WHERE WHAT IT READS IS OF BULK AT MOST 1048576: true; the input reads as it did. -/
def fnExactKeepLastingUptoRow : OpenClaim := { program := "ytgdmflmglkakgaa", sum := "4447b5941271127581fee8e537bd5adba823df5ca036648490a0791688579e56", func := "loop.example/g01354/laws.FnExactKeepLasting", spec := "fnExactKeepLasting", unfollowed := true, recurses := true, apart := false, narrowed := true }
def FnExactKeepLastingUptoSaid : Prop := fnExactKeepLastingUptoRow.holds Try.pinned (OpenSpec.upto fnExactKeepLastingSpec)

/-- 'laws.FnExactTrimSet', WHERE WHAT IT READS IS OF BULK AT MOST 1048576: true; the input reads as it did. -/
def fnExactTrimSetUptoRow : OpenClaim := { program := "ytgdmflmglkakgaa", sum := "4447b5941271127581fee8e537bd5adba823df5ca036648490a0791688579e56", func := "loop.example/g01354/laws.FnExactTrimSet", spec := "fnExactTrimSet", unfollowed := true, recurses := true, apart := false, narrowed := true }
def FnExactTrimSetUptoSaid : Prop := fnExactTrimSetUptoRow.holds Try.pinned (OpenSpec.upto fnExactTrimSetSpec)

end Rows
end Go.Proofs.Ytgdmflmglkakgaa

/-
  No cell of these rows narrows 'for every input' (looked for: loops, veiled, ifaces, maps, wideKeys, modest, calm, conditions, laid).
  DERIVED. THE GIVEN ROWS OF THIS SEAT. 7 by the template 'for every input the law returns true; each argument reads behind the call as it read before'; 0 by the template 'total and deterministic' (their statements: YtcaikaflpmaocaaTotals.lean).
  GIVEN WITH THE SEED: the statements are not yours to turn. If you find one false, say at which input.
  Laid BY PROGRAM, IN A SANDBOX (cutbox-rows.mjs): the forced cells as the released guide's own fill.sh prints them over the translation 1ecf0446db3c0f12… (all of the seat's roots in one cut). By AI agents, Wed Nov 11 2026. No macro, syntax, notation, axiom, sorry.
-/
import Derived.Test.YtcaikaflpmaocaaChecked
import GoSem.Claim
import GoSem.ClaimJoined
import GoSem.ClaimMapViews
import Derived.JoinedTies
import Derived.KernelRfl
namespace Go.Proofs.Ytcaikaflpmaocaa
/- THE CELL 'sum', in the pinned program and in every row, IS THE sha256 OF THE DUMP (.gsa) THAT YtcaikaflpmaocaaProg.lean LOADS. Nothing in Lean hashes anything: it is a label: what it is worth is what the hold of that sum in a sandbox is worth. -/
noncomputable def Try.pinned : Pinned := { name := "ytcaikaflpmaocaa", sum := "1ecf0446db3c0f129b5a39a4b6c24796966c10d7a7bd486640ab5858798410bd", checked := Try.checked }
namespace Rows
def none {H : Type} : Left H := { results := [], args := [] }

/-- 'laws.FnExactFreePlan': WHATEVER THE INPUT: true; the input reads as it did. -/
def fnExactFreePlanSpec : ChangeSpec := { name := "fnExactFreePlan", fn := fun _ => fun
  | [d1, d2] => { results := [.lit (.bool true)], args := [d1, d2] }
  | _ => none }
def fnExactFreePlanRow : OpenClaim := { program := "ytcaikaflpmaocaa", sum := "1ecf0446db3c0f129b5a39a4b6c24796966c10d7a7bd486640ab5858798410bd", func := "loop.example/g01354/laws.FnExactFreePlan", spec := "fnExactFreePlan", apart := false }
def FnExactFreePlanSaid : Prop := fnExactFreePlanRow.holds Try.pinned (OpenSpec.ofChange fnExactFreePlanSpec)

/-- ITS FALSE NEIGHBOUR: 'it returns false'. Refute it at one input. -/
def fnExactFreePlanWrong : ChangeSpec := { name := "fnExactFreePlan", fn := fun _ => fun
  | [d1, d2] => { results := [.lit (.bool false)], args := [d1, d2] }
  | _ => none }
def FnExactFreePlanWrongFalsely : Prop := fnExactFreePlanRow.holds Try.pinned (OpenSpec.ofChange fnExactFreePlanWrong)

/-- 'laws.FnExactGreatestSquare': WHATEVER THE INPUT: true; the input reads as it did. -/
def fnExactGreatestSquareSpec : ChangeSpec := { name := "fnExactGreatestSquare", fn := fun _ => fun
  | [d] => { results := [.lit (.bool true)], args := [d] }
  | _ => none }
def fnExactGreatestSquareRow : OpenClaim := { program := "ytcaikaflpmaocaa", sum := "1ecf0446db3c0f129b5a39a4b6c24796966c10d7a7bd486640ab5858798410bd", func := "loop.example/g01354/laws.FnExactGreatestSquare", spec := "fnExactGreatestSquare", unfollowed := true, recurses := true, apart := false }
def FnExactGreatestSquareSaid : Prop := fnExactGreatestSquareRow.holds Try.pinned (OpenSpec.ofChange fnExactGreatestSquareSpec)

/-- ITS FALSE NEIGHBOUR: 'it returns false'. Refute it at one input. -/
def fnExactGreatestSquareWrong : ChangeSpec := { name := "fnExactGreatestSquare", fn := fun _ => fun
  | [d] => { results := [.lit (.bool false)], args := [d] }
  | _ => none }
def FnExactGreatestSquareWrongFalsely : Prop := fnExactGreatestSquareRow.holds Try.pinned (OpenSpec.ofChange fnExactGreatestSquareWrong)

/-- 'laws.FnExactCountSquares': WHATEVER THE INPUT: true; the input reads as it did. -/
def fnExactCountSquaresSpec : ChangeSpec := { name := "fnExactCountSquares", fn := fun _ => fun
  | [d1, d2] => { results := [.lit (.bool true)], args := [d1, d2] }
  | _ => none }
def fnExactCountSquaresRow : OpenClaim := { program := "ytcaikaflpmaocaa", sum := "1ecf0446db3c0f129b5a39a4b6c24796966c10d7a7bd486640ab5858798410bd", func := "loop.example/g01354/laws.FnExactCountSquares", spec := "fnExactCountSquares", unfollowed := true, recurses := true, apart := false }
def FnExactCountSquaresSaid : Prop := fnExactCountSquaresRow.holds Try.pinned (OpenSpec.ofChange fnExactCountSquaresSpec)

/-- ITS FALSE NEIGHBOUR: 'it returns false'. Refute it at one input. -/
def fnExactCountSquaresWrong : ChangeSpec := { name := "fnExactCountSquares", fn := fun _ => fun
  | [d1, d2] => { results := [.lit (.bool false)], args := [d1, d2] }
  | _ => none }
def FnExactCountSquaresWrongFalsely : Prop := fnExactCountSquaresRow.holds Try.pinned (OpenSpec.ofChange fnExactCountSquaresWrong)

/-- 'laws.FnExactSizeTable': WHATEVER THE INPUT: true; the input reads as it did. -/
def fnExactSizeTableSpec : ChangeSpec := { name := "fnExactSizeTable", fn := fun _ => fun
  | [d] => { results := [.lit (.bool true)], args := [d] }
  | _ => none }
def fnExactSizeTableRow : OpenClaim := { program := "ytcaikaflpmaocaa", sum := "1ecf0446db3c0f129b5a39a4b6c24796966c10d7a7bd486640ab5858798410bd", func := "loop.example/g01354/laws.FnExactSizeTable", spec := "fnExactSizeTable", unfollowed := true, recurses := true, apart := false }
def FnExactSizeTableSaid : Prop := fnExactSizeTableRow.holds Try.pinned (OpenSpec.ofChange fnExactSizeTableSpec)

/-- ITS FALSE NEIGHBOUR: 'it returns false'. Refute it at one input. -/
def fnExactSizeTableWrong : ChangeSpec := { name := "fnExactSizeTable", fn := fun _ => fun
  | [d] => { results := [.lit (.bool false)], args := [d] }
  | _ => none }
def FnExactSizeTableWrongFalsely : Prop := fnExactSizeTableRow.holds Try.pinned (OpenSpec.ofChange fnExactSizeTableWrong)

/-- 'laws.FnExactCountFillings': WHATEVER THE INPUT: true; the input reads as it did. -/
def fnExactCountFillingsSpec : ChangeSpec := { name := "fnExactCountFillings", fn := fun _ => fun
  | [d1, d2, d3] => { results := [.lit (.bool true)], args := [d1, d2, d3] }
  | _ => none }
def fnExactCountFillingsRow : OpenClaim := { program := "ytcaikaflpmaocaa", sum := "1ecf0446db3c0f129b5a39a4b6c24796966c10d7a7bd486640ab5858798410bd", func := "loop.example/g01354/laws.FnExactCountFillings", spec := "fnExactCountFillings", unfollowed := true, recurses := true, apart := false }
def FnExactCountFillingsSaid : Prop := fnExactCountFillingsRow.holds Try.pinned (OpenSpec.ofChange fnExactCountFillingsSpec)

/-- ITS FALSE NEIGHBOUR: 'it returns false'. Refute it at one input. -/
def fnExactCountFillingsWrong : ChangeSpec := { name := "fnExactCountFillings", fn := fun _ => fun
  | [d1, d2, d3] => { results := [.lit (.bool false)], args := [d1, d2, d3] }
  | _ => none }
def FnExactCountFillingsWrongFalsely : Prop := fnExactCountFillingsRow.holds Try.pinned (OpenSpec.ofChange fnExactCountFillingsWrong)

/-- 'laws.FnExactFirstFilling': WHATEVER THE INPUT: true; the input reads as it did. -/
def fnExactFirstFillingSpec : ChangeSpec := { name := "fnExactFirstFilling", fn := fun _ => fun
  | [d1, d2, d3] => { results := [.lit (.bool true)], args := [d1, d2, d3] }
  | _ => none }
def fnExactFirstFillingRow : OpenClaim := { program := "ytcaikaflpmaocaa", sum := "1ecf0446db3c0f129b5a39a4b6c24796966c10d7a7bd486640ab5858798410bd", func := "loop.example/g01354/laws.FnExactFirstFilling", spec := "fnExactFirstFilling", unfollowed := true, recurses := true, apart := false }
def FnExactFirstFillingSaid : Prop := fnExactFirstFillingRow.holds Try.pinned (OpenSpec.ofChange fnExactFirstFillingSpec)

/-- ITS FALSE NEIGHBOUR: 'it returns false'. Refute it at one input. -/
def fnExactFirstFillingWrong : ChangeSpec := { name := "fnExactFirstFilling", fn := fun _ => fun
  | [d1, d2, d3] => { results := [.lit (.bool false)], args := [d1, d2, d3] }
  | _ => none }
def FnExactFirstFillingWrongFalsely : Prop := fnExactFirstFillingRow.holds Try.pinned (OpenSpec.ofChange fnExactFirstFillingWrong)

/-- 'laws.FnExactFillingList': WHATEVER THE INPUT: true; the input reads as it did. -/
def fnExactFillingListSpec : ChangeSpec := { name := "fnExactFillingList", fn := fun _ => fun
  | [d1, d2, d3] => { results := [.lit (.bool true)], args := [d1, d2, d3] }
  | _ => none }
def fnExactFillingListRow : OpenClaim := { program := "ytcaikaflpmaocaa", sum := "1ecf0446db3c0f129b5a39a4b6c24796966c10d7a7bd486640ab5858798410bd", func := "loop.example/g01354/laws.FnExactFillingList", spec := "fnExactFillingList", unfollowed := true, recurses := true, apart := false }
def FnExactFillingListSaid : Prop := fnExactFillingListRow.holds Try.pinned (OpenSpec.ofChange fnExactFillingListSpec)

/-- ITS FALSE NEIGHBOUR: 'it returns false'. Refute it at one input. -/
def fnExactFillingListWrong : ChangeSpec := { name := "fnExactFillingList", fn := fun _ => fun
  | [d1, d2, d3] => { results := [.lit (.bool false)], args := [d1, d2, d3] }
  | _ => none }
def FnExactFillingListWrongFalsely : Prop := fnExactFillingListRow.holds Try.pinned (OpenSpec.ofChange fnExactFillingListWrong)

/- THE SECOND FORM. 'bulk': how many values and letters a reading holds, each counted each time it is reached (what is shared counts as often as it is met; a slice's spare places count too). A statement '..UptoSaid' is the law's where the arguments, and the package variables that the reading takes, are together of bulk at most 1048576: NARROWER than '..Said'. Prove '..Said' where nothing that the law and all that it calls make is longer than what came in: it says more and counts as full. Else prove '..UptoSaid'. A law counts once. -/
mutual
def uptoBulk {H : Type} : DataW H → Nat
  | .lit (.string bytes) => bytes.length + 1
  | .lit _ => 1
  | .nil => 1
  | .ptr d => uptoBulk d + 1
  | .slice elems spare => uptoBulkAll elems + uptoBulkAll spare + 1
  | .agg parts => uptoBulkAll parts + 1
  | .iface _ d => uptoBulk d + 1
  | .map entries => uptoBulkEntries entries + 1
  | .held _ => 1
def uptoBulkAll {H : Type} : List (DataW H) → Nat
  | [] => 0
  | d :: r => uptoBulk d + uptoBulkAll r
def uptoBulkEntries {H : Type} : List (Lit × DataW H) → Nat
  | [] => 0
  | x :: r => uptoBulkEntry x + uptoBulkEntries r
def uptoBulkEntry {H : Type} : Lit × DataW H → Nat
  | (.string bytes, d) => bytes.length + uptoBulk d + 1
  | (_, d) => uptoBulk d + 1
 end
def uptoSmall : (H : Type) → List (DataW H) → Bool := fun _ ds => decide (uptoBulkAll ds ≤ 1048576)
def OpenSpec.upto (s : _root_.Go.ChangeSpec) : _root_.Go.OpenSpec := { _root_.Go.OpenSpec.ofChange s with cond := some uptoSmall }

/-- 'laws.FnExactFreePlan', WHERE WHAT IT READS IS OF BULK AT MOST 1048576: true; the input reads as it did. -/
def fnExactFreePlanUptoRow : OpenClaim := { program := "ytcaikaflpmaocaa", sum := "1ecf0446db3c0f129b5a39a4b6c24796966c10d7a7bd486640ab5858798410bd", func := "loop.example/g01354/laws.FnExactFreePlan", spec := "fnExactFreePlan", apart := false, narrowed := true }
def FnExactFreePlanUptoSaid : Prop := fnExactFreePlanUptoRow.holds Try.pinned (OpenSpec.upto fnExactFreePlanSpec)

/-- 'laws.FnExactGreatestSquare', WHERE WHAT IT READS IS OF BULK AT MOST 1048576: true; the input reads as it did. -/
def fnExactGreatestSquareUptoRow : OpenClaim := { program := "ytcaikaflpmaocaa", sum := "1ecf0446db3c0f129b5a39a4b6c24796966c10d7a7bd486640ab5858798410bd", func := "loop.example/g01354/laws.FnExactGreatestSquare", spec := "fnExactGreatestSquare", unfollowed := true, recurses := true, apart := false, narrowed := true }
def FnExactGreatestSquareUptoSaid : Prop := fnExactGreatestSquareUptoRow.holds Try.pinned (OpenSpec.upto fnExactGreatestSquareSpec)

/-- 'laws.FnExactCountSquares', WHERE WHAT IT READS IS OF BULK AT MOST 1048576: true; the input reads as it did. -/
def fnExactCountSquaresUptoRow : OpenClaim := { program := "ytcaikaflpmaocaa", sum := "1ecf0446db3c0f129b5a39a4b6c24796966c10d7a7bd486640ab5858798410bd", func := "loop.example/g01354/laws.FnExactCountSquares", spec := "fnExactCountSquares", unfollowed := true, recurses := true, apart := false, narrowed := true }
def FnExactCountSquaresUptoSaid : Prop := fnExactCountSquaresUptoRow.holds Try.pinned (OpenSpec.upto fnExactCountSquaresSpec)

/-- 'laws.FnExactSizeTable', WHERE WHAT IT READS IS OF BULK AT MOST 1048576: true; the input reads as it did. -/
def fnExactSizeTableUptoRow : OpenClaim := { program := "ytcaikaflpmaocaa", sum := "1ecf0446db3c0f129b5a39a4b6c24796966c10d7a7bd486640ab5858798410bd", func := "loop.example/g01354/laws.FnExactSizeTable", spec := "fnExactSizeTable", unfollowed := true, recurses := true, apart := false, narrowed := true }
def FnExactSizeTableUptoSaid : Prop := fnExactSizeTableUptoRow.holds Try.pinned (OpenSpec.upto fnExactSizeTableSpec)

/-- 'laws.FnExactCountFillings', WHERE WHAT IT READS IS OF BULK AT MOST 1048576: true; the input reads as it did. -/
def fnExactCountFillingsUptoRow : OpenClaim := { program := "ytcaikaflpmaocaa", sum := "1ecf0446db3c0f129b5a39a4b6c24796966c10d7a7bd486640ab5858798410bd", func := "loop.example/g01354/laws.FnExactCountFillings", spec := "fnExactCountFillings", unfollowed := true, recurses := true, apart := false, narrowed := true }
def FnExactCountFillingsUptoSaid : Prop := fnExactCountFillingsUptoRow.holds Try.pinned (OpenSpec.upto fnExactCountFillingsSpec)

/-- 'laws.FnExactFirstFilling', WHERE WHAT IT READS IS OF BULK AT MOST 1048576: true; the input reads as it did. -/
def fnExactFirstFillingUptoRow : OpenClaim := { program := "ytcaikaflpmaocaa", sum := "1ecf0446db3c0f129b5a39a4b6c24796966c10d7a7bd486640ab5858798410bd", func := "loop.example/g01354/laws.FnExactFirstFilling", spec := "fnExactFirstFilling", unfollowed := true, recurses := true, apart := false, narrowed := true }
def FnExactFirstFillingUptoSaid : Prop := fnExactFirstFillingUptoRow.holds Try.pinned (OpenSpec.upto fnExactFirstFillingSpec)

/-- 'laws.FnExactFillingList', WHERE WHAT IT READS IS OF BULK AT MOST 1048576: true; the input reads as it did. -/
def fnExactFillingListUptoRow : OpenClaim := { program := "ytcaikaflpmaocaa", sum := "1ecf0446db3c0f129b5a39a4b6c24796966c10d7a7bd486640ab5858798410bd", func := "loop.example/g01354/laws.FnExactFillingList", spec := "fnExactFillingList", unfollowed := true, recurses := true, apart := false, narrowed := true }
def FnExactFillingListUptoSaid : Prop := fnExactFillingListUptoRow.holds Try.pinned (OpenSpec.upto fnExactFillingListSpec)

end Rows
end Go.Proofs.Ytcaikaflpmaocaa

/-
  No cell of these rows narrows 'for every input' (looked for: loops, veiled, ifaces, maps, wideKeys, modest, calm, conditions, laid).
  DERIVED. THE GIVEN ROWS OF THIS SEAT. 9 by the template 'for every input the law returns true; each argument reads behind the call as it read before'; 0 by the template 'total and deterministic' (their statements: YtenlcakpcbmmdaaTotals.lean).
  GIVEN WITH THE SEED: the statements are not yours to turn. If you find one false, say at which input.
  Laid BY PROGRAM, IN A SANDBOX (cutbox-rows.mjs): the forced cells as the released guide's own fill.sh prints them over the translation 8f180b2b9ea03800… (all of the seat's roots in one cut). By AI agents, Wed Nov 11 2026. No macro, syntax, notation, axiom, sorry.
-/
import Derived.Test.YtenlcakpcbmmdaaChecked
import GoSem.Claim
import GoSem.ClaimJoined
import GoSem.ClaimMapViews
import Derived.JoinedTies
import Derived.KernelRfl
namespace Go.Proofs.Ytenlcakpcbmmdaa
/- THE CELL 'sum', in the pinned program and in every row, IS THE sha256 OF THE DUMP (.gsa) THAT YtenlcakpcbmmdaaProg.lean LOADS. Nothing in Lean hashes anything: it is a label: what it is worth is what the hold of that sum in a sandbox is worth. -/
noncomputable def Try.pinned : Pinned := { name := "ytenlcakpcbmmdaa", sum := "8f180b2b9ea03800c5bd76331ce779a1740ab6d6c6ef90202b810081e9e56408", checked := Try.checked }
namespace Rows
def none {H : Type} : Left H := { results := [], args := [] }

/-- 'laws.FnExactCountRounds': WHATEVER THE INPUT: true; the input reads as it did. -/
def fnExactCountRoundsSpec : ChangeSpec := { name := "fnExactCountRounds", fn := fun _ => fun
  | [d1, d2] => { results := [.lit (.bool true)], args := [d1, d2] }
  | _ => none }
def fnExactCountRoundsRow : OpenClaim := { program := "ytenlcakpcbmmdaa", sum := "8f180b2b9ea03800c5bd76331ce779a1740ab6d6c6ef90202b810081e9e56408", func := "loop.example/g01354/laws.FnExactCountRounds", spec := "fnExactCountRounds", unfollowed := true, recurses := true, apart := false }
def FnExactCountRoundsSaid : Prop := fnExactCountRoundsRow.holds Try.pinned (OpenSpec.ofChange fnExactCountRoundsSpec)

/-- ITS FALSE NEIGHBOUR: 'it returns false'. Refute it at one input. -/
def fnExactCountRoundsWrong : ChangeSpec := { name := "fnExactCountRounds", fn := fun _ => fun
  | [d1, d2] => { results := [.lit (.bool false)], args := [d1, d2] }
  | _ => none }
def FnExactCountRoundsWrongFalsely : Prop := fnExactCountRoundsRow.holds Try.pinned (OpenSpec.ofChange fnExactCountRoundsWrong)

/-- 'laws.FnExactCountRows': WHATEVER THE INPUT: true; the input reads as it did. -/
def fnExactCountRowsSpec : ChangeSpec := { name := "fnExactCountRows", fn := fun _ => fun
  | [d1, d2] => { results := [.lit (.bool true)], args := [d1, d2] }
  | _ => none }
def fnExactCountRowsRow : OpenClaim := { program := "ytenlcakpcbmmdaa", sum := "8f180b2b9ea03800c5bd76331ce779a1740ab6d6c6ef90202b810081e9e56408", func := "loop.example/g01354/laws.FnExactCountRows", spec := "fnExactCountRows", unfollowed := true, recurses := true, apart := false }
def FnExactCountRowsSaid : Prop := fnExactCountRowsRow.holds Try.pinned (OpenSpec.ofChange fnExactCountRowsSpec)

/-- ITS FALSE NEIGHBOUR: 'it returns false'. Refute it at one input. -/
def fnExactCountRowsWrong : ChangeSpec := { name := "fnExactCountRows", fn := fun _ => fun
  | [d1, d2] => { results := [.lit (.bool false)], args := [d1, d2] }
  | _ => none }
def FnExactCountRowsWrongFalsely : Prop := fnExactCountRowsRow.holds Try.pinned (OpenSpec.ofChange fnExactCountRowsWrong)

/-- 'laws.FnExactCountRowsOver': WHATEVER THE INPUT: true; the input reads as it did. -/
def fnExactCountRowsOverSpec : ChangeSpec := { name := "fnExactCountRowsOver", fn := fun _ => fun
  | [d1, d2] => { results := [.lit (.bool true)], args := [d1, d2] }
  | _ => none }
def fnExactCountRowsOverRow : OpenClaim := { program := "ytenlcakpcbmmdaa", sum := "8f180b2b9ea03800c5bd76331ce779a1740ab6d6c6ef90202b810081e9e56408", func := "loop.example/g01354/laws.FnExactCountRowsOver", spec := "fnExactCountRowsOver", unfollowed := true, recurses := true, apart := false }
def FnExactCountRowsOverSaid : Prop := fnExactCountRowsOverRow.holds Try.pinned (OpenSpec.ofChange fnExactCountRowsOverSpec)

/-- ITS FALSE NEIGHBOUR: 'it returns false'. Refute it at one input. -/
def fnExactCountRowsOverWrong : ChangeSpec := { name := "fnExactCountRowsOver", fn := fun _ => fun
  | [d1, d2] => { results := [.lit (.bool false)], args := [d1, d2] }
  | _ => none }
def FnExactCountRowsOverWrongFalsely : Prop := fnExactCountRowsOverRow.holds Try.pinned (OpenSpec.ofChange fnExactCountRowsOverWrong)

/-- 'laws.FnExactFirstRow': WHATEVER THE INPUT: true; the input reads as it did. -/
def fnExactFirstRowSpec : ChangeSpec := { name := "fnExactFirstRow", fn := fun _ => fun
  | [d1, d2] => { results := [.lit (.bool true)], args := [d1, d2] }
  | _ => none }
def fnExactFirstRowRow : OpenClaim := { program := "ytenlcakpcbmmdaa", sum := "8f180b2b9ea03800c5bd76331ce779a1740ab6d6c6ef90202b810081e9e56408", func := "loop.example/g01354/laws.FnExactFirstRow", spec := "fnExactFirstRow", unfollowed := true, recurses := true, apart := false }
def FnExactFirstRowSaid : Prop := fnExactFirstRowRow.holds Try.pinned (OpenSpec.ofChange fnExactFirstRowSpec)

/-- ITS FALSE NEIGHBOUR: 'it returns false'. Refute it at one input. -/
def fnExactFirstRowWrong : ChangeSpec := { name := "fnExactFirstRow", fn := fun _ => fun
  | [d1, d2] => { results := [.lit (.bool false)], args := [d1, d2] }
  | _ => none }
def FnExactFirstRowWrongFalsely : Prop := fnExactFirstRowRow.holds Try.pinned (OpenSpec.ofChange fnExactFirstRowWrong)

/-- 'laws.FnExactSouthRounds': WHATEVER THE INPUT: true; the input reads as it did. -/
def fnExactSouthRoundsSpec : ChangeSpec := { name := "fnExactSouthRounds", fn := fun _ => fun
  | [d1, d2] => { results := [.lit (.bool true)], args := [d1, d2] }
  | _ => none }
def fnExactSouthRoundsRow : OpenClaim := { program := "ytenlcakpcbmmdaa", sum := "8f180b2b9ea03800c5bd76331ce779a1740ab6d6c6ef90202b810081e9e56408", func := "loop.example/g01354/laws.FnExactSouthRounds", spec := "fnExactSouthRounds", unfollowed := true, recurses := true, apart := false }
def FnExactSouthRoundsSaid : Prop := fnExactSouthRoundsRow.holds Try.pinned (OpenSpec.ofChange fnExactSouthRoundsSpec)

/-- ITS FALSE NEIGHBOUR: 'it returns false'. Refute it at one input. -/
def fnExactSouthRoundsWrong : ChangeSpec := { name := "fnExactSouthRounds", fn := fun _ => fun
  | [d1, d2] => { results := [.lit (.bool false)], args := [d1, d2] }
  | _ => none }
def FnExactSouthRoundsWrongFalsely : Prop := fnExactSouthRoundsRow.holds Try.pinned (OpenSpec.ofChange fnExactSouthRoundsWrong)

/-- 'laws.FnExactSouthWords': WHATEVER THE INPUT: true; the input reads as it did. -/
def fnExactSouthWordsSpec : ChangeSpec := { name := "fnExactSouthWords", fn := fun _ => fun
  | [d1, d2] => { results := [.lit (.bool true)], args := [d1, d2] }
  | _ => none }
def fnExactSouthWordsRow : OpenClaim := { program := "ytenlcakpcbmmdaa", sum := "8f180b2b9ea03800c5bd76331ce779a1740ab6d6c6ef90202b810081e9e56408", func := "loop.example/g01354/laws.FnExactSouthWords", spec := "fnExactSouthWords", unfollowed := true, recurses := true, apart := false }
def FnExactSouthWordsSaid : Prop := fnExactSouthWordsRow.holds Try.pinned (OpenSpec.ofChange fnExactSouthWordsSpec)

/-- ITS FALSE NEIGHBOUR: 'it returns false'. Refute it at one input. -/
def fnExactSouthWordsWrong : ChangeSpec := { name := "fnExactSouthWords", fn := fun _ => fun
  | [d1, d2] => { results := [.lit (.bool false)], args := [d1, d2] }
  | _ => none }
def FnExactSouthWordsWrongFalsely : Prop := fnExactSouthWordsRow.holds Try.pinned (OpenSpec.ofChange fnExactSouthWordsWrong)

/-- 'laws.FnExactTrimSet': WHATEVER THE INPUT: true; the input reads as it did. -/
def fnExactTrimSetSpec : ChangeSpec := { name := "fnExactTrimSet", fn := fun _ => fun
  | [d] => { results := [.lit (.bool true)], args := [d] }
  | _ => none }
def fnExactTrimSetRow : OpenClaim := { program := "ytenlcakpcbmmdaa", sum := "8f180b2b9ea03800c5bd76331ce779a1740ab6d6c6ef90202b810081e9e56408", func := "loop.example/g01354/laws.FnExactTrimSet", spec := "fnExactTrimSet", unfollowed := true, recurses := true, apart := false }
def FnExactTrimSetSaid : Prop := fnExactTrimSetRow.holds Try.pinned (OpenSpec.ofChange fnExactTrimSetSpec)

/-- ITS FALSE NEIGHBOUR: 'it returns false'. Refute it at one input. -/
def fnExactTrimSetWrong : ChangeSpec := { name := "fnExactTrimSet", fn := fun _ => fun
  | [d] => { results := [.lit (.bool false)], args := [d] }
  | _ => none }
def FnExactTrimSetWrongFalsely : Prop := fnExactTrimSetRow.holds Try.pinned (OpenSpec.ofChange fnExactTrimSetWrong)

/-- 'laws.FnRows': WHATEVER THE INPUT: true; the input reads as it did. -/
def fnRowsSpec : ChangeSpec := { name := "fnRows", fn := fun _ => fun
  | [d] => { results := [.lit (.bool true)], args := [d] }
  | _ => none }
def fnRowsRow : OpenClaim := { program := "ytenlcakpcbmmdaa", sum := "8f180b2b9ea03800c5bd76331ce779a1740ab6d6c6ef90202b810081e9e56408", func := "loop.example/g01354/laws.FnRows", spec := "fnRows", unfollowed := true, recurses := true, apart := false }
def FnRowsSaid : Prop := fnRowsRow.holds Try.pinned (OpenSpec.ofChange fnRowsSpec)

/-- ITS FALSE NEIGHBOUR: 'it returns false'. Refute it at one input. -/
def fnRowsWrong : ChangeSpec := { name := "fnRows", fn := fun _ => fun
  | [d] => { results := [.lit (.bool false)], args := [d] }
  | _ => none }
def FnRowsWrongFalsely : Prop := fnRowsRow.holds Try.pinned (OpenSpec.ofChange fnRowsWrong)

/-- 'laws.FnSouthWords': WHATEVER THE INPUT: true; the input reads as it did. -/
def fnSouthWordsSpec : ChangeSpec := { name := "fnSouthWords", fn := fun _ => fun
  | [d] => { results := [.lit (.bool true)], args := [d] }
  | _ => none }
def fnSouthWordsRow : OpenClaim := { program := "ytenlcakpcbmmdaa", sum := "8f180b2b9ea03800c5bd76331ce779a1740ab6d6c6ef90202b810081e9e56408", func := "loop.example/g01354/laws.FnSouthWords", spec := "fnSouthWords", unfollowed := true, recurses := true, apart := false }
def FnSouthWordsSaid : Prop := fnSouthWordsRow.holds Try.pinned (OpenSpec.ofChange fnSouthWordsSpec)

/-- ITS FALSE NEIGHBOUR: 'it returns false'. Refute it at one input. -/
def fnSouthWordsWrong : ChangeSpec := { name := "fnSouthWords", fn := fun _ => fun
  | [d] => { results := [.lit (.bool false)], args := [d] }
  | _ => none }
def FnSouthWordsWrongFalsely : Prop := fnSouthWordsRow.holds Try.pinned (OpenSpec.ofChange fnSouthWordsWrong)

/- THE SECOND FORM. 'bulk': how many values and letters a reading holds, each counted each time it is reached (what is shared counts as often as it is met; a slice's spare places count too). A statement '..UptoSaid' is the law's where the arguments, and the package variables that the reading takes, are together of bulk at most 1048576: NARROWER than '..Said'. Prove '..Said' where nothing that the law and all that it calls make is longer than what came in: it says more and counts as full. Else prove '..UptoSaid'. A law counts once. -/
mutual
def uptoBulk {H : Type} : DataW H → Nat
  | .lit (.string bytes) => bytes.length + 1
  | .lit _ => 1
  | .nil => 1
  | .ptr d => uptoBulk d + 1
  | .slice elems spare => uptoBulkAll elems + uptoBulkAll spare + 1
  | .agg parts => uptoBulkAll parts + 1
  | .iface _ d => uptoBulk d + 1
  | .map entries => uptoBulkEntries entries + 1
  | .held _ => 1
def uptoBulkAll {H : Type} : List (DataW H) → Nat
  | [] => 0
  | d :: r => uptoBulk d + uptoBulkAll r
def uptoBulkEntries {H : Type} : List (Lit × DataW H) → Nat
  | [] => 0
  | x :: r => uptoBulkEntry x + uptoBulkEntries r
def uptoBulkEntry {H : Type} : Lit × DataW H → Nat
  | (.string bytes, d) => bytes.length + uptoBulk d + 1
  | (_, d) => uptoBulk d + 1
 end
def uptoSmall : (H : Type) → List (DataW H) → Bool := fun _ ds => decide (uptoBulkAll ds ≤ 1048576)
def OpenSpec.upto (s : _root_.Go.ChangeSpec) : _root_.Go.OpenSpec := { _root_.Go.OpenSpec.ofChange s with cond := some uptoSmall }

/-- 'laws.FnExactCountRounds', WHERE WHAT IT READS IS OF BULK AT MOST 1048576: true; the input reads as it did. -/
def fnExactCountRoundsUptoRow : OpenClaim := { program := "ytenlcakpcbmmdaa", sum := "8f180b2b9ea03800c5bd76331ce779a1740ab6d6c6ef90202b810081e9e56408", func := "loop.example/g01354/laws.FnExactCountRounds", spec := "fnExactCountRounds", unfollowed := true, recurses := true, apart := false, narrowed := true }
def FnExactCountRoundsUptoSaid : Prop := fnExactCountRoundsUptoRow.holds Try.pinned (OpenSpec.upto fnExactCountRoundsSpec)

/-- 'laws.FnExactCountRows', WHERE WHAT IT READS IS OF BULK AT MOST 1048576: true; the input reads as it did. -/
def fnExactCountRowsUptoRow : OpenClaim := { program := "ytenlcakpcbmmdaa", sum := "8f180b2b9ea03800c5bd76331ce779a1740ab6d6c6ef90202b810081e9e56408", func := "loop.example/g01354/laws.FnExactCountRows", spec := "fnExactCountRows", unfollowed := true, recurses := true, apart := false, narrowed := true }
def FnExactCountRowsUptoSaid : Prop := fnExactCountRowsUptoRow.holds Try.pinned (OpenSpec.upto fnExactCountRowsSpec)

/-- 'laws.FnExactCountRowsOver', WHERE WHAT IT READS IS OF BULK AT MOST 1048576: true; the input reads as it did. -/
def fnExactCountRowsOverUptoRow : OpenClaim := { program := "ytenlcakpcbmmdaa", sum := "8f180b2b9ea03800c5bd76331ce779a1740ab6d6c6ef90202b810081e9e56408", func := "loop.example/g01354/laws.FnExactCountRowsOver", spec := "fnExactCountRowsOver", unfollowed := true, recurses := true, apart := false, narrowed := true }
def FnExactCountRowsOverUptoSaid : Prop := fnExactCountRowsOverUptoRow.holds Try.pinned (OpenSpec.upto fnExactCountRowsOverSpec)

/-- 'laws.FnExactFirstRow', WHERE WHAT IT READS IS OF BULK AT MOST 1048576: true; the input reads as it did. -/
def fnExactFirstRowUptoRow : OpenClaim := { program := "ytenlcakpcbmmdaa", sum := "8f180b2b9ea03800c5bd76331ce779a1740ab6d6c6ef90202b810081e9e56408", func := "loop.example/g01354/laws.FnExactFirstRow", spec := "fnExactFirstRow", unfollowed := true, recurses := true, apart := false, narrowed := true }
def FnExactFirstRowUptoSaid : Prop := fnExactFirstRowUptoRow.holds Try.pinned (OpenSpec.upto fnExactFirstRowSpec)

/-- 'laws.FnExactSouthRounds', WHERE WHAT IT READS IS OF BULK AT MOST 1048576: true; the input reads as it did. -/
def fnExactSouthRoundsUptoRow : OpenClaim := { program := "ytenlcakpcbmmdaa", sum := "8f180b2b9ea03800c5bd76331ce779a1740ab6d6c6ef90202b810081e9e56408", func := "loop.example/g01354/laws.FnExactSouthRounds", spec := "fnExactSouthRounds", unfollowed := true, recurses := true, apart := false, narrowed := true }
def FnExactSouthRoundsUptoSaid : Prop := fnExactSouthRoundsUptoRow.holds Try.pinned (OpenSpec.upto fnExactSouthRoundsSpec)

/-- 'laws.FnExactSouthWords', WHERE WHAT IT READS IS OF BULK AT MOST 1048576: true; the input reads as it did. -/
def fnExactSouthWordsUptoRow : OpenClaim := { program := "ytenlcakpcbmmdaa", sum := "8f180b2b9ea03800c5bd76331ce779a1740ab6d6c6ef90202b810081e9e56408", func := "loop.example/g01354/laws.FnExactSouthWords", spec := "fnExactSouthWords", unfollowed := true, recurses := true, apart := false, narrowed := true }
def FnExactSouthWordsUptoSaid : Prop := fnExactSouthWordsUptoRow.holds Try.pinned (OpenSpec.upto fnExactSouthWordsSpec)

/-- 'laws.FnExactTrimSet', WHERE WHAT IT READS IS OF BULK AT MOST 1048576: true; the input reads as it did. -/
def fnExactTrimSetUptoRow : OpenClaim := { program := "ytenlcakpcbmmdaa", sum := "8f180b2b9ea03800c5bd76331ce779a1740ab6d6c6ef90202b810081e9e56408", func := "loop.example/g01354/laws.FnExactTrimSet", spec := "fnExactTrimSet", unfollowed := true, recurses := true, apart := false, narrowed := true }
def FnExactTrimSetUptoSaid : Prop := fnExactTrimSetUptoRow.holds Try.pinned (OpenSpec.upto fnExactTrimSetSpec)

/-- 'laws.FnRows', WHERE WHAT IT READS IS OF BULK AT MOST 1048576: true; the input reads as it did. -/
def fnRowsUptoRow : OpenClaim := { program := "ytenlcakpcbmmdaa", sum := "8f180b2b9ea03800c5bd76331ce779a1740ab6d6c6ef90202b810081e9e56408", func := "loop.example/g01354/laws.FnRows", spec := "fnRows", unfollowed := true, recurses := true, apart := false, narrowed := true }
def FnRowsUptoSaid : Prop := fnRowsUptoRow.holds Try.pinned (OpenSpec.upto fnRowsSpec)

/-- 'laws.FnSouthWords', WHERE WHAT IT READS IS OF BULK AT MOST 1048576: true; the input reads as it did. -/
def fnSouthWordsUptoRow : OpenClaim := { program := "ytenlcakpcbmmdaa", sum := "8f180b2b9ea03800c5bd76331ce779a1740ab6d6c6ef90202b810081e9e56408", func := "loop.example/g01354/laws.FnSouthWords", spec := "fnSouthWords", unfollowed := true, recurses := true, apart := false, narrowed := true }
def FnSouthWordsUptoSaid : Prop := fnSouthWordsUptoRow.holds Try.pinned (OpenSpec.upto fnSouthWordsSpec)

end Rows
end Go.Proofs.Ytenlcakpcbmmdaa

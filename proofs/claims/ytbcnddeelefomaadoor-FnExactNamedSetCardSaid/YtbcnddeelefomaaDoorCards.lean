/-
  DERIVED. GIVEN WITH THE SEED: THE CARDS: each row of YtbcnddeelefomaaDoorRows.lean that lists a variable, with what it lists TIED to the program's text (the seventh form; the later family's looks); each row that meets fmt, with fmt's text TOLD by the authors' own Lean function (tested against real Go, not proved from fmt's source: count such statements apart). THE CARD IS WHAT COUNTS. Prove the row's statement (the work); the ties are given (YtbcnddeelefomaaDoorTie.lean); close each card by the builder's one call (the guide's Derived/Test/ToyasCard.lean, 'card_holds'). Laid BY PROGRAM, IN A SANDBOX (cutbox-door.mjs). By AI agents, Wed Nov 11 2026. No macro, syntax, notation, axiom, sorry.
-/
import Derived.Test.YtbcnddeelefomaaDoorRows
import GoSem.ClaimSeven
namespace Go.Proofs.YtbcnddeelefomaaDoor
namespace Rows

/-- THE TIED CARD OF 'laws.FnExactSetText'. -/
def fnExactSetTextCard : Claim7 := { stood := { row := fnExactSetTextRow, standIns := [], harness := (true, "4bf19ccfefda64438a64f65d4e0ea0e521bccf982587c9daa17b63bede51a6b0"), looks := false }, kinds := [], alts := [], laidByText := true, laidKinds := [.data, .data, .data], laidTests := true, laidLooks := .later }
def FnExactSetTextCardSaid : Prop := Claim7.holds Tryd.pinned (.plain (OpenSpec.ofChange fnExactSetTextSpec)) fnExactSetTextCard

/-- THE TIED CARD OF 'laws.FnExactParseSet'. -/
def fnExactParseSetCard : Claim7 := { stood := { row := fnExactParseSetRow, standIns := [], harness := (true, "4bf19ccfefda64438a64f65d4e0ea0e521bccf982587c9daa17b63bede51a6b0"), looks := false }, kinds := [], alts := [], laidByText := true, laidKinds := [.data, .data, .data, .data, .pinned], laidTests := true, laidLooks := .later }
def FnExactParseSetCardSaid : Prop := Claim7.holds Tryd.pinned (.plain (OpenSpec.ofChange fnExactParseSetSpec)) fnExactParseSetCard

/-- THE TIED CARD OF 'laws.FnExactNamedSet'. -/
def fnExactNamedSetCard : Claim7 := { stood := { row := fnExactNamedSetRow, standIns := [], harness := (true, "4bf19ccfefda64438a64f65d4e0ea0e521bccf982587c9daa17b63bede51a6b0"), looks := false }, kinds := [], alts := [], laidByText := true, laidKinds := [.data, .data, .data, .data, .pinned], laidTests := true, laidLooks := .later }
def FnExactNamedSetCardSaid : Prop := Claim7.holds Tryd.pinned (.plain (OpenSpec.ofChange fnExactNamedSetSpec)) fnExactNamedSetCard

/-- THE SECOND FORM's CARD OF 'laws.FnExactSetText'. -/
def fnExactSetTextUptoCard : Claim7 := { stood := { row := fnExactSetTextUptoRow, standIns := [], harness := (true, "4bf19ccfefda64438a64f65d4e0ea0e521bccf982587c9daa17b63bede51a6b0"), looks := false }, kinds := [], alts := [], laidByText := true, laidKinds := [.data, .data, .data], laidTests := true, laidLooks := .later }
def FnExactSetTextUptoCardSaid : Prop := Claim7.holds Tryd.pinned (.plain (OpenSpec.upto fnExactSetTextSpec)) fnExactSetTextUptoCard

/-- THE SECOND FORM's CARD OF 'laws.FnExactParseSet'. -/
def fnExactParseSetUptoCard : Claim7 := { stood := { row := fnExactParseSetUptoRow, standIns := [], harness := (true, "4bf19ccfefda64438a64f65d4e0ea0e521bccf982587c9daa17b63bede51a6b0"), looks := false }, kinds := [], alts := [], laidByText := true, laidKinds := [.data, .data, .data, .data, .pinned], laidTests := true, laidLooks := .later }
def FnExactParseSetUptoCardSaid : Prop := Claim7.holds Tryd.pinned (.plain (OpenSpec.upto fnExactParseSetSpec)) fnExactParseSetUptoCard

/-- THE SECOND FORM's CARD OF 'laws.FnExactNamedSet'. -/
def fnExactNamedSetUptoCard : Claim7 := { stood := { row := fnExactNamedSetUptoRow, standIns := [], harness := (true, "4bf19ccfefda64438a64f65d4e0ea0e521bccf982587c9daa17b63bede51a6b0"), looks := false }, kinds := [], alts := [], laidByText := true, laidKinds := [.data, .data, .data, .data, .pinned], laidTests := true, laidLooks := .later }
def FnExactNamedSetUptoCardSaid : Prop := Claim7.holds Tryd.pinned (.plain (OpenSpec.upto fnExactNamedSetSpec)) fnExactNamedSetUptoCard
end Rows
end Go.Proofs.YtbcnddeelefomaaDoor

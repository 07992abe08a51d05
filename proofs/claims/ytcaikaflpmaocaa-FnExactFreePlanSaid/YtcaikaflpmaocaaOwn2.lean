/-
  Words: append where the row of one element lies behind other new blocks; an end of three values.
-/
import Derived.Test.YtcaikaflpmaocaaOwn
namespace Go.Proofs.Ytcaikaflpmaocaa
open Go Go.RowKit Go.Proofs
set_option linter.unusedVariables false
set_option linter.unusedSimpArgs false
section
variable {P : Program} {ops : Array Oper} {rest : List Oper} {o : Oper} {a : Act} {Q : Exit → Act → World → Prop}
end
end Go.Proofs.Ytcaikaflpmaocaa

/-
  Contracts of the laws' own helpers: arguments copied, sized, compared.
-/
import Derived.Test.YtcaikaflpmaocaaTile
namespace Go.Proofs.Ytcaikaflpmaocaa
open Go Go.RowKit Go.Proofs
set_option linter.unusedVariables false
set_option linter.unusedSimpArgs false
end Go.Proofs.Ytcaikaflpmaocaa

/-
  Contracts of the functions on one tile, on ranges of numbers, on comparisons.
-/
import Derived.Test.YtcaikaflpmaocaaProg
import Derived.Test.YtcaikaflpmaocaaBase
namespace Go.Proofs.Ytcaikaflpmaocaa
open Go Go.RowKit Go.Proofs
set_option linter.unusedVariables false
set_option linter.unusedSimpArgs false
end Go.Proofs.Ytcaikaflpmaocaa

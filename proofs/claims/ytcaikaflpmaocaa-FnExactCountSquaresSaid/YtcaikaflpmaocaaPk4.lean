/-
  Parts of the proof, in their order: Law1.
-/
import Derived.Test.YtcaikaflpmaocaaPk2
import Derived.Test.YtcaikaflpmaocaaPk3
namespace Go.Proofs.Ytcaikaflpmaocaa
open Go Go.RowKit Go.Proofs
set_option linter.unusedVariables false
set_option linter.unusedSimpArgs false
theorem info2 : (Try.prog.info? 2).map (fun i => (i.zero, i.size, i.bytes)) = some (some (.int .i64 0), 1, 8) := by kernel_rfl
end Go.Proofs.Ytcaikaflpmaocaa

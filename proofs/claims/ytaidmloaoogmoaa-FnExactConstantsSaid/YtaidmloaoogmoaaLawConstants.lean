/-
  The walk of the law FnExactConstants.
-/
import Derived.Test.YtaidmloaoogmoaaProg
import Derived.Test.YtaidmloaoogmoaaBase
namespace Go.Proofs.Ytaidmloaoogmoaa
open Go Go.RowKit Go.Proofs

theorem lawConstants_any (w : World) : Calls Try.prog 3 #[] w fun e w' => e = .returned (.bool true) ∧ Below w.heap.size w w' := by
  go_enter Try.func3, Try.ntmps3
  go_wp2
  go_ret
  exact ⟨rfl, Below.refl _ _⟩
end Go.Proofs.Ytaidmloaoogmoaa

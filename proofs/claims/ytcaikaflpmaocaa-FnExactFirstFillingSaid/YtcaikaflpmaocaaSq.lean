/-
  Short names for words of the print.
-/
import Derived.Test.YtcaikaflpmaocaaWWords
import Derived.Test.YtcaikaflpmaocaaWLast
import Derived.Test.YtcaikaflpmaocaaWMore
namespace Go.Proofs.Ytcaikaflpmaocaa
open Go Go.RowKit Go.Proofs.YtcaikaflpmaocaaW.PrintWords Go.Proofs.YtcaikaflpmaocaaW.PrintLast Go.Proofs.YtcaikaflpmaocaaW.PrintMore
abbrev bN_ := @blk_drewN
abbrev bD_ := @blk_drew
abbrev bA_ := @blk_alloc
abbrev lA_ := @below_alloc
abbrev lN_ := @pw_below_drewN
abbrev lD_ := @below_drew1
abbrev lS_ := @below_set
abbrev t_ : Bool := true
abbrev f_ : Bool := false
theorem q1_ {α : Type} (l : List α) (i : Nat) (a : α) : l.toArray.setIfInBounds i a = (l.set i a).toArray := by simp
theorem q2_ {α : Type} (x : α) (l : List α) (a : α) : (x :: l).set 0 a = a :: l := by simp
theorem q3_ {α : Type} (x : α) (l : List α) (i : Nat) (a : α) : (x :: l).set (i + 1) a = x :: l.set i a := by simp
theorem q4_ {α : Type} {β : Type} (f : α → β) (l : List α) : l.toArray.map f = (l.map f).toArray := by simp
theorem q5_ {α : Type} {β : Type} (f : α → β) (x : α) (l : List α) : (x :: l).map f = f x :: l.map f := rfl
theorem q6_ {α : Type} {β : Type} (f : α → β) : ([] : List α).map f = [] := rfl
end Go.Proofs.Ytcaikaflpmaocaa

/-
  Short names for words of the print.
-/
import Derived.Test.YtcaikaflpmaocaaWWords
import Derived.Test.YtcaikaflpmaocaaWLast
import Derived.Test.YtcaikaflpmaocaaWTab
import Derived.Test.YtcaikaflpmaocaaWMore
namespace Go.Proofs.Ytcaikaflpmaocaa
open Go Go.RowKit Go.Proofs.YtcaikaflpmaocaaW.PrintWords Go.Proofs.YtcaikaflpmaocaaW.PrintLast Go.Proofs.YtcaikaflpmaocaaW.PrintMore
abbrev bN_ := @blk_drewN
abbrev bD_ := @blk_drew
abbrev bA_ := @blk_alloc
abbrev lA_ := @below_alloc
abbrev lN_ := @pw_below_drewN
abbrev lD_ := @below_drew1
abbrev lS_ := @below_set
abbrev t_ : Bool := true
abbrev f_ : Bool := false
theorem q1_ {α : Type} (l : List α) (i : Nat) (a : α) : l.toArray.setIfInBounds i a = (l.set i a).toArray := by simp
theorem q2_ {α : Type} (x : α) (l : List α) (a : α) : (x :: l).set 0 a = a :: l := by simp
theorem q3_ {α : Type} (x : α) (l : List α) (i : Nat) (a : α) : (x :: l).set (i + 1) a = x :: l.set i a := by simp
theorem q4_ {α : Type} {β : Type} (f : α → β) (l : List α) : l.toArray.map f = (l.map f).toArray := by simp
theorem q5_ {α : Type} {β : Type} (f : α → β) (x : α) (l : List α) : (x :: l).map f = f x :: l.map f := rfl
theorem Q_ : (∀ (a : Act) (d : Tmp) (v : Value), a.put (some d) v = { tmps := a.tmps.setIfInBounds d v, defers := a.defers }) ∧ (∀ (l : List Value) (i : Nat) (a : Value), l.toArray.setIfInBounds i a = (l.set i a).toArray) ∧ (∀ (x : Value) (l : List Value) (a : Value), (x :: l).set 0 a = a :: l) ∧ (∀ (x : Value) (l : List Value) (i : Nat) (a : Value), (x :: l).set (i + 1) a = x :: l.set i a) ∧ (∀ n : Int, IntKind.i64.wrap n = wrap64 n) ∧ (∀ n : Int, IntKind.i32.wrap n = wrap32 n) :=
 ⟨fun _ _ _ => rfl, fun _ _ _ => by simp, fun _ _ _ => by simp, fun _ _ _ _ => by simp, i64_w, i32_w⟩
theorem p_ {P : Program} {ops : Array Oper} {Q : Exit → Act → World → Prop} {md : Region.Mode} {S : World → Prop} {ds : List Nat} {oi : Oper} {fuel : Nat} {l : Array Bool} {a : Act} {w : World} {T : Bool × List (List Nat × List Nat)} (i N : Nat) (v : Value) (l' : Array Bool) (h1 : ops[i]? = some oi) (h2 : oi.dst = some N) (hT : rtab md ops = T) (h3 : anyT T l.toList l'.toList i = true)
 (hk : ∀ (c : List PanicEntry) (a : Act) (w : World), Q (.panic c) (a.put oi.dst v) w → Q (.panic c) a w) (h4 : Yields P ops oi v a) (a' : Act) (h5 : a.put (some N) v = a') (h6 : wpAnyLast P md ops Q S ds fuel l' a' w) : wpAnyLast P md ops Q S ds (fuel + 1) l a w := pure_ l' h1 h2 (any_of hT h3) hk h4 h5 h6
theorem tk_ {P : Program} {ops : Array Oper} {Q : Exit → Act → World → Prop} {md : Region.Mode} {S : World → Prop} {ds : List Nat} {oi : Oper} {fuel : Nat} {l : Array Bool} {a : Act} {w : World} (i N : Nat) (v : Value) (l' : Array Bool) (h1 : ops[i]? = some oi) (h2 : oi.dst = some N) (h3 : takeB md ops ds l l' i = true)
 (hk : ∀ (c : List PanicEntry) (a : Act) (w : World), Q (.panic c) (a.put oi.dst v) w → Q (.panic c) a w) (h4 : YieldsIf P ops S oi v a) (hS : S w) (a' : Act) (h5 : a.put (some N) v = a') (h6 : wpAnyLast P md ops Q S ds fuel l' a' w) : wpAnyLast P md ops Q S ds (fuel + 1) l a w := take_ l' h1 h2 h3 hk h4 hS h5 h6
theorem q6_ {α : Type} {β : Type} (f : α → β) : ([] : List α).map f = [] := rfl
end Go.Proofs.Ytcaikaflpmaocaa

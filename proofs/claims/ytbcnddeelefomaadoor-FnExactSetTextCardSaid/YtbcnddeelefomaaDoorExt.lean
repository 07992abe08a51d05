/-
  Contracts of functions on tiles and sets, in the form of the printed ones.
-/
import Derived.Test.YtbcnddeelefomaaDoorBridge
import Derived.Test.YtbcnddeelefomaaDoorIsSet2
namespace Go.Proofs.YtbcnddeelefomaaDoor.Q
open Go Go.RowKit Go.Proofs Go.Proofs.YtbcnddeelefomaaDoorW.PrintWords Go.Proofs.YtbcnddeelefomaaDoor
set_option linter.unusedVariables false
set_option linter.unusedSimpArgs false

def inLim (n : Nat) : Bool := decide (n ≤ 35184372088832)
def spec_l01Tile.f (a0 a1_0 a1_1 a1_2 a1_3 : Int) : Option Bool := some (tileB ⟨a1_0, a1_1, a1_2, a1_3⟩ (wrap64 (a0 - 1)))
theorem spec_l01Tile.calls (a0 a1_0 a1_1 a1_2 a1_3 : Int) (r : Bool) (w : World) (h : spec_l01Tile.f a0 a1_0 a1_1 a1_2 a1_3 = some r) :
    Calls Tryd.prog 31 #[.int .i64 a0, .agg #[.int .i64 a1_0, .int .i64 a1_1, .int .i64 a1_2, .int .i64 a1_3]] w fun e w' => e = .returned (.bool r) ∧ Below w.heap.size w w' := by
  obtain rfl := Option.some.inj h
  exact l01Tile_any a0 ⟨a1_0, a1_1, a1_2, a1_3⟩ w
def spec_l01Before.f (a0_0 a0_1 a0_2 a0_3 a1_0 a1_1 a1_2 a1_3 : Int) : Option Bool := some (ltT ⟨a0_0, a0_1, a0_2, a0_3⟩ ⟨a1_0, a1_1, a1_2, a1_3⟩)
theorem spec_l01Before.calls (a0_0 a0_1 a0_2 a0_3 a1_0 a1_1 a1_2 a1_3 : Int) (r : Bool) (w : World) (h : spec_l01Before.f a0_0 a0_1 a0_2 a0_3 a1_0 a1_1 a1_2 a1_3 = some r) :
    Calls Tryd.prog 32 #[.agg #[.int .i64 a0_0, .int .i64 a0_1, .int .i64 a0_2, .int .i64 a0_3], .agg #[.int .i64 a1_0, .int .i64 a1_1, .int .i64 a1_2, .int .i64 a1_3]] w fun e w' => e = .returned (.bool r) ∧ Below w.heap.size w w' := by
  obtain rfl := Option.some.inj h
  exact l01Before_any ⟨a0_0, a0_1, a0_2, a0_3⟩ ⟨a1_0, a1_1, a1_2, a1_3⟩ w
def spec_l01Is.f (a0_0 : Int) (l0_1 : List STile) : Option Bool := if inLim l0_1.length = true then some (isS a0_0 (l0_1.map toT)) else none
theorem spec_l01Is.calls (a0_0 : Int) (A0_1 : Option Addr) (c0_1 : Nat) (l0_1 : List STile) (r : Bool) (w : World) (hr0_1 : Kd.C k50 w A0_1 l0_1.length l0_1) (hc0_1 : l0_1.length ≤ c0_1) (h : spec_l01Is.f a0_0 l0_1 = some r) :
    Calls Tryd.prog 18 #[.agg #[.int .i64 a0_0, .slice A0_1 l0_1.length c0_1]] w fun e w' => e = .returned (.bool r) ∧ Below w.heap.size w w' := by
  unfold spec_l01Is.f at h
  split at h
  · rename_i hl
    obtain rfl := Option.some.inj h
    exact l01Is_any a0_0 A0_1 (l0_1.map toT) _ c0_1 w (by simp) (rt_of_C hr0_1) (by simpa [inLim] using hl)
  · cases h
def impl_isTile.f (a0_0 a0_1 a0_2 a0_3 a1 : Int) : Option Bool := some (tileB ⟨a0_0, a0_1, a0_2, a0_3⟩ (wrap64 (a1 - 1)))
theorem impl_isTile.calls (a0_0 a0_1 a0_2 a0_3 a1 : Int) (r : Bool) (w : World) (h : impl_isTile.f a0_0 a0_1 a0_2 a0_3 a1 = some r) :
    Calls Tryd.prog 35 #[.agg #[.int .i64 a0_0, .int .i64 a0_1, .int .i64 a0_2, .int .i64 a0_3], .int .i64 a1] w fun e w' => e = .returned (.bool r) ∧ Below w.heap.size w w' := by
  obtain rfl := Option.some.inj h
  exact isTile_any ⟨a0_0, a0_1, a0_2, a0_3⟩ a1 w
def impl_IsSet.f (a0_0 : Int) (l0_1 : List STile) : Option Bool := if inLim l0_1.length = true then some (isS a0_0 (l0_1.map toT)) else none
theorem impl_IsSet.calls (a0_0 : Int) (A0_1 : Option Addr) (c0_1 : Nat) (l0_1 : List STile) (r : Bool) (w : World) (hr0_1 : Kd.C k50 w A0_1 l0_1.length l0_1) (hc0_1 : l0_1.length ≤ c0_1) (h : impl_IsSet.f a0_0 l0_1 = some r) :
    Calls Tryd.prog 21 #[.agg #[.int .i64 a0_0, .slice A0_1 l0_1.length c0_1]] w fun e w' => e = .returned (.bool r) ∧ Below w.heap.size w w' := by
  unfold impl_IsSet.f at h
  split at h
  · rename_i hl
    obtain rfl := Option.some.inj h
    exact IsSet_any a0_0 A0_1 (l0_1.map toT) _ c0_1 w (by simp) (rt_of_C hr0_1) (by simpa [inLim] using hl)
  · cases h
end Go.Proofs.YtbcnddeelefomaaDoor.Q

/-
  Plain: the free plan of h rows of w places, by both, out of the printed forms.
-/
import Derived.Test.YtcaikaflpmaocaaQSpecFreePlan
import Derived.Test.YtcaikaflpmaocaaQImplFreePlan2
namespace Go.Proofs.Ytcaikaflpmaocaa
open Go Go.RowKit Go.Proofs Go.Proofs.YtcaikaflpmaocaaW.PrintWords Go.Proofs.Ytcaikaflpmaocaa.Q
def freeR (a b : Int) : List (List Int) × Int := if 1 ≤ a ∧ a ≤ 5 ∧ 1 ≤ b ∧ b ≤ 5 then (List.replicate a.toNat (List.replicate b.toNat (-1)), 0) else ([], 2)
theorem five {a : Int} (h : 1 ≤ a ∧ a ≤ 5) : a = 1 ∨ a = 2 ∨ a = 3 ∨ a = 4 ∨ a = 5 := by omega
theorem specFree_small {a b : Int} (ha : 1 ≤ a ∧ a ≤ 5) (hb : 1 ≤ b ∧ b ≤ 5) : spec_l03Free.f 60 a b = some (List.replicate a.toNat (List.replicate b.toNat (-1))) := by
  rcases five ha with rfl | rfl | rfl | rfl | rfl <;> rcases five hb with rfl | rfl | rfl | rfl | rfl <;> decide +kernel
theorem implFree_small {a b : Int} (ha : 1 ≤ a ∧ a ≤ 5) (hb : 1 ≤ b ∧ b ≤ 5) : impl_freePlan.f 60 a b = some (List.replicate a.toNat (List.replicate b.toNat (-1))) := by
  rcases five ha with rfl | rfl | rfl | rfl | rfl <;> rcases five hb with rfl | rfl | rfl | rfl | rfl <;> decide +kernel
theorem specFree_eq (a b : Int) : spec_FreePlan.f 60 a b = some (freeR a b) := by
  unfold spec_FreePlan.f spec_l01In.f freeR
  by_cases ha : 1 ≤ a ∧ a ≤ 5
  · by_cases hb : 1 ≤ b ∧ b ≤ 5
    · simp [specFree_small ha hb, ha.1, ha.2, hb.1, hb.2]
    · simp [ha.1, ha.2]
      split <;> rename_i h <;> simp <;> (try split) <;> simp_all <;> omega
  · split <;> rename_i h <;> simp <;> (try split) <;> simp_all <;> omega
theorem implFree_eq (a b : Int) : impl_FreePlan.f 60 a b = some (freeR a b) := by
  unfold impl_FreePlan.f impl_within.f freeR
  by_cases ha : 1 ≤ a ∧ a ≤ 5
  · by_cases hb : 1 ≤ b ∧ b ≤ 5
    · simp [implFree_small ha hb, ha.1, ha.2, hb.1, hb.2]
    · simp [ha.1, ha.2]
      split <;> rename_i h <;> simp <;> (try split) <;> simp_all <;> omega
  · split <;> rename_i h <;> simp <;> (try split) <;> simp_all <;> omega
end Go.Proofs.Ytcaikaflpmaocaa

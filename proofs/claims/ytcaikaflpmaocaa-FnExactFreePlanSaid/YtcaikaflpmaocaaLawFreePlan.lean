/-
  The walk of the law FnExactFreePlan.
-/
import Derived.Test.YtcaikaflpmaocaaPFree
import Derived.Test.YtcaikaflpmaocaaLaw2
import Derived.Deep.RegionHeld3
namespace Go.Proofs.Ytcaikaflpmaocaa
open Go Go.RowKit Go.Proofs Go.Proofs.YtcaikaflpmaocaaW.PrintWords Go.Proofs.Ytcaikaflpmaocaa.Q
set_option linter.unusedVariables false
set_option linter.unusedSimpArgs false
theorem specFreePlan_any (a b : Int) (w : World) : Calls Try.prog 10 #[.int .i64 a, .int .i64 b] w fun e w' => ∃ v xs code, freeR a b = (xs, code) ∧ e = .returned (.tuple #[v, .int .i64 code]) ∧ OWS w' w.heap.size w'.heap.size v xs (fun i => icells (rowAt xs i)) ∧ Below w.heap.size w w' :=
  (spec_FreePlan.calls 60 a b (freeR a b).1 (freeR a b).2 w (specFree_eq a b)).mono fun e w' ⟨v, he, hR, hB⟩ => ⟨v, _, _, rfl, he, ows_of_S hR, hB⟩
theorem implFreePlan_any (a b : Int) (w : World) : Calls Try.prog 11 #[.int .i64 a, .int .i64 b] w fun e w' => ∃ v xs code, freeR a b = (xs, code) ∧ e = .returned (.tuple #[v, .int .i64 code]) ∧ OWS w' w.heap.size w'.heap.size v xs (fun i => icells (rowAt xs i)) ∧ Below w.heap.size w w' :=
  (impl_FreePlan.calls 60 a b (freeR a b).1 (freeR a b).2 w (implFree_eq a b)).mono fun e w' ⟨v, he, hR, hB⟩ => ⟨v, _, _, rfl, he, ows_of_S hR, hB⟩
theorem tot_replicate (xs : List Int) (n : Nat) : ∀ j, j ≤ n → tot (rowLen (List.replicate n xs)) j = j * xs.length := by
  intro j
  induction j with
  | zero => intro _; simp [tot]
  | succ j ih =>
    intro h
    rw [tot, ih (by omega), Nat.succ_mul, rowLen_at (p := xs) (by simp [List.getElem?_replicate]; omega)]
theorem freeR_len (a b : Int) : (freeR a b).1.length ≤ 1000000 ∧ rowsz0 (freeR a b).1 ≤ 40000000 := by
  unfold freeR
  split
  · rename_i h
    refine ⟨by simp; omega, ?_⟩
    unfold rowsz0
    rw [tot_replicate _ _ _ (by simp), List.length_replicate, List.length_replicate]
    have : a.toNat * b.toNat ≤ 5 * 5 := Nat.mul_le_mul (by omega) (by omega)
    omega
  · exact ⟨by simp, by simp [rowsz0, tot]⟩
set_option maxHeartbeats 16000000 in
set_option maxRecDepth 100000 in
theorem lawFreePlan_any (w : World) (x0 : Int) (hx0 : -9223372036854775808 ≤ x0 ∧ x0 ≤ 9223372036854775807) (x1 : Int) (hx1 : -9223372036854775808 ≤ x1 ∧ x1 ≤ 9223372036854775807) :
    Calls Try.prog 3 #[.int .i64 x0, .int .i64 x1] w fun e w' => e = .returned (.bool true) ∧ Below w.heap.size w w' := by
  obtain ⟨r_, hr_⟩ : ∃ r, freeR x0 x1 = r := ⟨_, rfl⟩
  obtain ⟨r1, r2⟩ := r_
  have hb1 : r1.length ≤ 1000000 ∧ rowsz0 r1 ≤ 40000000 := by have h_ := freeR_len x0 x1; rw [hr_] at h_; exact h_
  have HR := Lib.hid hr_; clear hr_
  go_enter Try.func3, Try.ntmps3
  go_wp2_with fail
  refine (specFreePlan_any (x0) (x1) w  ).mono ?_
  rintro e w1 ⟨v0_, x0_, x1_, hR_, rfl, hO0, hB⟩
  obtain ⟨rfl, rfl⟩ : r1 = x0_ ∧ r2 = x1_ := (by have h_ := HR.out.symm.trans hR_; simpa using h_)
  clear hR_
  obtain ⟨A1_, c1_, rfl⟩ := hO0.form0
  have O1 := Lib.hid hO0
  clear hO0
  have sw1 : w.heap.size ≤ w1.heap.size := hB.size
  have hE := Lib.hid (hB)
  clear hB
  go_wp2_with fail
  refine (implFreePlan_any (x0) (x1) w1  ).mono ?_
  rintro e w2 ⟨v0_, x0_, x1_, hR_, rfl, hO0, hB⟩
  obtain ⟨rfl, rfl⟩ : r1 = x0_ ∧ r2 = x1_ := (by have h_ := HR.out.symm.trans hR_; simpa using h_)
  clear hR_
  obtain ⟨A2_, c2_, rfl⟩ := hO0.form0
  have O2 := Lib.hid hO0
  clear hO0
  replace O1 := Lib.hid (O1.out.to hB)
  have sw2 : w1.heap.size ≤ w2.heap.size := hB.size
  replace hE := Lib.hid (below_to hE.out hB)
  clear hB
  go_wp2_with fail
  refine (eqInt64SS_any A2_ A1_ r1 r1 r1.length r1.length c2_ c1_ w2 rfl rfl (rr_of O2.out rfl) (rr_of O1.out rfl) (by omega) (by omega)).mono ?_
  rintro e w3 ⟨rfl, hB⟩
  simp only [decide_true, Bool.and_self]
  replace O1 := Lib.hid (O1.out.to hB)
  replace O2 := Lib.hid (O2.out.to hB)
  have sw3 : w2.heap.size ≤ w3.heap.size := hB.size
  replace hE := Lib.hid (below_to hE.out hB)
  clear hB
  go_wp2_with fail
  obtain ⟨m_O2, hm_O2⟩ : ∃ m, m = rowsz0 r1 := ⟨_, rfl⟩
  have bm_O2 : m_O2 ≤ 40000000 := by have := hb1; omega
  have Hm_O2 := Lib.hid hm_O2; clear hm_O2
  refine (markInt64SS_m w1.heap.size w2.heap.size r1 m_O2 (1) w3 Hm_O2.out O2.out (by omega) (by omega) (by omega)).mono ?_
  rintro e w4 ⟨rfl, hO, hK⟩
  clear O2
  have O2 := Lib.hid hO
  clear hO
  replace O1 := Lib.hid (O1.out.only hK (by omega))
  have sw4 : w3.heap.size ≤ w4.heap.size := hK.size
  replace hE := Lib.hid (below_only hE.out hK (by omega))
  clear hK
  go_wp2_with fail
  refine (heldInt64SS_m w1.heap.size w2.heap.size r1 m_O2 (1) w4 Hm_O2.out O2.out (by omega) (by omega) (by omega)).mono ?_
  rintro e w5 ⟨rfl, hB⟩
  replace O1 := Lib.hid (O1.out.to hB)
  replace O2 := Lib.hid (O2.out.to hB)
  have sw5 : w4.heap.size ≤ w5.heap.size := hB.size
  replace hE := Lib.hid (below_to hE.out hB)
  clear hB
  go_wp2_with fail
  refine (implFreePlan_any (x0) (x1) w5  ).mono ?_
  rintro e w6 ⟨v0_, x0_, x1_, hR_, rfl, hO0, hB⟩
  obtain ⟨rfl, rfl⟩ : r1 = x0_ ∧ r2 = x1_ := (by have h_ := HR.out.symm.trans hR_; simpa using h_)
  clear hR_
  obtain ⟨A3_, c3_, rfl⟩ := hO0.form0
  have O3 := Lib.hid hO0
  clear hO0
  replace O1 := Lib.hid (O1.out.to hB)
  replace O2 := Lib.hid (O2.out.to hB)
  have sw6 : w5.heap.size ≤ w6.heap.size := hB.size
  replace hE := Lib.hid (below_to hE.out hB)
  clear hB
  go_wp2_with fail
  refine (eqInt64SS_any A3_ A1_ r1 r1 r1.length r1.length c3_ c1_ w6 rfl rfl (rr_of O3.out rfl) (rr_of O1.out rfl) (by omega) (by omega)).mono ?_
  rintro e w7 ⟨rfl, hB⟩
  simp only [decide_true, Bool.and_self]
  replace O1 := Lib.hid (O1.out.to hB)
  replace O2 := Lib.hid (O2.out.to hB)
  replace O3 := Lib.hid (O3.out.to hB)
  have sw7 : w6.heap.size ≤ w7.heap.size := hB.size
  replace hE := Lib.hid (below_to hE.out hB)
  clear hB
  go_wp2_with fail
  refine (heldInt64SS_m w1.heap.size w2.heap.size r1 m_O2 (1) w7 Hm_O2.out O2.out (by omega) (by omega) (by omega)).mono ?_
  rintro e w8 ⟨rfl, hB⟩
  replace O1 := Lib.hid (O1.out.to hB)
  replace O2 := Lib.hid (O2.out.to hB)
  replace O3 := Lib.hid (O3.out.to hB)
  have sw8 : w7.heap.size ≤ w8.heap.size := hB.size
  replace hE := Lib.hid (below_to hE.out hB)
  clear hB
  go_wp2_with fail
  go_ret
  exact ⟨rfl, hE.out⟩
end Go.Proofs.Ytcaikaflpmaocaa

/-
  The walk of the law FnExactBelowOf.
-/
import Derived.Test.YtaidmloaoogmoaaNear
import Derived.Deep.RegionHeld3
namespace Go.Proofs.Ytaidmloaoogmoaa
open Go Go.RowKit Go.Proofs
set_option linter.unusedVariables false
set_option linter.unusedSimpArgs false

set_option maxHeartbeats 16000000 in
set_option maxRecDepth 100000 in
theorem lawBelowOf_any (w : World) (C0 : Int) (A0 : Option Addr) (ts0 : List T4) (n0 c0 : Nat) (hn0 : n0 = ts0.length) (hA0 : RT w A0 ts0) (hnc0 : n0 ≤ c0) (hl0 : n0 ≤ 35184372088832) (hC0 : -9223372036854775808 ≤ C0 ∧ C0 ≤ 9223372036854775807) (x1 : Int) (hx1 : -9223372036854775808 ≤ x1 ∧ x1 ≤ 9223372036854775807) :
    Calls Try.prog 8 #[.agg #[.int .i64 C0, .slice A0 n0 c0], .int .i64 x1] w fun e w' => e = .returned (.bool true) ∧ Below w.heap.size w w' := by
  subst hn0
  have HA0 := Lib.hid hA0; clear hA0
  by_cases hbig0 : (1048576 : Int) < ((ts0.length : Nat) : Int)
  · go_enter Try.func8, Try.ntmps8
    go_wp2_with fail
    refine namec1 ?_
    intro w1 b0 hz hB
    have tw1 : w.heap.size + 1 ≤ w1.heap.size := by omega
    clear hz
    have sw1 : w.heap.size ≤ w1.heap.size := hB.size
    have hE := Lib.hid (hB)
    clear hB
    refine (szSet_any C0 A0 ts0.length c0 (1048576) w1 (by omega) (by omega) (by omega)).mono ?_
    rintro e w2 ⟨rfl, hB⟩
    rw [if_pos (show (1048576 : Int) < (ts0.length : Nat) by omega)]
    replace b0 := b0.below hB b0.lt
    have sw2 : w1.heap.size ≤ w2.heap.size := hB.size
    replace hE := Lib.hid (below_to hE.out hB)
    clear hB
    go_wp2_with fail
    go_ret
    exact ⟨rfl, hE.out⟩
  · replace hbig0 : ((ts0.length : Nat) : Int) ≤ 1048576 := by omega
    obtain ⟨r_, hr_⟩ : ∃ r, nearR C0 ts0 x1 1 3 = r := ⟨_, rfl⟩
    obtain ⟨r1, r2⟩ := r_
    have hb1 : r1.length ≤ 1048576 := by have h_ := nearR_len C0 ts0 x1 1 3; rw [hr_] at h_; exact h_
    have HR := Lib.hid hr_; clear hr_
    go_enter Try.func8, Try.ntmps8
    go_wp2_with fail
    refine namec1 ?_
    intro w1 b0 hz hB
    have tw1 : w.heap.size + 1 ≤ w1.heap.size := by omega
    clear hz
    have sw1 : w.heap.size ≤ w1.heap.size := hB.size
    have hE := Lib.hid (hB)
    clear hB
    refine (szSet_any C0 A0 ts0.length c0 (1048576) w1 (by omega) (by omega) (by omega)).mono ?_
    rintro e w2 ⟨rfl, hB⟩
    rw [if_neg (show ¬ (1048576 : Int) < (ts0.length : Nat) by omega)]
    replace b0 := b0.below hB b0.lt
    have sw2 : w1.heap.size ≤ w2.heap.size := hB.size
    replace hE := Lib.hid (below_to hE.out hB)
    clear hB
    have l0 := b0.lt
    have c0_0 : w2.cell? ⟨w.heap.size, 0, none⟩ = some (.int .i64 C0) := b0.cell rfl
    have c0_1 : w2.cell? ⟨w.heap.size, 1, none⟩ = some (.slice A0 ts0.length c0) := b0.cell rfl
    go_wp2_with fail
    clear l0 c0_0 c0_1
    refine (toSet_any C0 A0 ts0 ts0.length c0 w2 rfl (HA0.out.below hE.out) (by omega)).mono ?_
    rintro e w3 ⟨v_, rfl, hO, hB⟩
    obtain ⟨A1_, c1_, rfl, -, -⟩ := hO.reads
    have O1 := Lib.hid (OW.of hO)
    clear hO
    replace b0 := b0.below hB b0.lt
    have sw3 : w2.heap.size ≤ w3.heap.size := hB.size
    replace hE := Lib.hid (below_to hE.out hB)
    clear hB
    have l0 := b0.lt
    have c0_0 : w3.cell? ⟨w.heap.size, 0, none⟩ = some (.int .i64 C0) := b0.cell rfl
    have c0_1 : w3.cell? ⟨w.heap.size, 1, none⟩ = some (.slice A0 ts0.length c0) := b0.cell rfl
    go_wp2_with fail
    clear l0 c0_0 c0_1
    refine (specBelowOf_any C0 A1_ ts0 ts0.length c1_ (x1) w3 rfl (rt_of O1.out rfl) (le_of O1.out) (by omega) ).mono ?_
    rintro e w4 ⟨v0_, x0_, x1_, hR_, rfl, hO0, hB⟩
    obtain ⟨rfl, rfl⟩ : r1 = x0_ ∧ r2 = x1_ := (by have h_ := HR.out.symm.trans hR_; simpa using h_)
    clear hR_
    obtain ⟨A2_, c2_, rfl, -⟩ := hO0.form
    have O2 := Lib.hid hO0
    clear hO0
    replace b0 := b0.below hB b0.lt
    replace O1 := Lib.hid (O1.out.to hB)
    have sw4 : w3.heap.size ≤ w4.heap.size := hB.size
    replace hE := Lib.hid (below_to hE.out hB)
    clear hB
    have l0 := b0.lt
    have c0_0 : w4.cell? ⟨w.heap.size, 0, none⟩ = some (.int .i64 C0) := b0.cell rfl
    have c0_1 : w4.cell? ⟨w.heap.size, 1, none⟩ = some (.slice A0 ts0.length c0) := b0.cell rfl
    go_wp2_with fail
    clear l0 c0_0 c0_1
    refine (toSet_any C0 A0 ts0 ts0.length c0 w4 rfl (HA0.out.below hE.out) (by omega)).mono ?_
    rintro e w5 ⟨v_, rfl, hO, hB⟩
    obtain ⟨A3_, c3_, rfl, -, -⟩ := hO.reads
    have O3 := Lib.hid (OW.of hO)
    clear hO
    replace b0 := b0.below hB b0.lt
    replace O1 := Lib.hid (O1.out.to hB)
    replace O2 := Lib.hid (O2.out.to hB)
    have sw5 : w4.heap.size ≤ w5.heap.size := hB.size
    replace hE := Lib.hid (below_to hE.out hB)
    clear hB
    have l0 := b0.lt
    have c0_0 : w5.cell? ⟨w.heap.size, 0, none⟩ = some (.int .i64 C0) := b0.cell rfl
    have c0_1 : w5.cell? ⟨w.heap.size, 1, none⟩ = some (.slice A0 ts0.length c0) := b0.cell rfl
    go_wp2_with fail
    clear l0 c0_0 c0_1
    refine namec1 ?_
    intro w6 b1 hz hB
    have tw6 : w5.heap.size + 1 ≤ w6.heap.size := by omega
    clear hz
    replace b0 := b0.below hB b0.lt
    replace O1 := Lib.hid (O1.out.to hB)
    replace O2 := Lib.hid (O2.out.to hB)
    replace O3 := Lib.hid (O3.out.to hB)
    have sw6 : w5.heap.size ≤ w6.heap.size := hB.size
    replace hE := Lib.hid (below_to hE.out hB)
    clear hB
    refine (implBelowOf_any C0 A3_ ts0 ts0.length c3_ (x1) w6 rfl (rt_of O3.out rfl) (le_of O3.out) (by omega) ).mono ?_
    rintro e w7 ⟨v0_, x0_, x1_, hR_, rfl, hO0, hB⟩
    obtain ⟨rfl, rfl⟩ : r1 = x0_ ∧ r2 = x1_ := (by have h_ := HR.out.symm.trans hR_; simpa using h_)
    clear hR_
    obtain ⟨A4_, c4_, rfl, -⟩ := hO0.form
    have O4 := Lib.hid hO0
    clear hO0
    replace b0 := b0.below hB b0.lt
    replace b1 := b1.below hB b1.lt
    replace O1 := Lib.hid (O1.out.to hB)
    replace O2 := Lib.hid (O2.out.to hB)
    replace O3 := Lib.hid (O3.out.to hB)
    have sw7 : w6.heap.size ≤ w7.heap.size := hB.size
    replace hE := Lib.hid (below_to hE.out hB)
    clear hB
    have l0 := b0.lt
    have c0_0 : w7.cell? ⟨w.heap.size, 0, none⟩ = some (.int .i64 C0) := b0.cell rfl
    have c0_1 : w7.cell? ⟨w.heap.size, 1, none⟩ = some (.slice A0 ts0.length c0) := b0.cell rfl
    have l1 := b1.lt
    have c1_0 : w7.cell? ⟨w5.heap.size, 0, none⟩ = some (.int .i64 C0) := b1.cell rfl
    have c1_1 : w7.cell? ⟨w5.heap.size, 1, none⟩ = some (.slice A3_ ts0.length c3_) := b1.cell rfl
    go_wp2_with fail
    clear l0 c0_0 c0_1 l1 c1_0 c1_1
    refine (eqInt64S_any A4_ A2_ r1 r1 r1.length r1.length c4_ c2_ w7 rfl rfl (ri_of O4.out rfl) (ri_of O2.out rfl) (by omega) (by omega)).mono ?_
    rintro e w8 ⟨rfl, hB⟩
    simp only [decide_true, Bool.and_self]
    replace b0 := b0.below hB b0.lt
    replace b1 := b1.below hB b1.lt
    replace O1 := Lib.hid (O1.out.to hB)
    replace O2 := Lib.hid (O2.out.to hB)
    replace O3 := Lib.hid (O3.out.to hB)
    replace O4 := Lib.hid (O4.out.to hB)
    have sw8 : w7.heap.size ≤ w8.heap.size := hB.size
    replace hE := Lib.hid (below_to hE.out hB)
    clear hB
    have l0 := b0.lt
    have c0_0 : w8.cell? ⟨w.heap.size, 0, none⟩ = some (.int .i64 C0) := b0.cell rfl
    have c0_1 : w8.cell? ⟨w.heap.size, 1, none⟩ = some (.slice A0 ts0.length c0) := b0.cell rfl
    have l1 := b1.lt
    have c1_0 : w8.cell? ⟨w5.heap.size, 0, none⟩ = some (.int .i64 C0) := b1.cell rfl
    have c1_1 : w8.cell? ⟨w5.heap.size, 1, none⟩ = some (.slice A3_ ts0.length c3_) := b1.cell rfl
    go_wp2_with fail
    clear l0 c0_0 c0_1 l1 c1_0 c1_1
    have hD : Below w8.heap.size w8 w8.drew := (Below.refl _ _).drew
    replace b0 := b0.below hD b0.lt
    replace b1 := b1.below hD b1.lt
    replace O1 := Lib.hid (O1.out.to hD)
    replace O2 := Lib.hid (O2.out.to hD)
    replace O3 := Lib.hid (O3.out.to hD)
    replace O4 := Lib.hid (O4.out.to hD)
    replace hE := Lib.hid (below_to hE.out hD)
    clear hD
    have d1_w8 : w8.heap.size ≤ w8.drew.heap.size := Nat.le_refl _
    have d2_w8 : w8.drew.heap.size ≤ w8.heap.size := Nat.le_refl _
    go_region_held3 (fun w_ => w_.cell? ⟨w.heap.size, 0, none⟩ = some (.int .i64 C0) ∧ w_.cell? ⟨w.heap.size, 1, none⟩ = some (.slice A0 ts0.length c0) ∧ w_.cell? ⟨w5.heap.size, 0, none⟩ = some (.int .i64 C0) ∧ w_.cell? ⟨w5.heap.size, 1, none⟩ = some (.slice A3_ ts0.length c3_)) (first | exact ⟨b0.cell rfl, b0.cell rfl, b1.cell rfl, b1.cell rfl⟩)
      (first
        | (go_at_call 17; refine (toSet_any C0 A0 ts0 ts0.length c0 w8.drew rfl (HA0.out.below hE.out) (by omega)).mono ?_; rintro e w9 ⟨v_, rfl, hO, hB⟩; obtain ⟨A5_, c5_, rfl, -, -⟩ := hO.reads; have O5 := Lib.hid (OW.of hO); clear hO; replace b0 := b0.below hB b0.lt; replace b1 := b1.below hB b1.lt; replace O1 := Lib.hid (O1.out.to hB); replace O2 := Lib.hid (O2.out.to hB); replace O3 := Lib.hid (O3.out.to hB); replace O4 := Lib.hid (O4.out.to hB); have sw9 : w8.drew.heap.size ≤ w9.heap.size := hB.size; replace hE := Lib.hid (below_to hE.out hB); clear hB)
        | (go_at_call 19; refine (eqSet_any C0 C0 A3_ A5_ ts0 ts0 ts0.length ts0.length c3_ c5_ w9 rfl rfl (rt_of O3.out rfl) (rt_of O5.out rfl) (by omega) (by omega)).mono ?_; rintro e w10 ⟨rfl, hB⟩; simp only [decide_true, Bool.and_self]; replace b0 := b0.below hB b0.lt; replace b1 := b1.below hB b1.lt; replace O1 := Lib.hid (O1.out.to hB); replace O2 := Lib.hid (O2.out.to hB); replace O3 := Lib.hid (O3.out.to hB); replace O4 := Lib.hid (O4.out.to hB); replace O5 := Lib.hid (O5.out.to hB); have sw10 : w9.heap.size ≤ w10.heap.size := hB.size; replace hE := Lib.hid (below_to hE.out hB); clear hB))
    have l0 := b0.lt
    have c0_0 : w10.cell? ⟨w.heap.size, 0, none⟩ = some (.int .i64 C0) := b0.cell rfl
    have c0_1 : w10.cell? ⟨w.heap.size, 1, none⟩ = some (.slice A0 ts0.length c0) := b0.cell rfl
    have l1 := b1.lt
    have c1_0 : w10.cell? ⟨w5.heap.size, 0, none⟩ = some (.int .i64 C0) := b1.cell rfl
    have c1_1 : w10.cell? ⟨w5.heap.size, 1, none⟩ = some (.slice A3_ ts0.length c3_) := b1.cell rfl
    go_wp2_with fail
    clear l0 c0_0 c0_1 l1 c1_0 c1_1
    obtain ⟨m_O3, hm_O3⟩ : ∃ m, m = ts0.length * 4 := ⟨_, rfl⟩
    have bm_O3 : m_O3 ≤ 40000000 := by omega
    have Hm_O3 := Lib.hid hm_O3; clear hm_O3
    refine (markSet_m w4.heap.size w5.heap.size C0 (.slice A3_ ts0.length c3_) ts0.length m_O3 (tcells ts0) (1) w10 Hm_O3.out O3.out (by omega) (by omega) (by omega)).mono ?_
    rintro e w11 ⟨rfl, hO, hK⟩
    clear O3
    have O3 := Lib.hid hO
    clear hO
    replace b0 := b0.only hK (by omega)
    replace b1 := b1.only hK (by omega)
    replace O1 := Lib.hid (O1.out.only hK (by omega))
    replace O2 := Lib.hid (O2.out.only hK (by omega))
    replace O4 := Lib.hid (O4.out.only hK (by omega))
    replace O5 := Lib.hid (O5.out.only hK (by omega))
    have sw11 : w10.heap.size ≤ w11.heap.size := hK.size
    replace hE := Lib.hid (below_only hE.out hK (by omega))
    clear hK
    have l0 := b0.lt
    have c0_0 : w11.cell? ⟨w.heap.size, 0, none⟩ = some (.int .i64 C0) := b0.cell rfl
    have c0_1 : w11.cell? ⟨w.heap.size, 1, none⟩ = some (.slice A0 ts0.length c0) := b0.cell rfl
    have l1 := b1.lt
    have c1_0 : w11.cell? ⟨w5.heap.size, 0, none⟩ = some (.int .i64 C0) := b1.cell rfl
    have c1_1 : w11.cell? ⟨w5.heap.size, 1, none⟩ = some (.slice A3_ ts0.length c3_) := b1.cell rfl
    go_wp2_with fail
    clear l0 c0_0 c0_1 l1 c1_0 c1_1
    refine (eqInt64S_any A4_ A2_ r1 r1 r1.length r1.length c4_ c2_ w11 rfl rfl (ri_of O4.out rfl) (ri_of O2.out rfl) (by omega) (by omega)).mono ?_
    rintro e w12 ⟨rfl, hB⟩
    simp only [decide_true, Bool.and_self]
    replace b0 := b0.below hB b0.lt
    replace b1 := b1.below hB b1.lt
    replace O1 := Lib.hid (O1.out.to hB)
    replace O2 := Lib.hid (O2.out.to hB)
    replace O3 := Lib.hid (O3.out.to hB)
    replace O4 := Lib.hid (O4.out.to hB)
    replace O5 := Lib.hid (O5.out.to hB)
    have sw12 : w11.heap.size ≤ w12.heap.size := hB.size
    replace hE := Lib.hid (below_to hE.out hB)
    clear hB
    have l0 := b0.lt
    have c0_0 : w12.cell? ⟨w.heap.size, 0, none⟩ = some (.int .i64 C0) := b0.cell rfl
    have c0_1 : w12.cell? ⟨w.heap.size, 1, none⟩ = some (.slice A0 ts0.length c0) := b0.cell rfl
    have l1 := b1.lt
    have c1_0 : w12.cell? ⟨w5.heap.size, 0, none⟩ = some (.int .i64 C0) := b1.cell rfl
    have c1_1 : w12.cell? ⟨w5.heap.size, 1, none⟩ = some (.slice A3_ ts0.length c3_) := b1.cell rfl
    go_wp2_with fail
    clear l0 c0_0 c0_1 l1 c1_0 c1_1
    obtain ⟨m_O4, hm_O4⟩ : ∃ m, m = r1.length * 1 := ⟨_, rfl⟩
    have bm_O4 : m_O4 ≤ 40000000 := by omega
    have Hm_O4 := Lib.hid hm_O4; clear hm_O4
    refine (markInt64S_m w6.heap.size w7.heap.size (.slice A4_ r1.length c4_) r1.length m_O4 (icells r1) (1) w12 Hm_O4.out O4.out (by omega) (by omega) (by omega)).mono ?_
    rintro e w13 ⟨rfl, hO, hK⟩
    clear O4
    have O4 := Lib.hid hO
    clear hO
    replace b0 := b0.only hK (by omega)
    replace b1 := b1.only hK (by omega)
    replace O1 := Lib.hid (O1.out.only hK (by omega))
    replace O2 := Lib.hid (O2.out.only hK (by omega))
    replace O3 := Lib.hid (O3.out.only hK (by omega))
    replace O5 := Lib.hid (O5.out.only hK (by omega))
    have sw13 : w12.heap.size ≤ w13.heap.size := hK.size
    replace hE := Lib.hid (below_only hE.out hK (by omega))
    clear hK
    have l0 := b0.lt
    have c0_0 : w13.cell? ⟨w.heap.size, 0, none⟩ = some (.int .i64 C0) := b0.cell rfl
    have c0_1 : w13.cell? ⟨w.heap.size, 1, none⟩ = some (.slice A0 ts0.length c0) := b0.cell rfl
    have l1 := b1.lt
    have c1_0 : w13.cell? ⟨w5.heap.size, 0, none⟩ = some (.int .i64 C0) := b1.cell rfl
    have c1_1 : w13.cell? ⟨w5.heap.size, 1, none⟩ = some (.slice A3_ ts0.length c3_) := b1.cell rfl
    go_wp2_with fail
    clear l0 c0_0 c0_1 l1 c1_0 c1_1
    refine (heldInt64S_m w6.heap.size w7.heap.size (.slice A4_ r1.length c4_) r1.length m_O4 (1) w13 Hm_O4.out O4.out (by omega) (by omega) (by omega)).mono ?_
    rintro e w14 ⟨rfl, hB⟩
    replace b0 := b0.below hB b0.lt
    replace b1 := b1.below hB b1.lt
    replace O1 := Lib.hid (O1.out.to hB)
    replace O2 := Lib.hid (O2.out.to hB)
    replace O3 := Lib.hid (O3.out.to hB)
    replace O4 := Lib.hid (O4.out.to hB)
    replace O5 := Lib.hid (O5.out.to hB)
    have sw14 : w13.heap.size ≤ w14.heap.size := hB.size
    replace hE := Lib.hid (below_to hE.out hB)
    clear hB
    have l0 := b0.lt
    have c0_0 : w14.cell? ⟨w.heap.size, 0, none⟩ = some (.int .i64 C0) := b0.cell rfl
    have c0_1 : w14.cell? ⟨w.heap.size, 1, none⟩ = some (.slice A0 ts0.length c0) := b0.cell rfl
    have l1 := b1.lt
    have c1_0 : w14.cell? ⟨w5.heap.size, 0, none⟩ = some (.int .i64 C0) := b1.cell rfl
    have c1_1 : w14.cell? ⟨w5.heap.size, 1, none⟩ = some (.slice A3_ ts0.length c3_) := b1.cell rfl
    go_wp2_with fail
    clear l0 c0_0 c0_1 l1 c1_0 c1_1
    refine (toSet_any C0 A0 ts0 ts0.length c0 w14 rfl (HA0.out.below hE.out) (by omega)).mono ?_
    rintro e w15 ⟨v_, rfl, hO, hB⟩
    obtain ⟨A6_, c6_, rfl, -, -⟩ := hO.reads
    have O6 := Lib.hid (OW.of hO)
    clear hO
    replace b0 := b0.below hB b0.lt
    replace b1 := b1.below hB b1.lt
    replace O1 := Lib.hid (O1.out.to hB)
    replace O2 := Lib.hid (O2.out.to hB)
    replace O3 := Lib.hid (O3.out.to hB)
    replace O4 := Lib.hid (O4.out.to hB)
    replace O5 := Lib.hid (O5.out.to hB)
    have sw15 : w14.heap.size ≤ w15.heap.size := hB.size
    replace hE := Lib.hid (below_to hE.out hB)
    clear hB
    have l0 := b0.lt
    have c0_0 : w15.cell? ⟨w.heap.size, 0, none⟩ = some (.int .i64 C0) := b0.cell rfl
    have c0_1 : w15.cell? ⟨w.heap.size, 1, none⟩ = some (.slice A0 ts0.length c0) := b0.cell rfl
    have l1 := b1.lt
    have c1_0 : w15.cell? ⟨w5.heap.size, 0, none⟩ = some (.int .i64 C0) := b1.cell rfl
    have c1_1 : w15.cell? ⟨w5.heap.size, 1, none⟩ = some (.slice A3_ ts0.length c3_) := b1.cell rfl
    go_wp2_with fail
    clear l0 c0_0 c0_1 l1 c1_0 c1_1
    refine (implBelowOf_any C0 A6_ ts0 ts0.length c6_ (x1) w15 rfl (rt_of O6.out rfl) (le_of O6.out) (by omega) ).mono ?_
    rintro e w16 ⟨v0_, x0_, x1_, hR_, rfl, hO0, hB⟩
    obtain ⟨rfl, rfl⟩ : r1 = x0_ ∧ r2 = x1_ := (by have h_ := HR.out.symm.trans hR_; simpa using h_)
    clear hR_
    obtain ⟨A7_, c7_, rfl, -⟩ := hO0.form
    have O7 := Lib.hid hO0
    clear hO0
    replace b0 := b0.below hB b0.lt
    replace b1 := b1.below hB b1.lt
    replace O1 := Lib.hid (O1.out.to hB)
    replace O2 := Lib.hid (O2.out.to hB)
    replace O3 := Lib.hid (O3.out.to hB)
    replace O4 := Lib.hid (O4.out.to hB)
    replace O5 := Lib.hid (O5.out.to hB)
    replace O6 := Lib.hid (O6.out.to hB)
    have sw16 : w15.heap.size ≤ w16.heap.size := hB.size
    replace hE := Lib.hid (below_to hE.out hB)
    clear hB
    have l0 := b0.lt
    have c0_0 : w16.cell? ⟨w.heap.size, 0, none⟩ = some (.int .i64 C0) := b0.cell rfl
    have c0_1 : w16.cell? ⟨w.heap.size, 1, none⟩ = some (.slice A0 ts0.length c0) := b0.cell rfl
    have l1 := b1.lt
    have c1_0 : w16.cell? ⟨w5.heap.size, 0, none⟩ = some (.int .i64 C0) := b1.cell rfl
    have c1_1 : w16.cell? ⟨w5.heap.size, 1, none⟩ = some (.slice A3_ ts0.length c3_) := b1.cell rfl
    go_wp2_with fail
    clear l0 c0_0 c0_1 l1 c1_0 c1_1
    refine (eqInt64S_any A7_ A2_ r1 r1 r1.length r1.length c7_ c2_ w16 rfl rfl (ri_of O7.out rfl) (ri_of O2.out rfl) (by omega) (by omega)).mono ?_
    rintro e w17 ⟨rfl, hB⟩
    simp only [decide_true, Bool.and_self]
    replace b0 := b0.below hB b0.lt
    replace b1 := b1.below hB b1.lt
    replace O1 := Lib.hid (O1.out.to hB)
    replace O2 := Lib.hid (O2.out.to hB)
    replace O3 := Lib.hid (O3.out.to hB)
    replace O4 := Lib.hid (O4.out.to hB)
    replace O5 := Lib.hid (O5.out.to hB)
    replace O6 := Lib.hid (O6.out.to hB)
    replace O7 := Lib.hid (O7.out.to hB)
    have sw17 : w16.heap.size ≤ w17.heap.size := hB.size
    replace hE := Lib.hid (below_to hE.out hB)
    clear hB
    have l0 := b0.lt
    have c0_0 : w17.cell? ⟨w.heap.size, 0, none⟩ = some (.int .i64 C0) := b0.cell rfl
    have c0_1 : w17.cell? ⟨w.heap.size, 1, none⟩ = some (.slice A0 ts0.length c0) := b0.cell rfl
    have l1 := b1.lt
    have c1_0 : w17.cell? ⟨w5.heap.size, 0, none⟩ = some (.int .i64 C0) := b1.cell rfl
    have c1_1 : w17.cell? ⟨w5.heap.size, 1, none⟩ = some (.slice A3_ ts0.length c3_) := b1.cell rfl
    go_wp2_with fail
    clear l0 c0_0 c0_1 l1 c1_0 c1_1
    refine (heldInt64S_m w6.heap.size w7.heap.size (.slice A4_ r1.length c4_) r1.length m_O4 (1) w17 Hm_O4.out O4.out (by omega) (by omega) (by omega)).mono ?_
    rintro e w18 ⟨rfl, hB⟩
    replace b0 := b0.below hB b0.lt
    replace b1 := b1.below hB b1.lt
    replace O1 := Lib.hid (O1.out.to hB)
    replace O2 := Lib.hid (O2.out.to hB)
    replace O3 := Lib.hid (O3.out.to hB)
    replace O4 := Lib.hid (O4.out.to hB)
    replace O5 := Lib.hid (O5.out.to hB)
    replace O6 := Lib.hid (O6.out.to hB)
    replace O7 := Lib.hid (O7.out.to hB)
    have sw18 : w17.heap.size ≤ w18.heap.size := hB.size
    replace hE := Lib.hid (below_to hE.out hB)
    clear hB
    go_wp2_with fail
    go_ret
    exact ⟨rfl, hE.out⟩
end Go.Proofs.Ytaidmloaoogmoaa

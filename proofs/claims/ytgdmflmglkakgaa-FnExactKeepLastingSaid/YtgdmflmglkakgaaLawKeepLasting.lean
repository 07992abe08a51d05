/-
  The walk of the law FnExactKeepLasting.
-/
import Derived.Test.YtgdmflmglkakgaaPKeep
import Derived.Test.YtgdmflmglkakgaaKeepL
import Derived.Test.YtgdmflmglkakgaaLaw1
namespace Go.Proofs.Ytgdmflmglkakgaa
open Go Go.RowKit Go.Proofs
set_option linter.unusedVariables false
set_option linter.unusedSimpArgs false

set_option maxHeartbeats 16000000 in
set_option maxRecDepth 100000 in
theorem lawKeepLasting_any (w : World) (C0 : Int) (A0 : Option Addr) (ts0 : List T4) (n0 c0 : Nat) (hn0 : n0 = ts0.length) (hA0 : RT w A0 ts0) (hnc0 : n0 ≤ c0) (hl0 : n0 ≤ 35184372088832) (hC0 : -9223372036854775808 ≤ C0 ∧ C0 ≤ 9223372036854775807) :
    Calls Try.prog 5 #[.agg #[.int .i64 C0, .slice A0 n0 c0]] w fun e w' => e = .returned (.bool true) ∧ Below w.heap.size w w' := by
  subst hn0
  have HA0 := Lib.hid hA0; clear hA0
  by_cases hbig0 : (1048576 : Int) < ((ts0.length : Nat) : Int)
  · go_enter Try.func5, Try.ntmps5
    go_wp2_with fail
    refine namec1 ?_
    intro w1 b0 hz hB
    have tw1 : w.heap.size + 1 ≤ w1.heap.size := by omega
    clear hz
    have sw1 : w.heap.size ≤ w1.heap.size := hB.size
    have hE := Lib.hid (hB)
    clear hB
    refine (szSet_any C0 A0 ts0.length c0 (1048576) w1 (by omega) (by omega) (by omega)).mono ?_
    rintro e w2 ⟨rfl, hB⟩
    rw [if_pos (show (1048576 : Int) < (ts0.length : Nat) by omega)]
    replace b0 := b0.below hB b0.lt
    have sw2 : w1.heap.size ≤ w2.heap.size := hB.size
    replace hE := Lib.hid (below_to hE.out hB)
    clear hB
    go_wp2_with fail
    go_ret
    exact ⟨rfl, hE.out⟩
  · replace hbig0 : ((ts0.length : Nat) : Int) ≤ 1048576 := by omega
    obtain ⟨r_, hr_⟩ : ∃ r, keepR C0 ts0 = r := ⟨_, rfl⟩
    obtain ⟨⟨rc1, r1⟩, r2⟩ := r_
    have hb1 : r1.length ≤ 1048576 := by have h_ := keepR_len C0 ts0; rw [hr_] at h_; exact h_
    have HR := Lib.hid hr_; clear hr_
    go_enter Try.func5, Try.ntmps5
    go_wp2_with fail
    refine namec1 ?_
    intro w1 b0 hz hB
    have tw1 : w.heap.size + 1 ≤ w1.heap.size := by omega
    clear hz
    have sw1 : w.heap.size ≤ w1.heap.size := hB.size
    have hE := Lib.hid (hB)
    clear hB
    refine (szSet_any C0 A0 ts0.length c0 (1048576) w1 (by omega) (by omega) (by omega)).mono ?_
    rintro e w2 ⟨rfl, hB⟩
    rw [if_neg (show ¬ (1048576 : Int) < (ts0.length : Nat) by omega)]
    replace b0 := b0.below hB b0.lt
    have sw2 : w1.heap.size ≤ w2.heap.size := hB.size
    replace hE := Lib.hid (below_to hE.out hB)
    clear hB
    have l0 := b0.lt
    have c0_0 : w2.cell? ⟨w.heap.size, 0, none⟩ = some (.int .i64 C0) := b0.cell rfl
    have c0_1 : w2.cell? ⟨w.heap.size, 1, none⟩ = some (.slice A0 ts0.length c0) := b0.cell rfl
    go_wp2_with fail
    clear l0 c0_0 c0_1
    refine (toSet_any C0 A0 ts0 ts0.length c0 w2 rfl (HA0.out.below hE.out) (by omega)).mono ?_
    rintro e w3 ⟨v_, rfl, hO, hB⟩
    obtain ⟨A1_, c1_, rfl, -, -⟩ := hO.reads
    have O1 := Lib.hid (OW.of hO)
    clear hO
    replace b0 := b0.below hB b0.lt
    have sw3 : w2.heap.size ≤ w3.heap.size := hB.size
    replace hE := Lib.hid (below_to hE.out hB)
    clear hB
    have l0 := b0.lt
    have c0_0 : w3.cell? ⟨w.heap.size, 0, none⟩ = some (.int .i64 C0) := b0.cell rfl
    have c0_1 : w3.cell? ⟨w.heap.size, 1, none⟩ = some (.slice A0 ts0.length c0) := b0.cell rfl
    go_wp2_with fail
    clear l0 c0_0 c0_1
    refine (specKeepLasting_any C0 A1_ ts0 ts0.length c1_ w3 rfl (rt_of O1.out rfl) (le_of O1.out) (by omega)).mono ?_
    rintro e w4 ⟨v0_, xc0_, x0_, x1_, hR_, rfl, hO0, hB⟩
    obtain ⟨rfl, rfl, rfl⟩ : rc1 = xc0_ ∧ r1 = x0_ ∧ r2 = x1_ := (by have h_ := HR.out.symm.trans hR_; simpa [and_assoc] using h_)
    clear hR_
    obtain ⟨A2_, c2_, rfl, -⟩ := hO0.form
    have O2 := Lib.hid hO0
    clear hO0
    replace b0 := b0.below hB b0.lt
    replace O1 := Lib.hid (O1.out.to hB)
    have sw4 : w3.heap.size ≤ w4.heap.size := hB.size
    replace hE := Lib.hid (below_to hE.out hB)
    clear hB
    have l0 := b0.lt
    have c0_0 : w4.cell? ⟨w.heap.size, 0, none⟩ = some (.int .i64 C0) := b0.cell rfl
    have c0_1 : w4.cell? ⟨w.heap.size, 1, none⟩ = some (.slice A0 ts0.length c0) := b0.cell rfl
    go_wp2_with fail
    clear l0 c0_0 c0_1
    refine namec1 ?_
    intro w5 b1 hz hB
    have tw5 : w4.heap.size + 1 ≤ w5.heap.size := by omega
    clear hz
    replace b0 := b0.below hB b0.lt
    replace O1 := Lib.hid (O1.out.to hB)
    replace O2 := Lib.hid (O2.out.to hB)
    have sw5 : w4.heap.size ≤ w5.heap.size := hB.size
    replace hE := Lib.hid (below_to hE.out hB)
    clear hB
    refine (toSet_any C0 A0 ts0 ts0.length c0 w5 rfl (HA0.out.below hE.out) (by omega)).mono ?_
    rintro e w6 ⟨v_, rfl, hO, hB⟩
    obtain ⟨A3_, c3_, rfl, -, -⟩ := hO.reads
    have O3 := Lib.hid (OW.of hO)
    clear hO
    replace b0 := b0.below hB b0.lt
    replace b1 := b1.below hB b1.lt
    replace O1 := Lib.hid (O1.out.to hB)
    replace O2 := Lib.hid (O2.out.to hB)
    have sw6 : w5.heap.size ≤ w6.heap.size := hB.size
    replace hE := Lib.hid (below_to hE.out hB)
    clear hB
    have l0 := b0.lt
    have c0_0 : w6.cell? ⟨w.heap.size, 0, none⟩ = some (.int .i64 C0) := b0.cell rfl
    have c0_1 : w6.cell? ⟨w.heap.size, 1, none⟩ = some (.slice A0 ts0.length c0) := b0.cell rfl
    have l1 := b1.lt
    have c1_0 : w6.cell? ⟨w4.heap.size, 0, none⟩ = some (.int .i64 rc1) := b1.cell rfl
    have c1_1 : w6.cell? ⟨w4.heap.size, 1, none⟩ = some (.slice A2_ r1.length c2_) := b1.cell rfl
    go_wp2_with fail
    clear l0 c0_0 c0_1 l1 c1_0 c1_1
    refine namec1 ?_
    intro w7 b2 hz hB
    have tw7 : w6.heap.size + 1 ≤ w7.heap.size := by omega
    clear hz
    replace b0 := b0.below hB b0.lt
    replace b1 := b1.below hB b1.lt
    replace O1 := Lib.hid (O1.out.to hB)
    replace O2 := Lib.hid (O2.out.to hB)
    replace O3 := Lib.hid (O3.out.to hB)
    have sw7 : w6.heap.size ≤ w7.heap.size := hB.size
    replace hE := Lib.hid (below_to hE.out hB)
    clear hB
    refine (implKeepLasting_any C0 A3_ ts0 ts0.length c3_ w7 rfl (rt_of O3.out rfl) (le_of O3.out) (by omega)).mono ?_
    rintro e w8 ⟨v0_, xc0_, x0_, x1_, hR_, rfl, hO0, hB⟩
    obtain ⟨rfl, rfl, rfl⟩ : rc1 = xc0_ ∧ r1 = x0_ ∧ r2 = x1_ := (by have h_ := HR.out.symm.trans hR_; simpa [and_assoc] using h_)
    clear hR_
    obtain ⟨A4_, c4_, rfl, -⟩ := hO0.form
    have O4 := Lib.hid hO0
    clear hO0
    replace b0 := b0.below hB b0.lt
    replace b1 := b1.below hB b1.lt
    replace b2 := b2.below hB b2.lt
    replace O1 := Lib.hid (O1.out.to hB)
    replace O2 := Lib.hid (O2.out.to hB)
    replace O3 := Lib.hid (O3.out.to hB)
    have sw8 : w7.heap.size ≤ w8.heap.size := hB.size
    replace hE := Lib.hid (below_to hE.out hB)
    clear hB
    have l0 := b0.lt
    have c0_0 : w8.cell? ⟨w.heap.size, 0, none⟩ = some (.int .i64 C0) := b0.cell rfl
    have c0_1 : w8.cell? ⟨w.heap.size, 1, none⟩ = some (.slice A0 ts0.length c0) := b0.cell rfl
    have l1 := b1.lt
    have c1_0 : w8.cell? ⟨w4.heap.size, 0, none⟩ = some (.int .i64 rc1) := b1.cell rfl
    have c1_1 : w8.cell? ⟨w4.heap.size, 1, none⟩ = some (.slice A2_ r1.length c2_) := b1.cell rfl
    have l2 := b2.lt
    have c2_0 : w8.cell? ⟨w6.heap.size, 0, none⟩ = some (.int .i64 C0) := b2.cell rfl
    have c2_1 : w8.cell? ⟨w6.heap.size, 1, none⟩ = some (.slice A3_ ts0.length c3_) := b2.cell rfl
    go_wp2_with fail
    clear l0 c0_0 c0_1 l1 c1_0 c1_1 l2 c2_0 c2_1
    refine namec1 ?_
    intro w9 b3 hz hB
    have tw9 : w8.heap.size + 1 ≤ w9.heap.size := by omega
    clear hz
    replace b0 := b0.below hB b0.lt
    replace b1 := b1.below hB b1.lt
    replace b2 := b2.below hB b2.lt
    replace O1 := Lib.hid (O1.out.to hB)
    replace O2 := Lib.hid (O2.out.to hB)
    replace O3 := Lib.hid (O3.out.to hB)
    replace O4 := Lib.hid (O4.out.to hB)
    have sw9 : w8.heap.size ≤ w9.heap.size := hB.size
    replace hE := Lib.hid (below_to hE.out hB)
    clear hB
    refine (eqSet_any rc1 rc1 A4_ A2_ r1 r1 r1.length r1.length c4_ c2_ w9 rfl rfl (rt_of O4.out rfl) (rt_of O2.out rfl) (by omega) (by omega)).mono ?_
    rintro e w10 ⟨rfl, hB⟩
    simp only [decide_true, Bool.and_self]
    replace b0 := b0.below hB b0.lt
    replace b1 := b1.below hB b1.lt
    replace b2 := b2.below hB b2.lt
    replace b3 := b3.below hB b3.lt
    replace O1 := Lib.hid (O1.out.to hB)
    replace O2 := Lib.hid (O2.out.to hB)
    replace O3 := Lib.hid (O3.out.to hB)
    replace O4 := Lib.hid (O4.out.to hB)
    have sw10 : w9.heap.size ≤ w10.heap.size := hB.size
    replace hE := Lib.hid (below_to hE.out hB)
    clear hB
    have l0 := b0.lt
    have c0_0 : w10.cell? ⟨w.heap.size, 0, none⟩ = some (.int .i64 C0) := b0.cell rfl
    have c0_1 : w10.cell? ⟨w.heap.size, 1, none⟩ = some (.slice A0 ts0.length c0) := b0.cell rfl
    have l1 := b1.lt
    have c1_0 : w10.cell? ⟨w4.heap.size, 0, none⟩ = some (.int .i64 rc1) := b1.cell rfl
    have c1_1 : w10.cell? ⟨w4.heap.size, 1, none⟩ = some (.slice A2_ r1.length c2_) := b1.cell rfl
    have l2 := b2.lt
    have c2_0 : w10.cell? ⟨w6.heap.size, 0, none⟩ = some (.int .i64 C0) := b2.cell rfl
    have c2_1 : w10.cell? ⟨w6.heap.size, 1, none⟩ = some (.slice A3_ ts0.length c3_) := b2.cell rfl
    have l3 := b3.lt
    have c3_0 : w10.cell? ⟨w8.heap.size, 0, none⟩ = some (.int .i64 rc1) := b3.cell rfl
    have c3_1 : w10.cell? ⟨w8.heap.size, 1, none⟩ = some (.slice A4_ r1.length c4_) := b3.cell rfl
    go_wp2_with fail
    clear l0 c0_0 c0_1 l1 c1_0 c1_1 l2 c2_0 c2_1 l3 c3_0 c3_1
    have hD : Below w10.heap.size w10 w10.drew := (Below.refl _ _).drew
    replace b0 := b0.below hD b0.lt
    replace b1 := b1.below hD b1.lt
    replace b2 := b2.below hD b2.lt
    replace b3 := b3.below hD b3.lt
    replace O1 := Lib.hid (O1.out.to hD)
    replace O2 := Lib.hid (O2.out.to hD)
    replace O3 := Lib.hid (O3.out.to hD)
    replace O4 := Lib.hid (O4.out.to hD)
    replace hE := Lib.hid (below_to hE.out hD)
    clear hD
    have d1_w10 : w10.heap.size ≤ w10.drew.heap.size := Nat.le_refl _
    have d2_w10 : w10.drew.heap.size ≤ w10.heap.size := Nat.le_refl _
    go_region_held3 (fun w_ => w_.cell? ⟨w.heap.size, 0, none⟩ = some (.int .i64 C0) ∧ w_.cell? ⟨w.heap.size, 1, none⟩ = some (.slice A0 ts0.length c0) ∧ w_.cell? ⟨w4.heap.size, 0, none⟩ = some (.int .i64 rc1) ∧ w_.cell? ⟨w4.heap.size, 1, none⟩ = some (.slice A2_ r1.length c2_) ∧ w_.cell? ⟨w6.heap.size, 0, none⟩ = some (.int .i64 C0) ∧ w_.cell? ⟨w6.heap.size, 1, none⟩ = some (.slice A3_ ts0.length c3_) ∧ w_.cell? ⟨w8.heap.size, 0, none⟩ = some (.int .i64 rc1) ∧ w_.cell? ⟨w8.heap.size, 1, none⟩ = some (.slice A4_ r1.length c4_)) (first | exact ⟨b0.cell rfl, b0.cell rfl, b1.cell rfl, b1.cell rfl, b2.cell rfl, b2.cell rfl, b3.cell rfl, b3.cell rfl⟩)
      (first
        | (go_at_call 10; refine (toSet_any C0 A0 ts0 ts0.length c0 w10.drew rfl (HA0.out.below hE.out) (by omega)).mono ?_; rintro e w11 ⟨v_, rfl, hO, hB⟩; obtain ⟨A5_, c5_, rfl, -, -⟩ := hO.reads; have O5 := Lib.hid (OW.of hO); clear hO; replace b0 := b0.below hB b0.lt; replace b1 := b1.below hB b1.lt; replace b2 := b2.below hB b2.lt; replace b3 := b3.below hB b3.lt; replace O1 := Lib.hid (O1.out.to hB); replace O2 := Lib.hid (O2.out.to hB); replace O3 := Lib.hid (O3.out.to hB); replace O4 := Lib.hid (O4.out.to hB); have sw11 : w10.drew.heap.size ≤ w11.heap.size := hB.size; replace hE := Lib.hid (below_to hE.out hB); clear hB)
        | (go_at_call 13; refine (eqSet_any C0 C0 A3_ A5_ ts0 ts0 ts0.length ts0.length c3_ c5_ w11 rfl rfl (rt_of O3.out rfl) (rt_of O5.out rfl) (by omega) (by omega)).mono ?_; rintro e w12 ⟨rfl, hB⟩; simp only [decide_true, Bool.and_self]; replace b0 := b0.below hB b0.lt; replace b1 := b1.below hB b1.lt; replace b2 := b2.below hB b2.lt; replace b3 := b3.below hB b3.lt; replace O1 := Lib.hid (O1.out.to hB); replace O2 := Lib.hid (O2.out.to hB); replace O3 := Lib.hid (O3.out.to hB); replace O4 := Lib.hid (O4.out.to hB); replace O5 := Lib.hid (O5.out.to hB); have sw12 : w11.heap.size ≤ w12.heap.size := hB.size; replace hE := Lib.hid (below_to hE.out hB); clear hB))
    have l0 := b0.lt
    have c0_0 : w12.cell? ⟨w.heap.size, 0, none⟩ = some (.int .i64 C0) := b0.cell rfl
    have c0_1 : w12.cell? ⟨w.heap.size, 1, none⟩ = some (.slice A0 ts0.length c0) := b0.cell rfl
    have l1 := b1.lt
    have c1_0 : w12.cell? ⟨w4.heap.size, 0, none⟩ = some (.int .i64 rc1) := b1.cell rfl
    have c1_1 : w12.cell? ⟨w4.heap.size, 1, none⟩ = some (.slice A2_ r1.length c2_) := b1.cell rfl
    have l2 := b2.lt
    have c2_0 : w12.cell? ⟨w6.heap.size, 0, none⟩ = some (.int .i64 C0) := b2.cell rfl
    have c2_1 : w12.cell? ⟨w6.heap.size, 1, none⟩ = some (.slice A3_ ts0.length c3_) := b2.cell rfl
    have l3 := b3.lt
    have c3_0 : w12.cell? ⟨w8.heap.size, 0, none⟩ = some (.int .i64 rc1) := b3.cell rfl
    have c3_1 : w12.cell? ⟨w8.heap.size, 1, none⟩ = some (.slice A4_ r1.length c4_) := b3.cell rfl
    go_wp2_with fail
    clear l0 c0_0 c0_1 l1 c1_0 c1_1 l2 c2_0 c2_1 l3 c3_0 c3_1
    obtain ⟨m_O3, hm_O3⟩ : ∃ m, m = ts0.length * 4 := ⟨_, rfl⟩
    have bm_O3 : m_O3 ≤ 40000000 := by omega
    have Hm_O3 := Lib.hid hm_O3; clear hm_O3
    refine (markSet_m w5.heap.size w6.heap.size C0 (.slice A3_ ts0.length c3_) ts0.length m_O3 (tcells ts0) (1) w12 Hm_O3.out O3.out (by omega) (by omega) (by omega)).mono ?_
    rintro e w13 ⟨rfl, hO, hK⟩
    clear O3
    have O3 := Lib.hid hO
    clear hO
    replace b0 := b0.only hK (by omega)
    replace b1 := b1.only hK (by omega)
    replace b2 := b2.only hK (by omega)
    replace b3 := b3.only hK (by omega)
    replace O1 := Lib.hid (O1.out.only hK (by omega))
    replace O2 := Lib.hid (O2.out.only hK (by omega))
    replace O4 := Lib.hid (O4.out.only hK (by omega))
    replace O5 := Lib.hid (O5.out.only hK (by omega))
    have sw13 : w12.heap.size ≤ w13.heap.size := hK.size
    replace hE := Lib.hid (below_only hE.out hK (by omega))
    clear hK
    have l0 := b0.lt
    have c0_0 : w13.cell? ⟨w.heap.size, 0, none⟩ = some (.int .i64 C0) := b0.cell rfl
    have c0_1 : w13.cell? ⟨w.heap.size, 1, none⟩ = some (.slice A0 ts0.length c0) := b0.cell rfl
    have l1 := b1.lt
    have c1_0 : w13.cell? ⟨w4.heap.size, 0, none⟩ = some (.int .i64 rc1) := b1.cell rfl
    have c1_1 : w13.cell? ⟨w4.heap.size, 1, none⟩ = some (.slice A2_ r1.length c2_) := b1.cell rfl
    have l2 := b2.lt
    have c2_0 : w13.cell? ⟨w6.heap.size, 0, none⟩ = some (.int .i64 C0) := b2.cell rfl
    have c2_1 : w13.cell? ⟨w6.heap.size, 1, none⟩ = some (.slice A3_ ts0.length c3_) := b2.cell rfl
    have l3 := b3.lt
    have c3_0 : w13.cell? ⟨w8.heap.size, 0, none⟩ = some (.int .i64 rc1) := b3.cell rfl
    have c3_1 : w13.cell? ⟨w8.heap.size, 1, none⟩ = some (.slice A4_ r1.length c4_) := b3.cell rfl
    go_wp2_with fail
    clear l0 c0_0 c0_1 l1 c1_0 c1_1 l2 c2_0 c2_1 l3 c3_0 c3_1
    refine (eqSet_any rc1 rc1 A4_ A2_ r1 r1 r1.length r1.length c4_ c2_ w13 rfl rfl (rt_of O4.out rfl) (rt_of O2.out rfl) (by omega) (by omega)).mono ?_
    rintro e w14 ⟨rfl, hB⟩
    simp only [decide_true, Bool.and_self]
    replace b0 := b0.below hB b0.lt
    replace b1 := b1.below hB b1.lt
    replace b2 := b2.below hB b2.lt
    replace b3 := b3.below hB b3.lt
    replace O1 := Lib.hid (O1.out.to hB)
    replace O2 := Lib.hid (O2.out.to hB)
    replace O3 := Lib.hid (O3.out.to hB)
    replace O4 := Lib.hid (O4.out.to hB)
    replace O5 := Lib.hid (O5.out.to hB)
    have sw14 : w13.heap.size ≤ w14.heap.size := hB.size
    replace hE := Lib.hid (below_to hE.out hB)
    clear hB
    have l0 := b0.lt
    have c0_0 : w14.cell? ⟨w.heap.size, 0, none⟩ = some (.int .i64 C0) := b0.cell rfl
    have c0_1 : w14.cell? ⟨w.heap.size, 1, none⟩ = some (.slice A0 ts0.length c0) := b0.cell rfl
    have l1 := b1.lt
    have c1_0 : w14.cell? ⟨w4.heap.size, 0, none⟩ = some (.int .i64 rc1) := b1.cell rfl
    have c1_1 : w14.cell? ⟨w4.heap.size, 1, none⟩ = some (.slice A2_ r1.length c2_) := b1.cell rfl
    have l2 := b2.lt
    have c2_0 : w14.cell? ⟨w6.heap.size, 0, none⟩ = some (.int .i64 C0) := b2.cell rfl
    have c2_1 : w14.cell? ⟨w6.heap.size, 1, none⟩ = some (.slice A3_ ts0.length c3_) := b2.cell rfl
    have l3 := b3.lt
    have c3_0 : w14.cell? ⟨w8.heap.size, 0, none⟩ = some (.int .i64 rc1) := b3.cell rfl
    have c3_1 : w14.cell? ⟨w8.heap.size, 1, none⟩ = some (.slice A4_ r1.length c4_) := b3.cell rfl
    go_wp2_with fail
    clear l0 c0_0 c0_1 l1 c1_0 c1_1 l2 c2_0 c2_1 l3 c3_0 c3_1
    obtain ⟨m_O4, hm_O4⟩ : ∃ m, m = r1.length * 4 := ⟨_, rfl⟩
    have bm_O4 : m_O4 ≤ 40000000 := by omega
    have Hm_O4 := Lib.hid hm_O4; clear hm_O4
    refine (markSet_m w7.heap.size w8.heap.size rc1 (.slice A4_ r1.length c4_) r1.length m_O4 (tcells r1) (1) w14 Hm_O4.out O4.out (by omega) (by omega) (by omega)).mono ?_
    rintro e w15 ⟨rfl, hO, hK⟩
    clear O4
    have O4 := Lib.hid hO
    clear hO
    replace b0 := b0.only hK (by omega)
    replace b1 := b1.only hK (by omega)
    replace b2 := b2.only hK (by omega)
    replace b3 := b3.only hK (by omega)
    replace O1 := Lib.hid (O1.out.only hK (by omega))
    replace O2 := Lib.hid (O2.out.only hK (by omega))
    replace O3 := Lib.hid (O3.out.only hK (by omega))
    replace O5 := Lib.hid (O5.out.only hK (by omega))
    have sw15 : w14.heap.size ≤ w15.heap.size := hK.size
    replace hE := Lib.hid (below_only hE.out hK (by omega))
    clear hK
    have l0 := b0.lt
    have c0_0 : w15.cell? ⟨w.heap.size, 0, none⟩ = some (.int .i64 C0) := b0.cell rfl
    have c0_1 : w15.cell? ⟨w.heap.size, 1, none⟩ = some (.slice A0 ts0.length c0) := b0.cell rfl
    have l1 := b1.lt
    have c1_0 : w15.cell? ⟨w4.heap.size, 0, none⟩ = some (.int .i64 rc1) := b1.cell rfl
    have c1_1 : w15.cell? ⟨w4.heap.size, 1, none⟩ = some (.slice A2_ r1.length c2_) := b1.cell rfl
    have l2 := b2.lt
    have c2_0 : w15.cell? ⟨w6.heap.size, 0, none⟩ = some (.int .i64 C0) := b2.cell rfl
    have c2_1 : w15.cell? ⟨w6.heap.size, 1, none⟩ = some (.slice A3_ ts0.length c3_) := b2.cell rfl
    have l3 := b3.lt
    have c3_0 : w15.cell? ⟨w8.heap.size, 0, none⟩ = some (.int .i64 rc1) := b3.cell rfl
    have c3_1 : w15.cell? ⟨w8.heap.size, 1, none⟩ = some (.slice A4_ r1.length c4_) := b3.cell rfl
    go_wp2_with fail
    clear l0 c0_0 c0_1 l1 c1_0 c1_1 l2 c2_0 c2_1 l3 c3_0 c3_1
    refine (heldSet_m w7.heap.size w8.heap.size rc1 (.slice A4_ r1.length c4_) r1.length m_O4 (1) w15 Hm_O4.out O4.out (by omega) (by omega) (by omega)).mono ?_
    rintro e w16 ⟨rfl, hB⟩
    replace b0 := b0.below hB b0.lt
    replace b1 := b1.below hB b1.lt
    replace b2 := b2.below hB b2.lt
    replace b3 := b3.below hB b3.lt
    replace O1 := Lib.hid (O1.out.to hB)
    replace O2 := Lib.hid (O2.out.to hB)
    replace O3 := Lib.hid (O3.out.to hB)
    replace O4 := Lib.hid (O4.out.to hB)
    replace O5 := Lib.hid (O5.out.to hB)
    have sw16 : w15.heap.size ≤ w16.heap.size := hB.size
    replace hE := Lib.hid (below_to hE.out hB)
    clear hB
    have l0 := b0.lt
    have c0_0 : w16.cell? ⟨w.heap.size, 0, none⟩ = some (.int .i64 C0) := b0.cell rfl
    have c0_1 : w16.cell? ⟨w.heap.size, 1, none⟩ = some (.slice A0 ts0.length c0) := b0.cell rfl
    have l1 := b1.lt
    have c1_0 : w16.cell? ⟨w4.heap.size, 0, none⟩ = some (.int .i64 rc1) := b1.cell rfl
    have c1_1 : w16.cell? ⟨w4.heap.size, 1, none⟩ = some (.slice A2_ r1.length c2_) := b1.cell rfl
    have l2 := b2.lt
    have c2_0 : w16.cell? ⟨w6.heap.size, 0, none⟩ = some (.int .i64 C0) := b2.cell rfl
    have c2_1 : w16.cell? ⟨w6.heap.size, 1, none⟩ = some (.slice A3_ ts0.length c3_) := b2.cell rfl
    have l3 := b3.lt
    have c3_0 : w16.cell? ⟨w8.heap.size, 0, none⟩ = some (.int .i64 rc1) := b3.cell rfl
    have c3_1 : w16.cell? ⟨w8.heap.size, 1, none⟩ = some (.slice A4_ r1.length c4_) := b3.cell rfl
    go_wp2_with fail
    clear l0 c0_0 c0_1 l1 c1_0 c1_1 l2 c2_0 c2_1 l3 c3_0 c3_1
    refine (toSet_any C0 A0 ts0 ts0.length c0 w16 rfl (HA0.out.below hE.out) (by omega)).mono ?_
    rintro e w17 ⟨v_, rfl, hO, hB⟩
    obtain ⟨A6_, c6_, rfl, -, -⟩ := hO.reads
    have O6 := Lib.hid (OW.of hO)
    clear hO
    replace b0 := b0.below hB b0.lt
    replace b1 := b1.below hB b1.lt
    replace b2 := b2.below hB b2.lt
    replace b3 := b3.below hB b3.lt
    replace O1 := Lib.hid (O1.out.to hB)
    replace O2 := Lib.hid (O2.out.to hB)
    replace O3 := Lib.hid (O3.out.to hB)
    replace O4 := Lib.hid (O4.out.to hB)
    replace O5 := Lib.hid (O5.out.to hB)
    have sw17 : w16.heap.size ≤ w17.heap.size := hB.size
    replace hE := Lib.hid (below_to hE.out hB)
    clear hB
    have l0 := b0.lt
    have c0_0 : w17.cell? ⟨w.heap.size, 0, none⟩ = some (.int .i64 C0) := b0.cell rfl
    have c0_1 : w17.cell? ⟨w.heap.size, 1, none⟩ = some (.slice A0 ts0.length c0) := b0.cell rfl
    have l1 := b1.lt
    have c1_0 : w17.cell? ⟨w4.heap.size, 0, none⟩ = some (.int .i64 rc1) := b1.cell rfl
    have c1_1 : w17.cell? ⟨w4.heap.size, 1, none⟩ = some (.slice A2_ r1.length c2_) := b1.cell rfl
    have l2 := b2.lt
    have c2_0 : w17.cell? ⟨w6.heap.size, 0, none⟩ = some (.int .i64 C0) := b2.cell rfl
    have c2_1 : w17.cell? ⟨w6.heap.size, 1, none⟩ = some (.slice A3_ ts0.length c3_) := b2.cell rfl
    have l3 := b3.lt
    have c3_0 : w17.cell? ⟨w8.heap.size, 0, none⟩ = some (.int .i64 rc1) := b3.cell rfl
    have c3_1 : w17.cell? ⟨w8.heap.size, 1, none⟩ = some (.slice A4_ r1.length c4_) := b3.cell rfl
    go_wp2_with fail
    clear l0 c0_0 c0_1 l1 c1_0 c1_1 l2 c2_0 c2_1 l3 c3_0 c3_1
    refine (implKeepLasting_any C0 A6_ ts0 ts0.length c6_ w17 rfl (rt_of O6.out rfl) (le_of O6.out) (by omega)).mono ?_
    rintro e w18 ⟨v0_, xc0_, x0_, x1_, hR_, rfl, hO0, hB⟩
    obtain ⟨rfl, rfl, rfl⟩ : rc1 = xc0_ ∧ r1 = x0_ ∧ r2 = x1_ := (by have h_ := HR.out.symm.trans hR_; simpa [and_assoc] using h_)
    clear hR_
    obtain ⟨A7_, c7_, rfl, -⟩ := hO0.form
    have O7 := Lib.hid hO0
    clear hO0
    replace b0 := b0.below hB b0.lt
    replace b1 := b1.below hB b1.lt
    replace b2 := b2.below hB b2.lt
    replace b3 := b3.below hB b3.lt
    replace O1 := Lib.hid (O1.out.to hB)
    replace O2 := Lib.hid (O2.out.to hB)
    replace O3 := Lib.hid (O3.out.to hB)
    replace O4 := Lib.hid (O4.out.to hB)
    replace O5 := Lib.hid (O5.out.to hB)
    replace O6 := Lib.hid (O6.out.to hB)
    have sw18 : w17.heap.size ≤ w18.heap.size := hB.size
    replace hE := Lib.hid (below_to hE.out hB)
    clear hB
    have l0 := b0.lt
    have c0_0 : w18.cell? ⟨w.heap.size, 0, none⟩ = some (.int .i64 C0) := b0.cell rfl
    have c0_1 : w18.cell? ⟨w.heap.size, 1, none⟩ = some (.slice A0 ts0.length c0) := b0.cell rfl
    have l1 := b1.lt
    have c1_0 : w18.cell? ⟨w4.heap.size, 0, none⟩ = some (.int .i64 rc1) := b1.cell rfl
    have c1_1 : w18.cell? ⟨w4.heap.size, 1, none⟩ = some (.slice A2_ r1.length c2_) := b1.cell rfl
    have l2 := b2.lt
    have c2_0 : w18.cell? ⟨w6.heap.size, 0, none⟩ = some (.int .i64 C0) := b2.cell rfl
    have c2_1 : w18.cell? ⟨w6.heap.size, 1, none⟩ = some (.slice A3_ ts0.length c3_) := b2.cell rfl
    have l3 := b3.lt
    have c3_0 : w18.cell? ⟨w8.heap.size, 0, none⟩ = some (.int .i64 rc1) := b3.cell rfl
    have c3_1 : w18.cell? ⟨w8.heap.size, 1, none⟩ = some (.slice A4_ r1.length c4_) := b3.cell rfl
    go_wp2_with fail
    clear l0 c0_0 c0_1 l1 c1_0 c1_1 l2 c2_0 c2_1 l3 c3_0 c3_1
    refine namec1 ?_
    intro w19 b4 hz hB
    have tw19 : w18.heap.size + 1 ≤ w19.heap.size := by omega
    clear hz
    replace b0 := b0.below hB b0.lt
    replace b1 := b1.below hB b1.lt
    replace b2 := b2.below hB b2.lt
    replace b3 := b3.below hB b3.lt
    replace O1 := Lib.hid (O1.out.to hB)
    replace O2 := Lib.hid (O2.out.to hB)
    replace O3 := Lib.hid (O3.out.to hB)
    replace O4 := Lib.hid (O4.out.to hB)
    replace O5 := Lib.hid (O5.out.to hB)
    replace O6 := Lib.hid (O6.out.to hB)
    replace O7 := Lib.hid (O7.out.to hB)
    have sw19 : w18.heap.size ≤ w19.heap.size := hB.size
    replace hE := Lib.hid (below_to hE.out hB)
    clear hB
    refine (eqSet_any rc1 rc1 A7_ A2_ r1 r1 r1.length r1.length c7_ c2_ w19 rfl rfl (rt_of O7.out rfl) (rt_of O2.out rfl) (by omega) (by omega)).mono ?_
    rintro e w20 ⟨rfl, hB⟩
    simp only [decide_true, Bool.and_self]
    replace b0 := b0.below hB b0.lt
    replace b1 := b1.below hB b1.lt
    replace b2 := b2.below hB b2.lt
    replace b3 := b3.below hB b3.lt
    replace b4 := b4.below hB b4.lt
    replace O1 := Lib.hid (O1.out.to hB)
    replace O2 := Lib.hid (O2.out.to hB)
    replace O3 := Lib.hid (O3.out.to hB)
    replace O4 := Lib.hid (O4.out.to hB)
    replace O5 := Lib.hid (O5.out.to hB)
    replace O6 := Lib.hid (O6.out.to hB)
    replace O7 := Lib.hid (O7.out.to hB)
    have sw20 : w19.heap.size ≤ w20.heap.size := hB.size
    replace hE := Lib.hid (below_to hE.out hB)
    clear hB
    have l0 := b0.lt
    have c0_0 : w20.cell? ⟨w.heap.size, 0, none⟩ = some (.int .i64 C0) := b0.cell rfl
    have c0_1 : w20.cell? ⟨w.heap.size, 1, none⟩ = some (.slice A0 ts0.length c0) := b0.cell rfl
    have l1 := b1.lt
    have c1_0 : w20.cell? ⟨w4.heap.size, 0, none⟩ = some (.int .i64 rc1) := b1.cell rfl
    have c1_1 : w20.cell? ⟨w4.heap.size, 1, none⟩ = some (.slice A2_ r1.length c2_) := b1.cell rfl
    have l2 := b2.lt
    have c2_0 : w20.cell? ⟨w6.heap.size, 0, none⟩ = some (.int .i64 C0) := b2.cell rfl
    have c2_1 : w20.cell? ⟨w6.heap.size, 1, none⟩ = some (.slice A3_ ts0.length c3_) := b2.cell rfl
    have l3 := b3.lt
    have c3_0 : w20.cell? ⟨w8.heap.size, 0, none⟩ = some (.int .i64 rc1) := b3.cell rfl
    have c3_1 : w20.cell? ⟨w8.heap.size, 1, none⟩ = some (.slice A4_ r1.length c4_) := b3.cell rfl
    have l4 := b4.lt
    have c4_0 : w20.cell? ⟨w18.heap.size, 0, none⟩ = some (.int .i64 rc1) := b4.cell rfl
    have c4_1 : w20.cell? ⟨w18.heap.size, 1, none⟩ = some (.slice A7_ r1.length c7_) := b4.cell rfl
    go_wp2_with fail
    clear l0 c0_0 c0_1 l1 c1_0 c1_1 l2 c2_0 c2_1 l3 c3_0 c3_1 l4 c4_0 c4_1
    refine (heldSet_m w7.heap.size w8.heap.size rc1 (.slice A4_ r1.length c4_) r1.length m_O4 (1) w20 Hm_O4.out O4.out (by omega) (by omega) (by omega)).mono ?_
    rintro e w21 ⟨rfl, hB⟩
    replace b0 := b0.below hB b0.lt
    replace b1 := b1.below hB b1.lt
    replace b2 := b2.below hB b2.lt
    replace b3 := b3.below hB b3.lt
    replace b4 := b4.below hB b4.lt
    replace O1 := Lib.hid (O1.out.to hB)
    replace O2 := Lib.hid (O2.out.to hB)
    replace O3 := Lib.hid (O3.out.to hB)
    replace O4 := Lib.hid (O4.out.to hB)
    replace O5 := Lib.hid (O5.out.to hB)
    replace O6 := Lib.hid (O6.out.to hB)
    replace O7 := Lib.hid (O7.out.to hB)
    have sw21 : w20.heap.size ≤ w21.heap.size := hB.size
    replace hE := Lib.hid (below_to hE.out hB)
    clear hB
    go_wp2_with fail
    go_ret
    exact ⟨rfl, hE.out⟩
end Go.Proofs.Ytgdmflmglkakgaa

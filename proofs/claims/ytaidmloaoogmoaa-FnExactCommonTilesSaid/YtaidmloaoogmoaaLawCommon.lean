/-
  The walk of the law FnExactCommonTiles.
-/
import Derived.Test.YtaidmloaoogmoaaCommon
import Derived.Deep.RegionHeld3
namespace Go.Proofs.Ytaidmloaoogmoaa
open Go Go.RowKit Go.Proofs
set_option linter.unusedVariables false
set_option linter.unusedSimpArgs false

set_option maxHeartbeats 16000000 in
set_option maxRecDepth 100000 in
theorem lawCommonTiles_any (w : World) (C0 : Int) (A0 : Option Addr) (ts0 : List T4) (n0 c0 : Nat) (hn0 : n0 = ts0.length) (hA0 : RT w A0 ts0) (hnc0 : n0 ≤ c0) (hl0 : n0 ≤ 35184372088832) (hC0 : -9223372036854775808 ≤ C0 ∧ C0 ≤ 9223372036854775807) (C1 : Int) (A1 : Option Addr) (ts1 : List T4) (n1 c1 : Nat) (hn1 : n1 = ts1.length) (hA1 : RT w A1 ts1) (hnc1 : n1 ≤ c1) (hl1 : n1 ≤ 35184372088832) (hC1 : -9223372036854775808 ≤ C1 ∧ C1 ≤ 9223372036854775807) :
    Calls Try.prog 7 #[.agg #[.int .i64 C0, .slice A0 n0 c0], .agg #[.int .i64 C1, .slice A1 n1 c1]] w fun e w' => e = .returned (.bool true) ∧ Below w.heap.size w w' := by
  subst hn0
  have HA0 := Lib.hid hA0; clear hA0
  subst hn1
  have HA1 := Lib.hid hA1; clear hA1
  by_cases hbig0 : (1048576 : Int) < ((ts0.length : Nat) : Int)
  · go_enter Try.func7, Try.ntmps7
    go_wp2_with fail
    refine namec2 ?_
    intro w1 b0 b1 hz hB
    have tw1 : w.heap.size + 2 ≤ w1.heap.size := by omega
    clear hz
    have sw1 : w.heap.size ≤ w1.heap.size := hB.size
    have hE := Lib.hid (hB)
    clear hB
    refine (szSet_any C0 A0 ts0.length c0 (1048576) w1 (by omega) (by omega) (by omega)).mono ?_
    rintro e w2 ⟨rfl, hB⟩
    rw [if_pos (show (1048576 : Int) < (ts0.length : Nat) by omega)]
    replace b0 := b0.below hB b0.lt
    replace b1 := b1.below hB b1.lt
    have sw2 : w1.heap.size ≤ w2.heap.size := hB.size
    replace hE := Lib.hid (below_to hE.out hB)
    clear hB
    go_wp2_with fail
    go_ret
    exact ⟨rfl, hE.out⟩
  · replace hbig0 : ((ts0.length : Nat) : Int) ≤ 1048576 := by omega
    by_cases hbig1 : ((1048576 - ((ts0.length : Nat) : Int)) : Int) < ((ts1.length : Nat) : Int)
    · go_enter Try.func7, Try.ntmps7
      go_wp2_with fail
      refine namec2 ?_
      intro w1 b0 b1 hz hB
      have tw1 : w.heap.size + 2 ≤ w1.heap.size := by omega
      clear hz
      have sw1 : w.heap.size ≤ w1.heap.size := hB.size
      have hE := Lib.hid (hB)
      clear hB
      refine (szSet_any C0 A0 ts0.length c0 (1048576) w1 (by omega) (by omega) (by omega)).mono ?_
      rintro e w2 ⟨rfl, hB⟩
      rw [if_neg (show ¬ (1048576 : Int) < (ts0.length : Nat) by omega)]
      replace b0 := b0.below hB b0.lt
      replace b1 := b1.below hB b1.lt
      have sw2 : w1.heap.size ≤ w2.heap.size := hB.size
      replace hE := Lib.hid (below_to hE.out hB)
      clear hB
      have l0 := b0.lt
      have c0_0 : w2.cell? ⟨w.heap.size, 0, none⟩ = some (.int .i64 C0) := b0.cell rfl
      have c0_1 : w2.cell? ⟨w.heap.size, 1, none⟩ = some (.slice A0 ts0.length c0) := b0.cell rfl
      have l1 := b1.lt
      have c1_0 : w2.cell? ⟨w.heap.size + 1, 0, none⟩ = some (.int .i64 C1) := b1.cell rfl
      have c1_1 : w2.cell? ⟨w.heap.size + 1, 1, none⟩ = some (.slice A1 ts1.length c1) := b1.cell rfl
      go_wp2_with fail
      clear l0 c0_0 c0_1 l1 c1_0 c1_1
      refine (szSet_any C1 A1 ts1.length c1 ((1048576 - ((ts0.length : Nat) : Int))) w2 (by omega) (by omega) (by omega)).mono ?_
      rintro e w3 ⟨rfl, hB⟩
      rw [if_pos (show ((1048576 - ((ts0.length : Nat) : Int)) : Int) < (ts1.length : Nat) by omega)]
      replace b0 := b0.below hB b0.lt
      replace b1 := b1.below hB b1.lt
      have sw3 : w2.heap.size ≤ w3.heap.size := hB.size
      replace hE := Lib.hid (below_to hE.out hB)
      clear hB
      go_wp2_with fail
      go_ret
      exact ⟨rfl, hE.out⟩
    · replace hbig1 : ((ts1.length : Nat) : Int) ≤ (1048576 - ((ts0.length : Nat) : Int)) := by omega
      obtain ⟨r_, hr_⟩ : ∃ r, commonR C0 ts0 C1 ts1 = r := ⟨_, rfl⟩
      obtain ⟨r1, r2⟩ := r_
      have hb1 : r1.length ≤ 1048576 := by have h_ := commonR_len C0 ts0 C1 ts1; rw [hr_] at h_; exact h_
      have HR := Lib.hid hr_; clear hr_
      go_enter Try.func7, Try.ntmps7
      go_wp2_with fail
      refine namec2 ?_
      intro w1 b0 b1 hz hB
      have tw1 : w.heap.size + 2 ≤ w1.heap.size := by omega
      clear hz
      have sw1 : w.heap.size ≤ w1.heap.size := hB.size
      have hE := Lib.hid (hB)
      clear hB
      refine (szSet_any C0 A0 ts0.length c0 (1048576) w1 (by omega) (by omega) (by omega)).mono ?_
      rintro e w2 ⟨rfl, hB⟩
      rw [if_neg (show ¬ (1048576 : Int) < (ts0.length : Nat) by omega)]
      replace b0 := b0.below hB b0.lt
      replace b1 := b1.below hB b1.lt
      have sw2 : w1.heap.size ≤ w2.heap.size := hB.size
      replace hE := Lib.hid (below_to hE.out hB)
      clear hB
      have l0 := b0.lt
      have c0_0 : w2.cell? ⟨w.heap.size, 0, none⟩ = some (.int .i64 C0) := b0.cell rfl
      have c0_1 : w2.cell? ⟨w.heap.size, 1, none⟩ = some (.slice A0 ts0.length c0) := b0.cell rfl
      have l1 := b1.lt
      have c1_0 : w2.cell? ⟨w.heap.size + 1, 0, none⟩ = some (.int .i64 C1) := b1.cell rfl
      have c1_1 : w2.cell? ⟨w.heap.size + 1, 1, none⟩ = some (.slice A1 ts1.length c1) := b1.cell rfl
      go_wp2_with fail
      clear l0 c0_0 c0_1 l1 c1_0 c1_1
      refine (szSet_any C1 A1 ts1.length c1 ((1048576 - ((ts0.length : Nat) : Int))) w2 (by omega) (by omega) (by omega)).mono ?_
      rintro e w3 ⟨rfl, hB⟩
      rw [if_neg (show ¬ ((1048576 - ((ts0.length : Nat) : Int)) : Int) < (ts1.length : Nat) by omega)]
      replace b0 := b0.below hB b0.lt
      replace b1 := b1.below hB b1.lt
      have sw3 : w2.heap.size ≤ w3.heap.size := hB.size
      replace hE := Lib.hid (below_to hE.out hB)
      clear hB
      have l0 := b0.lt
      have c0_0 : w3.cell? ⟨w.heap.size, 0, none⟩ = some (.int .i64 C0) := b0.cell rfl
      have c0_1 : w3.cell? ⟨w.heap.size, 1, none⟩ = some (.slice A0 ts0.length c0) := b0.cell rfl
      have l1 := b1.lt
      have c1_0 : w3.cell? ⟨w.heap.size + 1, 0, none⟩ = some (.int .i64 C1) := b1.cell rfl
      have c1_1 : w3.cell? ⟨w.heap.size + 1, 1, none⟩ = some (.slice A1 ts1.length c1) := b1.cell rfl
      go_wp2_with fail
      clear l0 c0_0 c0_1 l1 c1_0 c1_1
      have hD : Below w3.heap.size w3 w3.drew := (Below.refl _ _).drew
      replace b0 := b0.below hD b0.lt
      replace b1 := b1.below hD b1.lt
      replace hE := Lib.hid (below_to hE.out hD)
      clear hD
      have d1_w3 : w3.heap.size ≤ w3.drew.heap.size := Nat.le_refl _
      have d2_w3 : w3.drew.heap.size ≤ w3.heap.size := Nat.le_refl _
      go_region_held3 (fun w_ => w_.cell? ⟨w.heap.size, 0, none⟩ = some (.int .i64 C0) ∧ w_.cell? ⟨w.heap.size, 1, none⟩ = some (.slice A0 ts0.length c0) ∧ w_.cell? ⟨w.heap.size + 1, 0, none⟩ = some (.int .i64 C1) ∧ w_.cell? ⟨w.heap.size + 1, 1, none⟩ = some (.slice A1 ts1.length c1)) (first | exact ⟨b0.cell rfl, b0.cell rfl, b1.cell rfl, b1.cell rfl⟩)
        (first
          | (go_at_call 17; refine (toSet_any C0 A0 ts0 ts0.length c0 w3.drew rfl (HA0.out.below hE.out) (by omega)).mono ?_; rintro e w4 ⟨v_, rfl, hO, hB⟩; obtain ⟨A1_, c1_, rfl, -, -⟩ := hO.reads; have O1 := Lib.hid (OW.of hO); clear hO; replace b0 := b0.below hB b0.lt; replace b1 := b1.below hB b1.lt; have sw4 : w3.drew.heap.size ≤ w4.heap.size := hB.size; replace hE := Lib.hid (below_to hE.out hB); clear hB)
          | (go_at_call 17; refine (toSet_any C1 A1 ts1 ts1.length c1 w4 rfl (HA1.out.below hE.out) (by omega)).mono ?_; rintro e w5 ⟨v_, rfl, hO, hB⟩; obtain ⟨A2_, c2_, rfl, -, -⟩ := hO.reads; have O2 := Lib.hid (OW.of hO); clear hO; replace b0 := b0.below hB b0.lt; replace b1 := b1.below hB b1.lt; replace O1 := Lib.hid (O1.out.to hB); have sw5 : w4.heap.size ≤ w5.heap.size := hB.size; replace hE := Lib.hid (below_to hE.out hB); clear hB)
          | (go_at_call 26; refine (specCommon_any C0 A1_ ts0 ts0.length c1_ C1 A2_ ts1 ts1.length c2_ w5 rfl (rt_of O1.out rfl) (le_of O1.out) (by omega) rfl (rt_of O2.out rfl) (le_of O2.out) (by omega)).mono ?_; rintro e w6 ⟨v0_, x0_, x1_, hR_, rfl, hO0, hB⟩; obtain ⟨rfl, rfl⟩ : r1 = x0_ ∧ r2 = x1_ := (by have h_ := HR.out.symm.trans hR_; simpa using h_); clear hR_; obtain ⟨A3_, c3_, rfl, -⟩ := hO0.form; have O3 := Lib.hid hO0; clear hO0; replace b0 := b0.below hB b0.lt; replace b1 := b1.below hB b1.lt; replace O1 := Lib.hid (O1.out.to hB); replace O2 := Lib.hid (O2.out.to hB); have sw6 : w5.heap.size ≤ w6.heap.size := hB.size; replace hE := Lib.hid (below_to hE.out hB); clear hB))
      have l0 := b0.lt
      have c0_0 : w6.cell? ⟨w.heap.size, 0, none⟩ = some (.int .i64 C0) := b0.cell rfl
      have c0_1 : w6.cell? ⟨w.heap.size, 1, none⟩ = some (.slice A0 ts0.length c0) := b0.cell rfl
      have l1 := b1.lt
      have c1_0 : w6.cell? ⟨w.heap.size + 1, 0, none⟩ = some (.int .i64 C1) := b1.cell rfl
      have c1_1 : w6.cell? ⟨w.heap.size + 1, 1, none⟩ = some (.slice A1 ts1.length c1) := b1.cell rfl
      go_wp2_with fail
      clear l0 c0_0 c0_1 l1 c1_0 c1_1
      refine (toSet_any C0 A0 ts0 ts0.length c0 w6 rfl (HA0.out.below hE.out) (by omega)).mono ?_
      rintro e w7 ⟨v_, rfl, hO, hB⟩
      obtain ⟨A4_, c4_, rfl, -, -⟩ := hO.reads
      have O4 := Lib.hid (OW.of hO)
      clear hO
      replace b0 := b0.below hB b0.lt
      replace b1 := b1.below hB b1.lt
      replace O1 := Lib.hid (O1.out.to hB)
      replace O2 := Lib.hid (O2.out.to hB)
      replace O3 := Lib.hid (O3.out.to hB)
      have sw7 : w6.heap.size ≤ w7.heap.size := hB.size
      replace hE := Lib.hid (below_to hE.out hB)
      clear hB
      have l0 := b0.lt
      have c0_0 : w7.cell? ⟨w.heap.size, 0, none⟩ = some (.int .i64 C0) := b0.cell rfl
      have c0_1 : w7.cell? ⟨w.heap.size, 1, none⟩ = some (.slice A0 ts0.length c0) := b0.cell rfl
      have l1 := b1.lt
      have c1_0 : w7.cell? ⟨w.heap.size + 1, 0, none⟩ = some (.int .i64 C1) := b1.cell rfl
      have c1_1 : w7.cell? ⟨w.heap.size + 1, 1, none⟩ = some (.slice A1 ts1.length c1) := b1.cell rfl
      go_wp2_with fail
      clear l0 c0_0 c0_1 l1 c1_0 c1_1
      refine namec1 ?_
      intro w8 b2 hz hB
      have tw8 : w7.heap.size + 1 ≤ w8.heap.size := by omega
      clear hz
      replace b0 := b0.below hB b0.lt
      replace b1 := b1.below hB b1.lt
      replace O1 := Lib.hid (O1.out.to hB)
      replace O2 := Lib.hid (O2.out.to hB)
      replace O3 := Lib.hid (O3.out.to hB)
      replace O4 := Lib.hid (O4.out.to hB)
      have sw8 : w7.heap.size ≤ w8.heap.size := hB.size
      replace hE := Lib.hid (below_to hE.out hB)
      clear hB
      refine (toSet_any C1 A1 ts1 ts1.length c1 w8 rfl (HA1.out.below hE.out) (by omega)).mono ?_
      rintro e w9 ⟨v_, rfl, hO, hB⟩
      obtain ⟨A5_, c5_, rfl, -, -⟩ := hO.reads
      have O5 := Lib.hid (OW.of hO)
      clear hO
      replace b0 := b0.below hB b0.lt
      replace b1 := b1.below hB b1.lt
      replace b2 := b2.below hB b2.lt
      replace O1 := Lib.hid (O1.out.to hB)
      replace O2 := Lib.hid (O2.out.to hB)
      replace O3 := Lib.hid (O3.out.to hB)
      replace O4 := Lib.hid (O4.out.to hB)
      have sw9 : w8.heap.size ≤ w9.heap.size := hB.size
      replace hE := Lib.hid (below_to hE.out hB)
      clear hB
      have l0 := b0.lt
      have c0_0 : w9.cell? ⟨w.heap.size, 0, none⟩ = some (.int .i64 C0) := b0.cell rfl
      have c0_1 : w9.cell? ⟨w.heap.size, 1, none⟩ = some (.slice A0 ts0.length c0) := b0.cell rfl
      have l1 := b1.lt
      have c1_0 : w9.cell? ⟨w.heap.size + 1, 0, none⟩ = some (.int .i64 C1) := b1.cell rfl
      have c1_1 : w9.cell? ⟨w.heap.size + 1, 1, none⟩ = some (.slice A1 ts1.length c1) := b1.cell rfl
      have l2 := b2.lt
      have c2_0 : w9.cell? ⟨w7.heap.size, 0, none⟩ = some (.int .i64 C0) := b2.cell rfl
      have c2_1 : w9.cell? ⟨w7.heap.size, 1, none⟩ = some (.slice A4_ ts0.length c4_) := b2.cell rfl
      go_wp2_with fail
      clear l0 c0_0 c0_1 l1 c1_0 c1_1 l2 c2_0 c2_1
      refine namec1 ?_
      intro w10 b3 hz hB
      have tw10 : w9.heap.size + 1 ≤ w10.heap.size := by omega
      clear hz
      replace b0 := b0.below hB b0.lt
      replace b1 := b1.below hB b1.lt
      replace b2 := b2.below hB b2.lt
      replace O1 := Lib.hid (O1.out.to hB)
      replace O2 := Lib.hid (O2.out.to hB)
      replace O3 := Lib.hid (O3.out.to hB)
      replace O4 := Lib.hid (O4.out.to hB)
      replace O5 := Lib.hid (O5.out.to hB)
      have sw10 : w9.heap.size ≤ w10.heap.size := hB.size
      replace hE := Lib.hid (below_to hE.out hB)
      clear hB
      refine (implCommon_any C0 A4_ ts0 ts0.length c4_ C1 A5_ ts1 ts1.length c5_ w10 rfl (rt_of O4.out rfl) (le_of O4.out) (by omega) rfl (rt_of O5.out rfl) (le_of O5.out) (by omega)).mono ?_
      rintro e w11 ⟨v0_, x0_, x1_, hR_, rfl, hO0, hB⟩
      obtain ⟨rfl, rfl⟩ : r1 = x0_ ∧ r2 = x1_ := (by have h_ := HR.out.symm.trans hR_; simpa using h_)
      clear hR_
      obtain ⟨A6_, c6_, rfl, -⟩ := hO0.form
      have O6 := Lib.hid hO0
      clear hO0
      replace b0 := b0.below hB b0.lt
      replace b1 := b1.below hB b1.lt
      replace b2 := b2.below hB b2.lt
      replace b3 := b3.below hB b3.lt
      replace O1 := Lib.hid (O1.out.to hB)
      replace O2 := Lib.hid (O2.out.to hB)
      replace O3 := Lib.hid (O3.out.to hB)
      replace O4 := Lib.hid (O4.out.to hB)
      replace O5 := Lib.hid (O5.out.to hB)
      have sw11 : w10.heap.size ≤ w11.heap.size := hB.size
      replace hE := Lib.hid (below_to hE.out hB)
      clear hB
      have l0 := b0.lt
      have c0_0 : w11.cell? ⟨w.heap.size, 0, none⟩ = some (.int .i64 C0) := b0.cell rfl
      have c0_1 : w11.cell? ⟨w.heap.size, 1, none⟩ = some (.slice A0 ts0.length c0) := b0.cell rfl
      have l1 := b1.lt
      have c1_0 : w11.cell? ⟨w.heap.size + 1, 0, none⟩ = some (.int .i64 C1) := b1.cell rfl
      have c1_1 : w11.cell? ⟨w.heap.size + 1, 1, none⟩ = some (.slice A1 ts1.length c1) := b1.cell rfl
      have l2 := b2.lt
      have c2_0 : w11.cell? ⟨w7.heap.size, 0, none⟩ = some (.int .i64 C0) := b2.cell rfl
      have c2_1 : w11.cell? ⟨w7.heap.size, 1, none⟩ = some (.slice A4_ ts0.length c4_) := b2.cell rfl
      have l3 := b3.lt
      have c3_0 : w11.cell? ⟨w9.heap.size, 0, none⟩ = some (.int .i64 C1) := b3.cell rfl
      have c3_1 : w11.cell? ⟨w9.heap.size, 1, none⟩ = some (.slice A5_ ts1.length c5_) := b3.cell rfl
      go_wp2_with fail
      clear l0 c0_0 c0_1 l1 c1_0 c1_1 l2 c2_0 c2_1 l3 c3_0 c3_1
      refine (eqTileS_any A6_ A3_ r1 r1 r1.length r1.length c6_ c3_ w11 rfl rfl (rt_of O6.out rfl) (rt_of O3.out rfl) (by omega) (by omega)).mono ?_
      rintro e w12 ⟨rfl, hB⟩
      simp only [decide_true, Bool.and_self]
      replace b0 := b0.below hB b0.lt
      replace b1 := b1.below hB b1.lt
      replace b2 := b2.below hB b2.lt
      replace b3 := b3.below hB b3.lt
      replace O1 := Lib.hid (O1.out.to hB)
      replace O2 := Lib.hid (O2.out.to hB)
      replace O3 := Lib.hid (O3.out.to hB)
      replace O4 := Lib.hid (O4.out.to hB)
      replace O5 := Lib.hid (O5.out.to hB)
      replace O6 := Lib.hid (O6.out.to hB)
      have sw12 : w11.heap.size ≤ w12.heap.size := hB.size
      replace hE := Lib.hid (below_to hE.out hB)
      clear hB
      have l0 := b0.lt
      have c0_0 : w12.cell? ⟨w.heap.size, 0, none⟩ = some (.int .i64 C0) := b0.cell rfl
      have c0_1 : w12.cell? ⟨w.heap.size, 1, none⟩ = some (.slice A0 ts0.length c0) := b0.cell rfl
      have l1 := b1.lt
      have c1_0 : w12.cell? ⟨w.heap.size + 1, 0, none⟩ = some (.int .i64 C1) := b1.cell rfl
      have c1_1 : w12.cell? ⟨w.heap.size + 1, 1, none⟩ = some (.slice A1 ts1.length c1) := b1.cell rfl
      have l2 := b2.lt
      have c2_0 : w12.cell? ⟨w7.heap.size, 0, none⟩ = some (.int .i64 C0) := b2.cell rfl
      have c2_1 : w12.cell? ⟨w7.heap.size, 1, none⟩ = some (.slice A4_ ts0.length c4_) := b2.cell rfl
      have l3 := b3.lt
      have c3_0 : w12.cell? ⟨w9.heap.size, 0, none⟩ = some (.int .i64 C1) := b3.cell rfl
      have c3_1 : w12.cell? ⟨w9.heap.size, 1, none⟩ = some (.slice A5_ ts1.length c5_) := b3.cell rfl
      go_wp2_with fail
      clear l0 c0_0 c0_1 l1 c1_0 c1_1 l2 c2_0 c2_1 l3 c3_0 c3_1
      have hD : Below w12.heap.size w12 w12.drew := (Below.refl _ _).drew
      replace b0 := b0.below hD b0.lt
      replace b1 := b1.below hD b1.lt
      replace b2 := b2.below hD b2.lt
      replace b3 := b3.below hD b3.lt
      replace O1 := Lib.hid (O1.out.to hD)
      replace O2 := Lib.hid (O2.out.to hD)
      replace O3 := Lib.hid (O3.out.to hD)
      replace O4 := Lib.hid (O4.out.to hD)
      replace O5 := Lib.hid (O5.out.to hD)
      replace O6 := Lib.hid (O6.out.to hD)
      replace hE := Lib.hid (below_to hE.out hD)
      clear hD
      have d1_w12 : w12.heap.size ≤ w12.drew.heap.size := Nat.le_refl _
      have d2_w12 : w12.drew.heap.size ≤ w12.heap.size := Nat.le_refl _
      go_region_held3 (fun w_ => w_.cell? ⟨w.heap.size, 0, none⟩ = some (.int .i64 C0) ∧ w_.cell? ⟨w.heap.size, 1, none⟩ = some (.slice A0 ts0.length c0) ∧ w_.cell? ⟨w.heap.size + 1, 0, none⟩ = some (.int .i64 C1) ∧ w_.cell? ⟨w.heap.size + 1, 1, none⟩ = some (.slice A1 ts1.length c1) ∧ w_.cell? ⟨w7.heap.size, 0, none⟩ = some (.int .i64 C0) ∧ w_.cell? ⟨w7.heap.size, 1, none⟩ = some (.slice A4_ ts0.length c4_) ∧ w_.cell? ⟨w9.heap.size, 0, none⟩ = some (.int .i64 C1) ∧ w_.cell? ⟨w9.heap.size, 1, none⟩ = some (.slice A5_ ts1.length c5_)) (first | exact ⟨b0.cell rfl, b0.cell rfl, b1.cell rfl, b1.cell rfl, b2.cell rfl, b2.cell rfl, b3.cell rfl, b3.cell rfl⟩)
        (first
          | (go_at_call 17; refine (toSet_any C0 A0 ts0 ts0.length c0 w12.drew rfl (HA0.out.below hE.out) (by omega)).mono ?_; rintro e w13 ⟨v_, rfl, hO, hB⟩; obtain ⟨A7_, c7_, rfl, -, -⟩ := hO.reads; have O7 := Lib.hid (OW.of hO); clear hO; replace b0 := b0.below hB b0.lt; replace b1 := b1.below hB b1.lt; replace b2 := b2.below hB b2.lt; replace b3 := b3.below hB b3.lt; replace O1 := Lib.hid (O1.out.to hB); replace O2 := Lib.hid (O2.out.to hB); replace O3 := Lib.hid (O3.out.to hB); replace O4 := Lib.hid (O4.out.to hB); replace O5 := Lib.hid (O5.out.to hB); replace O6 := Lib.hid (O6.out.to hB); have sw13 : w12.drew.heap.size ≤ w13.heap.size := hB.size; replace hE := Lib.hid (below_to hE.out hB); clear hB)
          | (go_at_call 19; refine (eqSet_any C0 C0 A4_ A7_ ts0 ts0 ts0.length ts0.length c4_ c7_ w13 rfl rfl (rt_of O4.out rfl) (rt_of O7.out rfl) (by omega) (by omega)).mono ?_; rintro e w14 ⟨rfl, hB⟩; simp only [decide_true, Bool.and_self]; replace b0 := b0.below hB b0.lt; replace b1 := b1.below hB b1.lt; replace b2 := b2.below hB b2.lt; replace b3 := b3.below hB b3.lt; replace O1 := Lib.hid (O1.out.to hB); replace O2 := Lib.hid (O2.out.to hB); replace O3 := Lib.hid (O3.out.to hB); replace O4 := Lib.hid (O4.out.to hB); replace O5 := Lib.hid (O5.out.to hB); replace O6 := Lib.hid (O6.out.to hB); replace O7 := Lib.hid (O7.out.to hB); have sw14 : w13.heap.size ≤ w14.heap.size := hB.size; replace hE := Lib.hid (below_to hE.out hB); clear hB))
      have l0 := b0.lt
      have c0_0 : w14.cell? ⟨w.heap.size, 0, none⟩ = some (.int .i64 C0) := b0.cell rfl
      have c0_1 : w14.cell? ⟨w.heap.size, 1, none⟩ = some (.slice A0 ts0.length c0) := b0.cell rfl
      have l1 := b1.lt
      have c1_0 : w14.cell? ⟨w.heap.size + 1, 0, none⟩ = some (.int .i64 C1) := b1.cell rfl
      have c1_1 : w14.cell? ⟨w.heap.size + 1, 1, none⟩ = some (.slice A1 ts1.length c1) := b1.cell rfl
      have l2 := b2.lt
      have c2_0 : w14.cell? ⟨w7.heap.size, 0, none⟩ = some (.int .i64 C0) := b2.cell rfl
      have c2_1 : w14.cell? ⟨w7.heap.size, 1, none⟩ = some (.slice A4_ ts0.length c4_) := b2.cell rfl
      have l3 := b3.lt
      have c3_0 : w14.cell? ⟨w9.heap.size, 0, none⟩ = some (.int .i64 C1) := b3.cell rfl
      have c3_1 : w14.cell? ⟨w9.heap.size, 1, none⟩ = some (.slice A5_ ts1.length c5_) := b3.cell rfl
      go_wp2_with fail
      clear l0 c0_0 c0_1 l1 c1_0 c1_1 l2 c2_0 c2_1 l3 c3_0 c3_1
      have hD : Below w14.heap.size w14 w14.drew := (Below.refl _ _).drew
      replace b0 := b0.below hD b0.lt
      replace b1 := b1.below hD b1.lt
      replace b2 := b2.below hD b2.lt
      replace b3 := b3.below hD b3.lt
      replace O1 := Lib.hid (O1.out.to hD)
      replace O2 := Lib.hid (O2.out.to hD)
      replace O3 := Lib.hid (O3.out.to hD)
      replace O4 := Lib.hid (O4.out.to hD)
      replace O5 := Lib.hid (O5.out.to hD)
      replace O6 := Lib.hid (O6.out.to hD)
      replace O7 := Lib.hid (O7.out.to hD)
      replace hE := Lib.hid (below_to hE.out hD)
      clear hD
      have d1_w14 : w14.heap.size ≤ w14.drew.heap.size := Nat.le_refl _
      have d2_w14 : w14.drew.heap.size ≤ w14.heap.size := Nat.le_refl _
      go_region_held3 (fun w_ => w_.cell? ⟨w.heap.size, 0, none⟩ = some (.int .i64 C0) ∧ w_.cell? ⟨w.heap.size, 1, none⟩ = some (.slice A0 ts0.length c0) ∧ w_.cell? ⟨w.heap.size + 1, 0, none⟩ = some (.int .i64 C1) ∧ w_.cell? ⟨w.heap.size + 1, 1, none⟩ = some (.slice A1 ts1.length c1) ∧ w_.cell? ⟨w7.heap.size, 0, none⟩ = some (.int .i64 C0) ∧ w_.cell? ⟨w7.heap.size, 1, none⟩ = some (.slice A4_ ts0.length c4_) ∧ w_.cell? ⟨w9.heap.size, 0, none⟩ = some (.int .i64 C1) ∧ w_.cell? ⟨w9.heap.size, 1, none⟩ = some (.slice A5_ ts1.length c5_)) (first | exact ⟨b0.cell rfl, b0.cell rfl, b1.cell rfl, b1.cell rfl, b2.cell rfl, b2.cell rfl, b3.cell rfl, b3.cell rfl⟩)
        (first
          | (go_at_call 17; refine (toSet_any C1 A1 ts1 ts1.length c1 w14.drew rfl (HA1.out.below hE.out) (by omega)).mono ?_; rintro e w15 ⟨v_, rfl, hO, hB⟩; obtain ⟨A8_, c8_, rfl, -, -⟩ := hO.reads; have O8 := Lib.hid (OW.of hO); clear hO; replace b0 := b0.below hB b0.lt; replace b1 := b1.below hB b1.lt; replace b2 := b2.below hB b2.lt; replace b3 := b3.below hB b3.lt; replace O1 := Lib.hid (O1.out.to hB); replace O2 := Lib.hid (O2.out.to hB); replace O3 := Lib.hid (O3.out.to hB); replace O4 := Lib.hid (O4.out.to hB); replace O5 := Lib.hid (O5.out.to hB); replace O6 := Lib.hid (O6.out.to hB); replace O7 := Lib.hid (O7.out.to hB); have sw15 : w14.drew.heap.size ≤ w15.heap.size := hB.size; replace hE := Lib.hid (below_to hE.out hB); clear hB)
          | (go_at_call 19; refine (eqSet_any C1 C1 A5_ A8_ ts1 ts1 ts1.length ts1.length c5_ c8_ w15 rfl rfl (rt_of O5.out rfl) (rt_of O8.out rfl) (by omega) (by omega)).mono ?_; rintro e w16 ⟨rfl, hB⟩; simp only [decide_true, Bool.and_self]; replace b0 := b0.below hB b0.lt; replace b1 := b1.below hB b1.lt; replace b2 := b2.below hB b2.lt; replace b3 := b3.below hB b3.lt; replace O1 := Lib.hid (O1.out.to hB); replace O2 := Lib.hid (O2.out.to hB); replace O3 := Lib.hid (O3.out.to hB); replace O4 := Lib.hid (O4.out.to hB); replace O5 := Lib.hid (O5.out.to hB); replace O6 := Lib.hid (O6.out.to hB); replace O7 := Lib.hid (O7.out.to hB); replace O8 := Lib.hid (O8.out.to hB); have sw16 : w15.heap.size ≤ w16.heap.size := hB.size; replace hE := Lib.hid (below_to hE.out hB); clear hB))
      have l0 := b0.lt
      have c0_0 : w16.cell? ⟨w.heap.size, 0, none⟩ = some (.int .i64 C0) := b0.cell rfl
      have c0_1 : w16.cell? ⟨w.heap.size, 1, none⟩ = some (.slice A0 ts0.length c0) := b0.cell rfl
      have l1 := b1.lt
      have c1_0 : w16.cell? ⟨w.heap.size + 1, 0, none⟩ = some (.int .i64 C1) := b1.cell rfl
      have c1_1 : w16.cell? ⟨w.heap.size + 1, 1, none⟩ = some (.slice A1 ts1.length c1) := b1.cell rfl
      have l2 := b2.lt
      have c2_0 : w16.cell? ⟨w7.heap.size, 0, none⟩ = some (.int .i64 C0) := b2.cell rfl
      have c2_1 : w16.cell? ⟨w7.heap.size, 1, none⟩ = some (.slice A4_ ts0.length c4_) := b2.cell rfl
      have l3 := b3.lt
      have c3_0 : w16.cell? ⟨w9.heap.size, 0, none⟩ = some (.int .i64 C1) := b3.cell rfl
      have c3_1 : w16.cell? ⟨w9.heap.size, 1, none⟩ = some (.slice A5_ ts1.length c5_) := b3.cell rfl
      go_wp2_with fail
      clear l0 c0_0 c0_1 l1 c1_0 c1_1 l2 c2_0 c2_1 l3 c3_0 c3_1
      obtain ⟨m_O4, hm_O4⟩ : ∃ m, m = ts0.length * 4 := ⟨_, rfl⟩
      have bm_O4 : m_O4 ≤ 40000000 := by omega
      have Hm_O4 := Lib.hid hm_O4; clear hm_O4
      refine (markSet_m w6.heap.size w7.heap.size C0 (.slice A4_ ts0.length c4_) ts0.length m_O4 (tcells ts0) (1) w16 Hm_O4.out O4.out (by omega) (by omega) (by omega)).mono ?_
      rintro e w17 ⟨rfl, hO, hK⟩
      clear O4
      have O4 := Lib.hid hO
      clear hO
      replace b0 := b0.only hK (by omega)
      replace b1 := b1.only hK (by omega)
      replace b2 := b2.only hK (by omega)
      replace b3 := b3.only hK (by omega)
      replace O1 := Lib.hid (O1.out.only hK (by omega))
      replace O2 := Lib.hid (O2.out.only hK (by omega))
      replace O3 := Lib.hid (O3.out.only hK (by omega))
      replace O5 := Lib.hid (O5.out.only hK (by omega))
      replace O6 := Lib.hid (O6.out.only hK (by omega))
      replace O7 := Lib.hid (O7.out.only hK (by omega))
      replace O8 := Lib.hid (O8.out.only hK (by omega))
      have sw17 : w16.heap.size ≤ w17.heap.size := hK.size
      replace hE := Lib.hid (below_only hE.out hK (by omega))
      clear hK
      have l0 := b0.lt
      have c0_0 : w17.cell? ⟨w.heap.size, 0, none⟩ = some (.int .i64 C0) := b0.cell rfl
      have c0_1 : w17.cell? ⟨w.heap.size, 1, none⟩ = some (.slice A0 ts0.length c0) := b0.cell rfl
      have l1 := b1.lt
      have c1_0 : w17.cell? ⟨w.heap.size + 1, 0, none⟩ = some (.int .i64 C1) := b1.cell rfl
      have c1_1 : w17.cell? ⟨w.heap.size + 1, 1, none⟩ = some (.slice A1 ts1.length c1) := b1.cell rfl
      have l2 := b2.lt
      have c2_0 : w17.cell? ⟨w7.heap.size, 0, none⟩ = some (.int .i64 C0) := b2.cell rfl
      have c2_1 : w17.cell? ⟨w7.heap.size, 1, none⟩ = some (.slice A4_ ts0.length c4_) := b2.cell rfl
      have l3 := b3.lt
      have c3_0 : w17.cell? ⟨w9.heap.size, 0, none⟩ = some (.int .i64 C1) := b3.cell rfl
      have c3_1 : w17.cell? ⟨w9.heap.size, 1, none⟩ = some (.slice A5_ ts1.length c5_) := b3.cell rfl
      go_wp2_with fail
      clear l0 c0_0 c0_1 l1 c1_0 c1_1 l2 c2_0 c2_1 l3 c3_0 c3_1
      obtain ⟨m_O5, hm_O5⟩ : ∃ m, m = ts1.length * 4 := ⟨_, rfl⟩
      have bm_O5 : m_O5 ≤ 40000000 := by omega
      have Hm_O5 := Lib.hid hm_O5; clear hm_O5
      refine (markSet_m w8.heap.size w9.heap.size C1 (.slice A5_ ts1.length c5_) ts1.length m_O5 (tcells ts1) ((1 + (m_O4 : Int))) w17 Hm_O5.out O5.out (by omega) (by omega) (by omega)).mono ?_
      rintro e w18 ⟨rfl, hO, hK⟩
      clear O5
      have O5 := Lib.hid hO
      clear hO
      replace b0 := b0.only hK (by omega)
      replace b1 := b1.only hK (by omega)
      replace b2 := b2.only hK (by omega)
      replace b3 := b3.only hK (by omega)
      replace O1 := Lib.hid (O1.out.only hK (by omega))
      replace O2 := Lib.hid (O2.out.only hK (by omega))
      replace O3 := Lib.hid (O3.out.only hK (by omega))
      replace O4 := Lib.hid (O4.out.only hK (by omega))
      replace O6 := Lib.hid (O6.out.only hK (by omega))
      replace O7 := Lib.hid (O7.out.only hK (by omega))
      replace O8 := Lib.hid (O8.out.only hK (by omega))
      have sw18 : w17.heap.size ≤ w18.heap.size := hK.size
      replace hE := Lib.hid (below_only hE.out hK (by omega))
      clear hK
      have l0 := b0.lt
      have c0_0 : w18.cell? ⟨w.heap.size, 0, none⟩ = some (.int .i64 C0) := b0.cell rfl
      have c0_1 : w18.cell? ⟨w.heap.size, 1, none⟩ = some (.slice A0 ts0.length c0) := b0.cell rfl
      have l1 := b1.lt
      have c1_0 : w18.cell? ⟨w.heap.size + 1, 0, none⟩ = some (.int .i64 C1) := b1.cell rfl
      have c1_1 : w18.cell? ⟨w.heap.size + 1, 1, none⟩ = some (.slice A1 ts1.length c1) := b1.cell rfl
      have l2 := b2.lt
      have c2_0 : w18.cell? ⟨w7.heap.size, 0, none⟩ = some (.int .i64 C0) := b2.cell rfl
      have c2_1 : w18.cell? ⟨w7.heap.size, 1, none⟩ = some (.slice A4_ ts0.length c4_) := b2.cell rfl
      have l3 := b3.lt
      have c3_0 : w18.cell? ⟨w9.heap.size, 0, none⟩ = some (.int .i64 C1) := b3.cell rfl
      have c3_1 : w18.cell? ⟨w9.heap.size, 1, none⟩ = some (.slice A5_ ts1.length c5_) := b3.cell rfl
      go_wp2_with fail
      clear l0 c0_0 c0_1 l1 c1_0 c1_1 l2 c2_0 c2_1 l3 c3_0 c3_1
      refine (eqTileS_any A6_ A3_ r1 r1 r1.length r1.length c6_ c3_ w18 rfl rfl (rt_of O6.out rfl) (rt_of O3.out rfl) (by omega) (by omega)).mono ?_
      rintro e w19 ⟨rfl, hB⟩
      simp only [decide_true, Bool.and_self]
      replace b0 := b0.below hB b0.lt
      replace b1 := b1.below hB b1.lt
      replace b2 := b2.below hB b2.lt
      replace b3 := b3.below hB b3.lt
      replace O1 := Lib.hid (O1.out.to hB)
      replace O2 := Lib.hid (O2.out.to hB)
      replace O3 := Lib.hid (O3.out.to hB)
      replace O4 := Lib.hid (O4.out.to hB)
      replace O5 := Lib.hid (O5.out.to hB)
      replace O6 := Lib.hid (O6.out.to hB)
      replace O7 := Lib.hid (O7.out.to hB)
      replace O8 := Lib.hid (O8.out.to hB)
      have sw19 : w18.heap.size ≤ w19.heap.size := hB.size
      replace hE := Lib.hid (below_to hE.out hB)
      clear hB
      have l0 := b0.lt
      have c0_0 : w19.cell? ⟨w.heap.size, 0, none⟩ = some (.int .i64 C0) := b0.cell rfl
      have c0_1 : w19.cell? ⟨w.heap.size, 1, none⟩ = some (.slice A0 ts0.length c0) := b0.cell rfl
      have l1 := b1.lt
      have c1_0 : w19.cell? ⟨w.heap.size + 1, 0, none⟩ = some (.int .i64 C1) := b1.cell rfl
      have c1_1 : w19.cell? ⟨w.heap.size + 1, 1, none⟩ = some (.slice A1 ts1.length c1) := b1.cell rfl
      have l2 := b2.lt
      have c2_0 : w19.cell? ⟨w7.heap.size, 0, none⟩ = some (.int .i64 C0) := b2.cell rfl
      have c2_1 : w19.cell? ⟨w7.heap.size, 1, none⟩ = some (.slice A4_ ts0.length c4_) := b2.cell rfl
      have l3 := b3.lt
      have c3_0 : w19.cell? ⟨w9.heap.size, 0, none⟩ = some (.int .i64 C1) := b3.cell rfl
      have c3_1 : w19.cell? ⟨w9.heap.size, 1, none⟩ = some (.slice A5_ ts1.length c5_) := b3.cell rfl
      go_wp2_with fail
      clear l0 c0_0 c0_1 l1 c1_0 c1_1 l2 c2_0 c2_1 l3 c3_0 c3_1
      obtain ⟨m_O6, hm_O6⟩ : ∃ m, m = r1.length * 4 := ⟨_, rfl⟩
      have bm_O6 : m_O6 ≤ 40000000 := by omega
      have Hm_O6 := Lib.hid hm_O6; clear hm_O6
      refine (markTileS_m w10.heap.size w11.heap.size (.slice A6_ r1.length c6_) r1.length m_O6 (tcells r1) (1) w19 Hm_O6.out O6.out (by omega) (by omega) (by omega)).mono ?_
      rintro e w20 ⟨rfl, hO, hK⟩
      clear O6
      have O6 := Lib.hid hO
      clear hO
      replace b0 := b0.only hK (by omega)
      replace b1 := b1.only hK (by omega)
      replace b2 := b2.only hK (by omega)
      replace b3 := b3.only hK (by omega)
      replace O1 := Lib.hid (O1.out.only hK (by omega))
      replace O2 := Lib.hid (O2.out.only hK (by omega))
      replace O3 := Lib.hid (O3.out.only hK (by omega))
      replace O4 := Lib.hid (O4.out.only hK (by omega))
      replace O5 := Lib.hid (O5.out.only hK (by omega))
      replace O7 := Lib.hid (O7.out.only hK (by omega))
      replace O8 := Lib.hid (O8.out.only hK (by omega))
      have sw20 : w19.heap.size ≤ w20.heap.size := hK.size
      replace hE := Lib.hid (below_only hE.out hK (by omega))
      clear hK
      have l0 := b0.lt
      have c0_0 : w20.cell? ⟨w.heap.size, 0, none⟩ = some (.int .i64 C0) := b0.cell rfl
      have c0_1 : w20.cell? ⟨w.heap.size, 1, none⟩ = some (.slice A0 ts0.length c0) := b0.cell rfl
      have l1 := b1.lt
      have c1_0 : w20.cell? ⟨w.heap.size + 1, 0, none⟩ = some (.int .i64 C1) := b1.cell rfl
      have c1_1 : w20.cell? ⟨w.heap.size + 1, 1, none⟩ = some (.slice A1 ts1.length c1) := b1.cell rfl
      have l2 := b2.lt
      have c2_0 : w20.cell? ⟨w7.heap.size, 0, none⟩ = some (.int .i64 C0) := b2.cell rfl
      have c2_1 : w20.cell? ⟨w7.heap.size, 1, none⟩ = some (.slice A4_ ts0.length c4_) := b2.cell rfl
      have l3 := b3.lt
      have c3_0 : w20.cell? ⟨w9.heap.size, 0, none⟩ = some (.int .i64 C1) := b3.cell rfl
      have c3_1 : w20.cell? ⟨w9.heap.size, 1, none⟩ = some (.slice A5_ ts1.length c5_) := b3.cell rfl
      go_wp2_with fail
      clear l0 c0_0 c0_1 l1 c1_0 c1_1 l2 c2_0 c2_1 l3 c3_0 c3_1
      refine (heldTileS_m w10.heap.size w11.heap.size (.slice A6_ r1.length c6_) r1.length m_O6 (1) w20 Hm_O6.out O6.out (by omega) (by omega) (by omega)).mono ?_
      rintro e w21 ⟨rfl, hB⟩
      replace b0 := b0.below hB b0.lt
      replace b1 := b1.below hB b1.lt
      replace b2 := b2.below hB b2.lt
      replace b3 := b3.below hB b3.lt
      replace O1 := Lib.hid (O1.out.to hB)
      replace O2 := Lib.hid (O2.out.to hB)
      replace O3 := Lib.hid (O3.out.to hB)
      replace O4 := Lib.hid (O4.out.to hB)
      replace O5 := Lib.hid (O5.out.to hB)
      replace O6 := Lib.hid (O6.out.to hB)
      replace O7 := Lib.hid (O7.out.to hB)
      replace O8 := Lib.hid (O8.out.to hB)
      have sw21 : w20.heap.size ≤ w21.heap.size := hB.size
      replace hE := Lib.hid (below_to hE.out hB)
      clear hB
      have l0 := b0.lt
      have c0_0 : w21.cell? ⟨w.heap.size, 0, none⟩ = some (.int .i64 C0) := b0.cell rfl
      have c0_1 : w21.cell? ⟨w.heap.size, 1, none⟩ = some (.slice A0 ts0.length c0) := b0.cell rfl
      have l1 := b1.lt
      have c1_0 : w21.cell? ⟨w.heap.size + 1, 0, none⟩ = some (.int .i64 C1) := b1.cell rfl
      have c1_1 : w21.cell? ⟨w.heap.size + 1, 1, none⟩ = some (.slice A1 ts1.length c1) := b1.cell rfl
      have l2 := b2.lt
      have c2_0 : w21.cell? ⟨w7.heap.size, 0, none⟩ = some (.int .i64 C0) := b2.cell rfl
      have c2_1 : w21.cell? ⟨w7.heap.size, 1, none⟩ = some (.slice A4_ ts0.length c4_) := b2.cell rfl
      have l3 := b3.lt
      have c3_0 : w21.cell? ⟨w9.heap.size, 0, none⟩ = some (.int .i64 C1) := b3.cell rfl
      have c3_1 : w21.cell? ⟨w9.heap.size, 1, none⟩ = some (.slice A5_ ts1.length c5_) := b3.cell rfl
      go_wp2_with fail
      clear l0 c0_0 c0_1 l1 c1_0 c1_1 l2 c2_0 c2_1 l3 c3_0 c3_1
      have hD : Below w21.heap.size w21 w21.drew := (Below.refl _ _).drew
      replace b0 := b0.below hD b0.lt
      replace b1 := b1.below hD b1.lt
      replace b2 := b2.below hD b2.lt
      replace b3 := b3.below hD b3.lt
      replace O1 := Lib.hid (O1.out.to hD)
      replace O2 := Lib.hid (O2.out.to hD)
      replace O3 := Lib.hid (O3.out.to hD)
      replace O4 := Lib.hid (O4.out.to hD)
      replace O5 := Lib.hid (O5.out.to hD)
      replace O6 := Lib.hid (O6.out.to hD)
      replace O7 := Lib.hid (O7.out.to hD)
      replace O8 := Lib.hid (O8.out.to hD)
      replace hE := Lib.hid (below_to hE.out hD)
      clear hD
      have d1_w21 : w21.heap.size ≤ w21.drew.heap.size := Nat.le_refl _
      have d2_w21 : w21.drew.heap.size ≤ w21.heap.size := Nat.le_refl _
      go_region_held3 (fun w_ => w_.cell? ⟨w.heap.size, 0, none⟩ = some (.int .i64 C0) ∧ w_.cell? ⟨w.heap.size, 1, none⟩ = some (.slice A0 ts0.length c0) ∧ w_.cell? ⟨w.heap.size + 1, 0, none⟩ = some (.int .i64 C1) ∧ w_.cell? ⟨w.heap.size + 1, 1, none⟩ = some (.slice A1 ts1.length c1) ∧ w_.cell? ⟨w7.heap.size, 0, none⟩ = some (.int .i64 C0) ∧ w_.cell? ⟨w7.heap.size, 1, none⟩ = some (.slice A4_ ts0.length c4_) ∧ w_.cell? ⟨w9.heap.size, 0, none⟩ = some (.int .i64 C1) ∧ w_.cell? ⟨w9.heap.size, 1, none⟩ = some (.slice A5_ ts1.length c5_)) (first | exact ⟨b0.cell rfl, b0.cell rfl, b1.cell rfl, b1.cell rfl, b2.cell rfl, b2.cell rfl, b3.cell rfl, b3.cell rfl⟩)
        (first
          | (go_at_call 17; refine (toSet_any C0 A0 ts0 ts0.length c0 w21.drew rfl (HA0.out.below hE.out) (by omega)).mono ?_; rintro e w22 ⟨v_, rfl, hO, hB⟩; obtain ⟨A9_, c9_, rfl, -, -⟩ := hO.reads; have O9 := Lib.hid (OW.of hO); clear hO; replace b0 := b0.below hB b0.lt; replace b1 := b1.below hB b1.lt; replace b2 := b2.below hB b2.lt; replace b3 := b3.below hB b3.lt; replace O1 := Lib.hid (O1.out.to hB); replace O2 := Lib.hid (O2.out.to hB); replace O3 := Lib.hid (O3.out.to hB); replace O4 := Lib.hid (O4.out.to hB); replace O5 := Lib.hid (O5.out.to hB); replace O6 := Lib.hid (O6.out.to hB); replace O7 := Lib.hid (O7.out.to hB); replace O8 := Lib.hid (O8.out.to hB); have sw22 : w21.drew.heap.size ≤ w22.heap.size := hB.size; replace hE := Lib.hid (below_to hE.out hB); clear hB)
          | (go_at_call 17; refine (toSet_any C1 A1 ts1 ts1.length c1 w22 rfl (HA1.out.below hE.out) (by omega)).mono ?_; rintro e w23 ⟨v_, rfl, hO, hB⟩; obtain ⟨A10_, c10_, rfl, -, -⟩ := hO.reads; have O10 := Lib.hid (OW.of hO); clear hO; replace b0 := b0.below hB b0.lt; replace b1 := b1.below hB b1.lt; replace b2 := b2.below hB b2.lt; replace b3 := b3.below hB b3.lt; replace O1 := Lib.hid (O1.out.to hB); replace O2 := Lib.hid (O2.out.to hB); replace O3 := Lib.hid (O3.out.to hB); replace O4 := Lib.hid (O4.out.to hB); replace O5 := Lib.hid (O5.out.to hB); replace O6 := Lib.hid (O6.out.to hB); replace O7 := Lib.hid (O7.out.to hB); replace O8 := Lib.hid (O8.out.to hB); replace O9 := Lib.hid (O9.out.to hB); have sw23 : w22.heap.size ≤ w23.heap.size := hB.size; replace hE := Lib.hid (below_to hE.out hB); clear hB)
          | (go_at_call 27; refine (implCommon_any C0 A9_ ts0 ts0.length c9_ C1 A10_ ts1 ts1.length c10_ w23 rfl (rt_of O9.out rfl) (le_of O9.out) (by omega) rfl (rt_of O10.out rfl) (le_of O10.out) (by omega)).mono ?_; rintro e w24 ⟨v0_, x0_, x1_, hR_, rfl, hO0, hB⟩; obtain ⟨rfl, rfl⟩ : r1 = x0_ ∧ r2 = x1_ := (by have h_ := HR.out.symm.trans hR_; simpa using h_); clear hR_; obtain ⟨A11_, c11_, rfl, -⟩ := hO0.form; have O11 := Lib.hid hO0; clear hO0; replace b0 := b0.below hB b0.lt; replace b1 := b1.below hB b1.lt; replace b2 := b2.below hB b2.lt; replace b3 := b3.below hB b3.lt; replace O1 := Lib.hid (O1.out.to hB); replace O2 := Lib.hid (O2.out.to hB); replace O3 := Lib.hid (O3.out.to hB); replace O4 := Lib.hid (O4.out.to hB); replace O5 := Lib.hid (O5.out.to hB); replace O6 := Lib.hid (O6.out.to hB); replace O7 := Lib.hid (O7.out.to hB); replace O8 := Lib.hid (O8.out.to hB); replace O9 := Lib.hid (O9.out.to hB); replace O10 := Lib.hid (O10.out.to hB); have sw24 : w23.heap.size ≤ w24.heap.size := hB.size; replace hE := Lib.hid (below_to hE.out hB); clear hB))
      have l0 := b0.lt
      have c0_0 : w24.cell? ⟨w.heap.size, 0, none⟩ = some (.int .i64 C0) := b0.cell rfl
      have c0_1 : w24.cell? ⟨w.heap.size, 1, none⟩ = some (.slice A0 ts0.length c0) := b0.cell rfl
      have l1 := b1.lt
      have c1_0 : w24.cell? ⟨w.heap.size + 1, 0, none⟩ = some (.int .i64 C1) := b1.cell rfl
      have c1_1 : w24.cell? ⟨w.heap.size + 1, 1, none⟩ = some (.slice A1 ts1.length c1) := b1.cell rfl
      have l2 := b2.lt
      have c2_0 : w24.cell? ⟨w7.heap.size, 0, none⟩ = some (.int .i64 C0) := b2.cell rfl
      have c2_1 : w24.cell? ⟨w7.heap.size, 1, none⟩ = some (.slice A4_ ts0.length c4_) := b2.cell rfl
      have l3 := b3.lt
      have c3_0 : w24.cell? ⟨w9.heap.size, 0, none⟩ = some (.int .i64 C1) := b3.cell rfl
      have c3_1 : w24.cell? ⟨w9.heap.size, 1, none⟩ = some (.slice A5_ ts1.length c5_) := b3.cell rfl
      go_wp2_with fail
      clear l0 c0_0 c0_1 l1 c1_0 c1_1 l2 c2_0 c2_1 l3 c3_0 c3_1
      refine (eqTileS_any A11_ A3_ r1 r1 r1.length r1.length c11_ c3_ w24 rfl rfl (rt_of O11.out rfl) (rt_of O3.out rfl) (by omega) (by omega)).mono ?_
      rintro e w25 ⟨rfl, hB⟩
      simp only [decide_true, Bool.and_self]
      replace b0 := b0.below hB b0.lt
      replace b1 := b1.below hB b1.lt
      replace b2 := b2.below hB b2.lt
      replace b3 := b3.below hB b3.lt
      replace O1 := Lib.hid (O1.out.to hB)
      replace O2 := Lib.hid (O2.out.to hB)
      replace O3 := Lib.hid (O3.out.to hB)
      replace O4 := Lib.hid (O4.out.to hB)
      replace O5 := Lib.hid (O5.out.to hB)
      replace O6 := Lib.hid (O6.out.to hB)
      replace O7 := Lib.hid (O7.out.to hB)
      replace O8 := Lib.hid (O8.out.to hB)
      replace O9 := Lib.hid (O9.out.to hB)
      replace O10 := Lib.hid (O10.out.to hB)
      replace O11 := Lib.hid (O11.out.to hB)
      have sw25 : w24.heap.size ≤ w25.heap.size := hB.size
      replace hE := Lib.hid (below_to hE.out hB)
      clear hB
      have l0 := b0.lt
      have c0_0 : w25.cell? ⟨w.heap.size, 0, none⟩ = some (.int .i64 C0) := b0.cell rfl
      have c0_1 : w25.cell? ⟨w.heap.size, 1, none⟩ = some (.slice A0 ts0.length c0) := b0.cell rfl
      have l1 := b1.lt
      have c1_0 : w25.cell? ⟨w.heap.size + 1, 0, none⟩ = some (.int .i64 C1) := b1.cell rfl
      have c1_1 : w25.cell? ⟨w.heap.size + 1, 1, none⟩ = some (.slice A1 ts1.length c1) := b1.cell rfl
      have l2 := b2.lt
      have c2_0 : w25.cell? ⟨w7.heap.size, 0, none⟩ = some (.int .i64 C0) := b2.cell rfl
      have c2_1 : w25.cell? ⟨w7.heap.size, 1, none⟩ = some (.slice A4_ ts0.length c4_) := b2.cell rfl
      have l3 := b3.lt
      have c3_0 : w25.cell? ⟨w9.heap.size, 0, none⟩ = some (.int .i64 C1) := b3.cell rfl
      have c3_1 : w25.cell? ⟨w9.heap.size, 1, none⟩ = some (.slice A5_ ts1.length c5_) := b3.cell rfl
      go_wp2_with fail
      clear l0 c0_0 c0_1 l1 c1_0 c1_1 l2 c2_0 c2_1 l3 c3_0 c3_1
      refine (heldTileS_m w10.heap.size w11.heap.size (.slice A6_ r1.length c6_) r1.length m_O6 (1) w25 Hm_O6.out O6.out (by omega) (by omega) (by omega)).mono ?_
      rintro e w26 ⟨rfl, hB⟩
      replace b0 := b0.below hB b0.lt
      replace b1 := b1.below hB b1.lt
      replace b2 := b2.below hB b2.lt
      replace b3 := b3.below hB b3.lt
      replace O1 := Lib.hid (O1.out.to hB)
      replace O2 := Lib.hid (O2.out.to hB)
      replace O3 := Lib.hid (O3.out.to hB)
      replace O4 := Lib.hid (O4.out.to hB)
      replace O5 := Lib.hid (O5.out.to hB)
      replace O6 := Lib.hid (O6.out.to hB)
      replace O7 := Lib.hid (O7.out.to hB)
      replace O8 := Lib.hid (O8.out.to hB)
      replace O9 := Lib.hid (O9.out.to hB)
      replace O10 := Lib.hid (O10.out.to hB)
      replace O11 := Lib.hid (O11.out.to hB)
      have sw26 : w25.heap.size ≤ w26.heap.size := hB.size
      replace hE := Lib.hid (below_to hE.out hB)
      clear hB
      go_wp2_with fail
      go_ret
      exact ⟨rfl, hE.out⟩
end Go.Proofs.Ytaidmloaoogmoaa

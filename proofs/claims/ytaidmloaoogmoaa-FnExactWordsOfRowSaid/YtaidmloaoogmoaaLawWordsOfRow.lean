/-
  The walk of the law FnExactWordsOfRow.
-/
import Derived.Test.YtaidmloaoogmoaaWords
namespace Go.Proofs.Ytaidmloaoogmoaa
open Go Go.RowKit Go.Proofs
set_option linter.unusedVariables false
set_option linter.unusedSimpArgs false

set_option maxHeartbeats 16000000 in
set_option maxRecDepth 100000 in
theorem lawWordsOfRow_any (w : World) (C0 : Int) (A0 : Option Addr) (ts0 : List T4) (n0 c0 : Nat) (hn0 : n0 = ts0.length) (hA0 : RT w A0 ts0) (hnc0 : n0 ≤ c0) (hl0 : n0 ≤ 35184372088832) (hC0 : -9223372036854775808 ≤ C0 ∧ C0 ≤ 9223372036854775807) (A1 : Option Addr) (ts1 : List Int) (n1 c1 : Nat) (hn1 : n1 = ts1.length) (hA1 : RI w A1 ts1) (hnc1 : n1 ≤ c1) (hl1 : n1 ≤ 35184372088832) :
    Calls Try.prog 11 #[.agg #[.int .i64 C0, .slice A0 n0 c0], .slice A1 n1 c1] w fun e w' => e = .returned (.bool true) ∧ Below w.heap.size w w' := by
  subst hn0
  have HA0 := Lib.hid hA0; clear hA0
  subst hn1
  have HA1 := Lib.hid hA1; clear hA1
  by_cases hbig0 : (1048576 : Int) < ((ts1.length : Nat) : Int)
  · go_enter Try.func11, Try.ntmps11
    go_wp2_with fail
    go_ret
    exact ⟨rfl, by simpa using (Below.refl _ _).alloc (Nat.le_refl _) _⟩
  · replace hbig0 : ((ts1.length : Nat) : Int) ≤ 1048576 := by omega
    by_cases hbig1 : (1048576 : Int) < ((ts0.length : Nat) : Int)
    · go_enter Try.func11, Try.ntmps11
      go_wp2_with fail
      refine namec1 ?_
      intro w1 b0 hz hB
      have tw1 : w.heap.size + 1 ≤ w1.heap.size := by omega
      clear hz
      have sw1 : w.heap.size ≤ w1.heap.size := hB.size
      have hE := Lib.hid (hB)
      clear hB
      refine (szSet_any C0 A0 ts0.length c0 (1048576) w1 (by omega) (by omega) (by omega)).mono ?_
      rintro e w2 ⟨rfl, hB⟩
      rw [if_pos (show (1048576 : Int) < (ts0.length : Nat) by omega)]
      replace b0 := b0.below hB b0.lt
      have sw2 : w1.heap.size ≤ w2.heap.size := hB.size
      replace hE := Lib.hid (below_to hE.out hB)
      clear hB
      go_wp2_with fail
      go_ret
      exact ⟨rfl, hE.out⟩
    · replace hbig1 : ((ts0.length : Nat) : Int) ≤ 1048576 := by omega
      obtain ⟨r_, hr_⟩ : ∃ r, wordsR C0 ts0 ts1 = r := ⟨_, rfl⟩
      obtain ⟨r1, r2, r3⟩ := r_
      have hb1 : r1.length ≤ 1048576 := by have h_ := wordsR_len C0 ts0 ts1; rw [hr_] at h_; exact h_
      have hb2 : r2.length ≤ 1048576 := by have h_ := wordsR_len2 C0 ts0 ts1; rw [hr_] at h_; exact h_
      have HR := Lib.hid hr_; clear hr_
      go_enter Try.func11, Try.ntmps11
      go_wp2_with fail
      refine namec1 ?_
      intro w1 b0 hz hB
      have tw1 : w.heap.size + 1 ≤ w1.heap.size := by omega
      clear hz
      have sw1 : w.heap.size ≤ w1.heap.size := hB.size
      have hE := Lib.hid (hB)
      clear hB
      refine (szSet_any C0 A0 ts0.length c0 (1048576) w1 (by omega) (by omega) (by omega)).mono ?_
      rintro e w2 ⟨rfl, hB⟩
      rw [if_neg (show ¬ (1048576 : Int) < (ts0.length : Nat) by omega)]
      replace b0 := b0.below hB b0.lt
      have sw2 : w1.heap.size ≤ w2.heap.size := hB.size
      replace hE := Lib.hid (below_to hE.out hB)
      clear hB
      have l0 := b0.lt
      have c0_0 : w2.cell? ⟨w.heap.size, 0, none⟩ = some (.int .i64 C0) := b0.cell rfl
      have c0_1 : w2.cell? ⟨w.heap.size, 1, none⟩ = some (.slice A0 ts0.length c0) := b0.cell rfl
      go_wp2_with fail
      clear l0 c0_0 c0_1
      refine (toSet_any C0 A0 ts0 ts0.length c0 w2 rfl (HA0.out.below hE.out) (by omega)).mono ?_
      rintro e w3 ⟨v_, rfl, hO, hB⟩
      obtain ⟨A1_, c1_, rfl, -, -⟩ := hO.reads
      have O1 := Lib.hid (OW.of hO)
      clear hO
      replace b0 := b0.below hB b0.lt
      have sw3 : w2.heap.size ≤ w3.heap.size := hB.size
      replace hE := Lib.hid (below_to hE.out hB)
      clear hB
      have l0 := b0.lt
      have c0_0 : w3.cell? ⟨w.heap.size, 0, none⟩ = some (.int .i64 C0) := b0.cell rfl
      have c0_1 : w3.cell? ⟨w.heap.size, 1, none⟩ = some (.slice A0 ts0.length c0) := b0.cell rfl
      go_wp2_with fail
      clear l0 c0_0 c0_1
      refine (toInt64S_any A1 ts1 ts1.length c1 w3 rfl (HA1.out.below hE.out) (by omega)).mono ?_
      rintro e w4 ⟨v_, rfl, hO, hB⟩
      obtain ⟨A2_, c2_, rfl, -, -⟩ := hO.reads
      have O2 := Lib.hid (OW.of hO)
      clear hO
      replace b0 := b0.below hB b0.lt
      replace O1 := Lib.hid (O1.out.to hB)
      have sw4 : w3.heap.size ≤ w4.heap.size := hB.size
      replace hE := Lib.hid (below_to hE.out hB)
      clear hB
      have l0 := b0.lt
      have c0_0 : w4.cell? ⟨w.heap.size, 0, none⟩ = some (.int .i64 C0) := b0.cell rfl
      have c0_1 : w4.cell? ⟨w.heap.size, 1, none⟩ = some (.slice A0 ts0.length c0) := b0.cell rfl
      go_wp2_with fail
      clear l0 c0_0 c0_1
      refine (specWordsOfRow_any C0 A1_ ts0 ts0.length c1_ A2_ ts1 ts1.length c2_ w4 rfl (rt_of O1.out rfl) (le_of O1.out) (by omega) rfl (ri_of O2.out rfl) (le_of O2.out) (by omega)).mono ?_
      rintro e w5 ⟨v0_, v1_, x0_, x1_, x2_, los_50, his_50, los_51, his_51, hR_, rfl, hO0, hO1, hDs_5, hls_50, hls_51, hB⟩
      have hts_50 := hO0.top
      have hts_51 := hO1.top
      obtain ⟨rfl, rfl, rfl⟩ : r1 = x0_ ∧ r2 = x1_ ∧ r3 = x2_ := (by have h_ := HR.out.symm.trans hR_; simpa using h_)
      clear hR_
      obtain ⟨A3_, c3_, rfl, -⟩ := hO0.form
      have O3 := Lib.hid hO0
      clear hO0
      obtain ⟨A4_, c4_, rfl, -⟩ := hO1.form
      have O4 := Lib.hid hO1
      clear hO1
      replace b0 := b0.below hB b0.lt
      replace O1 := Lib.hid (O1.out.to hB)
      replace O2 := Lib.hid (O2.out.to hB)
      have sw5 : w4.heap.size ≤ w5.heap.size := hB.size
      replace hE := Lib.hid (below_to hE.out hB)
      clear hB
      have l0 := b0.lt
      have c0_0 : w5.cell? ⟨w.heap.size, 0, none⟩ = some (.int .i64 C0) := b0.cell rfl
      have c0_1 : w5.cell? ⟨w.heap.size, 1, none⟩ = some (.slice A0 ts0.length c0) := b0.cell rfl
      go_wp2_with fail
      clear l0 c0_0 c0_1
      refine (toSet_any C0 A0 ts0 ts0.length c0 w5 rfl (HA0.out.below hE.out) (by omega)).mono ?_
      rintro e w6 ⟨v_, rfl, hO, hB⟩
      obtain ⟨A5_, c5_, rfl, -, -⟩ := hO.reads
      have O5 := Lib.hid (OW.of hO)
      clear hO
      replace b0 := b0.below hB b0.lt
      replace O1 := Lib.hid (O1.out.to hB)
      replace O2 := Lib.hid (O2.out.to hB)
      replace O3 := Lib.hid (O3.out.to hB)
      replace O4 := Lib.hid (O4.out.to hB)
      have sw6 : w5.heap.size ≤ w6.heap.size := hB.size
      replace hE := Lib.hid (below_to hE.out hB)
      clear hB
      have l0 := b0.lt
      have c0_0 : w6.cell? ⟨w.heap.size, 0, none⟩ = some (.int .i64 C0) := b0.cell rfl
      have c0_1 : w6.cell? ⟨w.heap.size, 1, none⟩ = some (.slice A0 ts0.length c0) := b0.cell rfl
      go_wp2_with fail
      clear l0 c0_0 c0_1
      refine namec1 ?_
      intro w7 b1 hz hB
      have tw7 : w6.heap.size + 1 ≤ w7.heap.size := by omega
      clear hz
      replace b0 := b0.below hB b0.lt
      replace O1 := Lib.hid (O1.out.to hB)
      replace O2 := Lib.hid (O2.out.to hB)
      replace O3 := Lib.hid (O3.out.to hB)
      replace O4 := Lib.hid (O4.out.to hB)
      replace O5 := Lib.hid (O5.out.to hB)
      have sw7 : w6.heap.size ≤ w7.heap.size := hB.size
      replace hE := Lib.hid (below_to hE.out hB)
      clear hB
      refine (toInt64S_any A1 ts1 ts1.length c1 w7 rfl (HA1.out.below hE.out) (by omega)).mono ?_
      rintro e w8 ⟨v_, rfl, hO, hB⟩
      obtain ⟨A6_, c6_, rfl, -, -⟩ := hO.reads
      have O6 := Lib.hid (OW.of hO)
      clear hO
      replace b0 := b0.below hB b0.lt
      replace b1 := b1.below hB b1.lt
      replace O1 := Lib.hid (O1.out.to hB)
      replace O2 := Lib.hid (O2.out.to hB)
      replace O3 := Lib.hid (O3.out.to hB)
      replace O4 := Lib.hid (O4.out.to hB)
      replace O5 := Lib.hid (O5.out.to hB)
      have sw8 : w7.heap.size ≤ w8.heap.size := hB.size
      replace hE := Lib.hid (below_to hE.out hB)
      clear hB
      have l0 := b0.lt
      have c0_0 : w8.cell? ⟨w.heap.size, 0, none⟩ = some (.int .i64 C0) := b0.cell rfl
      have c0_1 : w8.cell? ⟨w.heap.size, 1, none⟩ = some (.slice A0 ts0.length c0) := b0.cell rfl
      have l1 := b1.lt
      have c1_0 : w8.cell? ⟨w6.heap.size, 0, none⟩ = some (.int .i64 C0) := b1.cell rfl
      have c1_1 : w8.cell? ⟨w6.heap.size, 1, none⟩ = some (.slice A5_ ts0.length c5_) := b1.cell rfl
      go_wp2_with fail
      clear l0 c0_0 c0_1 l1 c1_0 c1_1
      refine (implWordsOfRow_any C0 A5_ ts0 ts0.length c5_ A6_ ts1 ts1.length c6_ w8 rfl (rt_of O5.out rfl) (le_of O5.out) (by omega) rfl (ri_of O6.out rfl) (le_of O6.out) (by omega)).mono ?_
      rintro e w9 ⟨v0_, v1_, x0_, x1_, x2_, loi_90, hii_90, loi_91, hii_91, hR_, rfl, hO0, hO1, hDi_9, hli_90, hli_91, hB⟩
      have hti_90 := hO0.top
      have hti_91 := hO1.top
      obtain ⟨rfl, rfl, rfl⟩ : r1 = x0_ ∧ r2 = x1_ ∧ r3 = x2_ := (by have h_ := HR.out.symm.trans hR_; simpa using h_)
      clear hR_
      obtain ⟨A7_, c7_, rfl, -⟩ := hO0.form
      have O7 := Lib.hid hO0
      clear hO0
      obtain ⟨A8_, c8_, rfl, -⟩ := hO1.form
      have O8 := Lib.hid hO1
      clear hO1
      replace b0 := b0.below hB b0.lt
      replace b1 := b1.below hB b1.lt
      replace O1 := Lib.hid (O1.out.to hB)
      replace O2 := Lib.hid (O2.out.to hB)
      replace O3 := Lib.hid (O3.out.to hB)
      replace O4 := Lib.hid (O4.out.to hB)
      replace O5 := Lib.hid (O5.out.to hB)
      replace O6 := Lib.hid (O6.out.to hB)
      have sw9 : w8.heap.size ≤ w9.heap.size := hB.size
      replace hE := Lib.hid (below_to hE.out hB)
      clear hB
      have l0 := b0.lt
      have c0_0 : w9.cell? ⟨w.heap.size, 0, none⟩ = some (.int .i64 C0) := b0.cell rfl
      have c0_1 : w9.cell? ⟨w.heap.size, 1, none⟩ = some (.slice A0 ts0.length c0) := b0.cell rfl
      have l1 := b1.lt
      have c1_0 : w9.cell? ⟨w6.heap.size, 0, none⟩ = some (.int .i64 C0) := b1.cell rfl
      have c1_1 : w9.cell? ⟨w6.heap.size, 1, none⟩ = some (.slice A5_ ts0.length c5_) := b1.cell rfl
      go_wp2_with fail
      clear l0 c0_0 c0_1 l1 c1_0 c1_1
      refine (eqInt64S_any A7_ A3_ r1 r1 r1.length r1.length c7_ c3_ w9 rfl rfl (ri_of O7.out rfl) (ri_of O3.out rfl) (by omega) (by omega)).mono ?_
      rintro e w10 ⟨rfl, hB⟩
      simp only [decide_true, Bool.and_self]
      replace b0 := b0.below hB b0.lt
      replace b1 := b1.below hB b1.lt
      replace O1 := Lib.hid (O1.out.to hB)
      replace O2 := Lib.hid (O2.out.to hB)
      replace O3 := Lib.hid (O3.out.to hB)
      replace O4 := Lib.hid (O4.out.to hB)
      replace O5 := Lib.hid (O5.out.to hB)
      replace O6 := Lib.hid (O6.out.to hB)
      replace O7 := Lib.hid (O7.out.to hB)
      replace O8 := Lib.hid (O8.out.to hB)
      have sw10 : w9.heap.size ≤ w10.heap.size := hB.size
      replace hE := Lib.hid (below_to hE.out hB)
      clear hB
      have l0 := b0.lt
      have c0_0 : w10.cell? ⟨w.heap.size, 0, none⟩ = some (.int .i64 C0) := b0.cell rfl
      have c0_1 : w10.cell? ⟨w.heap.size, 1, none⟩ = some (.slice A0 ts0.length c0) := b0.cell rfl
      have l1 := b1.lt
      have c1_0 : w10.cell? ⟨w6.heap.size, 0, none⟩ = some (.int .i64 C0) := b1.cell rfl
      have c1_1 : w10.cell? ⟨w6.heap.size, 1, none⟩ = some (.slice A5_ ts0.length c5_) := b1.cell rfl
      go_wp2_with fail
      clear l0 c0_0 c0_1 l1 c1_0 c1_1
      refine (eqInt64S_any A8_ A4_ r2 r2 r2.length r2.length c8_ c4_ w10 rfl rfl (ri_of O8.out rfl) (ri_of O4.out rfl) (by omega) (by omega)).mono ?_
      rintro e w11 ⟨rfl, hB⟩
      simp only [decide_true, Bool.and_self]
      replace b0 := b0.below hB b0.lt
      replace b1 := b1.below hB b1.lt
      replace O1 := Lib.hid (O1.out.to hB)
      replace O2 := Lib.hid (O2.out.to hB)
      replace O3 := Lib.hid (O3.out.to hB)
      replace O4 := Lib.hid (O4.out.to hB)
      replace O5 := Lib.hid (O5.out.to hB)
      replace O6 := Lib.hid (O6.out.to hB)
      replace O7 := Lib.hid (O7.out.to hB)
      replace O8 := Lib.hid (O8.out.to hB)
      have sw11 : w10.heap.size ≤ w11.heap.size := hB.size
      replace hE := Lib.hid (below_to hE.out hB)
      clear hB
      have l0 := b0.lt
      have c0_0 : w11.cell? ⟨w.heap.size, 0, none⟩ = some (.int .i64 C0) := b0.cell rfl
      have c0_1 : w11.cell? ⟨w.heap.size, 1, none⟩ = some (.slice A0 ts0.length c0) := b0.cell rfl
      have l1 := b1.lt
      have c1_0 : w11.cell? ⟨w6.heap.size, 0, none⟩ = some (.int .i64 C0) := b1.cell rfl
      have c1_1 : w11.cell? ⟨w6.heap.size, 1, none⟩ = some (.slice A5_ ts0.length c5_) := b1.cell rfl
      go_wp2_with fail
      clear l0 c0_0 c0_1 l1 c1_0 c1_1
      have hD : Below w11.heap.size w11 w11.drew := (Below.refl _ _).drew
      replace b0 := b0.below hD b0.lt
      replace b1 := b1.below hD b1.lt
      replace O1 := Lib.hid (O1.out.to hD)
      replace O2 := Lib.hid (O2.out.to hD)
      replace O3 := Lib.hid (O3.out.to hD)
      replace O4 := Lib.hid (O4.out.to hD)
      replace O5 := Lib.hid (O5.out.to hD)
      replace O6 := Lib.hid (O6.out.to hD)
      replace O7 := Lib.hid (O7.out.to hD)
      replace O8 := Lib.hid (O8.out.to hD)
      replace hE := Lib.hid (below_to hE.out hD)
      clear hD
      have d1_w11 : w11.heap.size ≤ w11.drew.heap.size := Nat.le_refl _
      have d2_w11 : w11.drew.heap.size ≤ w11.heap.size := Nat.le_refl _
      go_region_held3 (fun w_ => w_.cell? ⟨w.heap.size, 0, none⟩ = some (.int .i64 C0) ∧ w_.cell? ⟨w.heap.size, 1, none⟩ = some (.slice A0 ts0.length c0) ∧ w_.cell? ⟨w6.heap.size, 0, none⟩ = some (.int .i64 C0) ∧ w_.cell? ⟨w6.heap.size, 1, none⟩ = some (.slice A5_ ts0.length c5_)) (first | exact ⟨b0.cell rfl, b0.cell rfl, b1.cell rfl, b1.cell rfl⟩)
        (first
          | (go_at_call 17; refine (toSet_any C0 A0 ts0 ts0.length c0 w11.drew rfl (HA0.out.below hE.out) (by omega)).mono ?_; rintro e w12 ⟨v_, rfl, hO, hB⟩; obtain ⟨A9_, c9_, rfl, -, -⟩ := hO.reads; have O9 := Lib.hid (OW.of hO); clear hO; replace b0 := b0.below hB b0.lt; replace b1 := b1.below hB b1.lt; replace O1 := Lib.hid (O1.out.to hB); replace O2 := Lib.hid (O2.out.to hB); replace O3 := Lib.hid (O3.out.to hB); replace O4 := Lib.hid (O4.out.to hB); replace O5 := Lib.hid (O5.out.to hB); replace O6 := Lib.hid (O6.out.to hB); replace O7 := Lib.hid (O7.out.to hB); replace O8 := Lib.hid (O8.out.to hB); have sw12 : w11.drew.heap.size ≤ w12.heap.size := hB.size; replace hE := Lib.hid (below_to hE.out hB); clear hB)
          | (go_at_call 19; refine (eqSet_any C0 C0 A5_ A9_ ts0 ts0 ts0.length ts0.length c5_ c9_ w12 rfl rfl (rt_of O5.out rfl) (rt_of O9.out rfl) (by omega) (by omega)).mono ?_; rintro e w13 ⟨rfl, hB⟩; simp only [decide_true, Bool.and_self]; replace b0 := b0.below hB b0.lt; replace b1 := b1.below hB b1.lt; replace O1 := Lib.hid (O1.out.to hB); replace O2 := Lib.hid (O2.out.to hB); replace O3 := Lib.hid (O3.out.to hB); replace O4 := Lib.hid (O4.out.to hB); replace O5 := Lib.hid (O5.out.to hB); replace O6 := Lib.hid (O6.out.to hB); replace O7 := Lib.hid (O7.out.to hB); replace O8 := Lib.hid (O8.out.to hB); replace O9 := Lib.hid (O9.out.to hB); have sw13 : w12.heap.size ≤ w13.heap.size := hB.size; replace hE := Lib.hid (below_to hE.out hB); clear hB))
      have l0 := b0.lt
      have c0_0 : w13.cell? ⟨w.heap.size, 0, none⟩ = some (.int .i64 C0) := b0.cell rfl
      have c0_1 : w13.cell? ⟨w.heap.size, 1, none⟩ = some (.slice A0 ts0.length c0) := b0.cell rfl
      have l1 := b1.lt
      have c1_0 : w13.cell? ⟨w6.heap.size, 0, none⟩ = some (.int .i64 C0) := b1.cell rfl
      have c1_1 : w13.cell? ⟨w6.heap.size, 1, none⟩ = some (.slice A5_ ts0.length c5_) := b1.cell rfl
      go_wp2_with fail
      clear l0 c0_0 c0_1 l1 c1_0 c1_1
      refine (toInt64S_any A1 ts1 ts1.length c1 w13 rfl (HA1.out.below hE.out) (by omega)).mono ?_
      rintro e w14 ⟨v_, rfl, hO, hB⟩
      obtain ⟨A10_, c10_, rfl, -, -⟩ := hO.reads
      have O10 := Lib.hid (OW.of hO)
      clear hO
      replace b0 := b0.below hB b0.lt
      replace b1 := b1.below hB b1.lt
      replace O1 := Lib.hid (O1.out.to hB)
      replace O2 := Lib.hid (O2.out.to hB)
      replace O3 := Lib.hid (O3.out.to hB)
      replace O4 := Lib.hid (O4.out.to hB)
      replace O5 := Lib.hid (O5.out.to hB)
      replace O6 := Lib.hid (O6.out.to hB)
      replace O7 := Lib.hid (O7.out.to hB)
      replace O8 := Lib.hid (O8.out.to hB)
      replace O9 := Lib.hid (O9.out.to hB)
      have sw14 : w13.heap.size ≤ w14.heap.size := hB.size
      replace hE := Lib.hid (below_to hE.out hB)
      clear hB
      have l0 := b0.lt
      have c0_0 : w14.cell? ⟨w.heap.size, 0, none⟩ = some (.int .i64 C0) := b0.cell rfl
      have c0_1 : w14.cell? ⟨w.heap.size, 1, none⟩ = some (.slice A0 ts0.length c0) := b0.cell rfl
      have l1 := b1.lt
      have c1_0 : w14.cell? ⟨w6.heap.size, 0, none⟩ = some (.int .i64 C0) := b1.cell rfl
      have c1_1 : w14.cell? ⟨w6.heap.size, 1, none⟩ = some (.slice A5_ ts0.length c5_) := b1.cell rfl
      go_wp2_with fail
      clear l0 c0_0 c0_1 l1 c1_0 c1_1
      refine (eqInt64S_any A6_ A10_ ts1 ts1 ts1.length ts1.length c6_ c10_ w14 rfl rfl (ri_of O6.out rfl) (ri_of O10.out rfl) (by omega) (by omega)).mono ?_
      rintro e w15 ⟨rfl, hB⟩
      simp only [decide_true, Bool.and_self]
      replace b0 := b0.below hB b0.lt
      replace b1 := b1.below hB b1.lt
      replace O1 := Lib.hid (O1.out.to hB)
      replace O2 := Lib.hid (O2.out.to hB)
      replace O3 := Lib.hid (O3.out.to hB)
      replace O4 := Lib.hid (O4.out.to hB)
      replace O5 := Lib.hid (O5.out.to hB)
      replace O6 := Lib.hid (O6.out.to hB)
      replace O7 := Lib.hid (O7.out.to hB)
      replace O8 := Lib.hid (O8.out.to hB)
      replace O9 := Lib.hid (O9.out.to hB)
      replace O10 := Lib.hid (O10.out.to hB)
      have sw15 : w14.heap.size ≤ w15.heap.size := hB.size
      replace hE := Lib.hid (below_to hE.out hB)
      clear hB
      have l0 := b0.lt
      have c0_0 : w15.cell? ⟨w.heap.size, 0, none⟩ = some (.int .i64 C0) := b0.cell rfl
      have c0_1 : w15.cell? ⟨w.heap.size, 1, none⟩ = some (.slice A0 ts0.length c0) := b0.cell rfl
      have l1 := b1.lt
      have c1_0 : w15.cell? ⟨w6.heap.size, 0, none⟩ = some (.int .i64 C0) := b1.cell rfl
      have c1_1 : w15.cell? ⟨w6.heap.size, 1, none⟩ = some (.slice A5_ ts0.length c5_) := b1.cell rfl
      go_wp2_with fail
      clear l0 c0_0 c0_1 l1 c1_0 c1_1
      obtain ⟨m_O5, hm_O5⟩ : ∃ m, m = ts0.length * 4 := ⟨_, rfl⟩
      have bm_O5 : m_O5 ≤ 40000000 := by omega
      have Hm_O5 := Lib.hid hm_O5; clear hm_O5
      refine (markSet_m w5.heap.size w6.heap.size C0 (.slice A5_ ts0.length c5_) ts0.length m_O5 (tcells ts0) (1) w15 Hm_O5.out O5.out (by omega) (by omega) (by omega)).mono ?_
      rintro e w16 ⟨rfl, hO, hK⟩
      clear O5
      have O5 := Lib.hid hO
      clear hO
      replace b0 := b0.only hK (by omega)
      replace b1 := b1.only hK (by omega)
      replace O1 := Lib.hid (O1.out.only hK (by omega))
      replace O2 := Lib.hid (O2.out.only hK (by omega))
      replace O3 := Lib.hid (O3.out.only hK (by omega))
      replace O4 := Lib.hid (O4.out.only hK (by omega))
      replace O6 := Lib.hid (O6.out.only hK (by omega))
      replace O7 := Lib.hid (O7.out.only hK (by omega))
      replace O8 := Lib.hid (O8.out.only hK (by omega))
      replace O9 := Lib.hid (O9.out.only hK (by omega))
      replace O10 := Lib.hid (O10.out.only hK (by omega))
      have sw16 : w15.heap.size ≤ w16.heap.size := hK.size
      replace hE := Lib.hid (below_only hE.out hK (by omega))
      clear hK
      have l0 := b0.lt
      have c0_0 : w16.cell? ⟨w.heap.size, 0, none⟩ = some (.int .i64 C0) := b0.cell rfl
      have c0_1 : w16.cell? ⟨w.heap.size, 1, none⟩ = some (.slice A0 ts0.length c0) := b0.cell rfl
      have l1 := b1.lt
      have c1_0 : w16.cell? ⟨w6.heap.size, 0, none⟩ = some (.int .i64 C0) := b1.cell rfl
      have c1_1 : w16.cell? ⟨w6.heap.size, 1, none⟩ = some (.slice A5_ ts0.length c5_) := b1.cell rfl
      go_wp2_with fail
      clear l0 c0_0 c0_1 l1 c1_0 c1_1
      obtain ⟨m_O6, hm_O6⟩ : ∃ m, m = ts1.length * 1 := ⟨_, rfl⟩
      have bm_O6 : m_O6 ≤ 40000000 := by omega
      have Hm_O6 := Lib.hid hm_O6; clear hm_O6
      refine (markInt64S_m w7.heap.size w8.heap.size (.slice A6_ ts1.length c6_) ts1.length m_O6 (icells ts1) ((1 + (m_O5 : Int))) w16 Hm_O6.out O6.out (by omega) (by omega) (by omega)).mono ?_
      rintro e w17 ⟨rfl, hO, hK⟩
      clear O6
      have O6 := Lib.hid hO
      clear hO
      replace b0 := b0.only hK (by omega)
      replace b1 := b1.only hK (by omega)
      replace O1 := Lib.hid (O1.out.only hK (by omega))
      replace O2 := Lib.hid (O2.out.only hK (by omega))
      replace O3 := Lib.hid (O3.out.only hK (by omega))
      replace O4 := Lib.hid (O4.out.only hK (by omega))
      replace O5 := Lib.hid (O5.out.only hK (by omega))
      replace O7 := Lib.hid (O7.out.only hK (by omega))
      replace O8 := Lib.hid (O8.out.only hK (by omega))
      replace O9 := Lib.hid (O9.out.only hK (by omega))
      replace O10 := Lib.hid (O10.out.only hK (by omega))
      have sw17 : w16.heap.size ≤ w17.heap.size := hK.size
      replace hE := Lib.hid (below_only hE.out hK (by omega))
      clear hK
      have l0 := b0.lt
      have c0_0 : w17.cell? ⟨w.heap.size, 0, none⟩ = some (.int .i64 C0) := b0.cell rfl
      have c0_1 : w17.cell? ⟨w.heap.size, 1, none⟩ = some (.slice A0 ts0.length c0) := b0.cell rfl
      have l1 := b1.lt
      have c1_0 : w17.cell? ⟨w6.heap.size, 0, none⟩ = some (.int .i64 C0) := b1.cell rfl
      have c1_1 : w17.cell? ⟨w6.heap.size, 1, none⟩ = some (.slice A5_ ts0.length c5_) := b1.cell rfl
      go_wp2_with fail
      clear l0 c0_0 c0_1 l1 c1_0 c1_1
      refine (eqInt64S_any A7_ A3_ r1 r1 r1.length r1.length c7_ c3_ w17 rfl rfl (ri_of O7.out rfl) (ri_of O3.out rfl) (by omega) (by omega)).mono ?_
      rintro e w18 ⟨rfl, hB⟩
      simp only [decide_true, Bool.and_self]
      replace b0 := b0.below hB b0.lt
      replace b1 := b1.below hB b1.lt
      replace O1 := Lib.hid (O1.out.to hB)
      replace O2 := Lib.hid (O2.out.to hB)
      replace O3 := Lib.hid (O3.out.to hB)
      replace O4 := Lib.hid (O4.out.to hB)
      replace O5 := Lib.hid (O5.out.to hB)
      replace O6 := Lib.hid (O6.out.to hB)
      replace O7 := Lib.hid (O7.out.to hB)
      replace O8 := Lib.hid (O8.out.to hB)
      replace O9 := Lib.hid (O9.out.to hB)
      replace O10 := Lib.hid (O10.out.to hB)
      have sw18 : w17.heap.size ≤ w18.heap.size := hB.size
      replace hE := Lib.hid (below_to hE.out hB)
      clear hB
      have l0 := b0.lt
      have c0_0 : w18.cell? ⟨w.heap.size, 0, none⟩ = some (.int .i64 C0) := b0.cell rfl
      have c0_1 : w18.cell? ⟨w.heap.size, 1, none⟩ = some (.slice A0 ts0.length c0) := b0.cell rfl
      have l1 := b1.lt
      have c1_0 : w18.cell? ⟨w6.heap.size, 0, none⟩ = some (.int .i64 C0) := b1.cell rfl
      have c1_1 : w18.cell? ⟨w6.heap.size, 1, none⟩ = some (.slice A5_ ts0.length c5_) := b1.cell rfl
      go_wp2_with fail
      clear l0 c0_0 c0_1 l1 c1_0 c1_1
      refine (eqInt64S_any A8_ A4_ r2 r2 r2.length r2.length c8_ c4_ w18 rfl rfl (ri_of O8.out rfl) (ri_of O4.out rfl) (by omega) (by omega)).mono ?_
      rintro e w19 ⟨rfl, hB⟩
      simp only [decide_true, Bool.and_self]
      replace b0 := b0.below hB b0.lt
      replace b1 := b1.below hB b1.lt
      replace O1 := Lib.hid (O1.out.to hB)
      replace O2 := Lib.hid (O2.out.to hB)
      replace O3 := Lib.hid (O3.out.to hB)
      replace O4 := Lib.hid (O4.out.to hB)
      replace O5 := Lib.hid (O5.out.to hB)
      replace O6 := Lib.hid (O6.out.to hB)
      replace O7 := Lib.hid (O7.out.to hB)
      replace O8 := Lib.hid (O8.out.to hB)
      replace O9 := Lib.hid (O9.out.to hB)
      replace O10 := Lib.hid (O10.out.to hB)
      have sw19 : w18.heap.size ≤ w19.heap.size := hB.size
      replace hE := Lib.hid (below_to hE.out hB)
      clear hB
      have l0 := b0.lt
      have c0_0 : w19.cell? ⟨w.heap.size, 0, none⟩ = some (.int .i64 C0) := b0.cell rfl
      have c0_1 : w19.cell? ⟨w.heap.size, 1, none⟩ = some (.slice A0 ts0.length c0) := b0.cell rfl
      have l1 := b1.lt
      have c1_0 : w19.cell? ⟨w6.heap.size, 0, none⟩ = some (.int .i64 C0) := b1.cell rfl
      have c1_1 : w19.cell? ⟨w6.heap.size, 1, none⟩ = some (.slice A5_ ts0.length c5_) := b1.cell rfl
      go_wp2_with fail
      clear l0 c0_0 c0_1 l1 c1_0 c1_1
      obtain ⟨m_O7, hm_O7⟩ : ∃ m, m = r1.length * 1 := ⟨_, rfl⟩
      have bm_O7 : m_O7 ≤ 40000000 := by omega
      have Hm_O7 := Lib.hid hm_O7; clear hm_O7
      refine (markInt64S_m loi_90 hii_90 (.slice A7_ r1.length c7_) r1.length m_O7 (icells r1) (1) w19 Hm_O7.out O7.out (by omega) (by omega) (by omega)).mono ?_
      rintro e w20 ⟨rfl, hO, hK⟩
      clear O7
      have O7 := Lib.hid hO
      clear hO
      replace b0 := b0.only hK (by omega)
      replace b1 := b1.only hK (by omega)
      replace O1 := Lib.hid (O1.out.only hK (by omega))
      replace O2 := Lib.hid (O2.out.only hK (by omega))
      replace O3 := Lib.hid (O3.out.only hK (by omega))
      replace O4 := Lib.hid (O4.out.only hK (by omega))
      replace O5 := Lib.hid (O5.out.only hK (by omega))
      replace O6 := Lib.hid (O6.out.only hK (by omega))
      replace O8 := Lib.hid (O8.out.only hK (by omega))
      replace O9 := Lib.hid (O9.out.only hK (by omega))
      replace O10 := Lib.hid (O10.out.only hK (by omega))
      have sw20 : w19.heap.size ≤ w20.heap.size := hK.size
      replace hE := Lib.hid (below_only hE.out hK (by omega))
      clear hK
      have l0 := b0.lt
      have c0_0 : w20.cell? ⟨w.heap.size, 0, none⟩ = some (.int .i64 C0) := b0.cell rfl
      have c0_1 : w20.cell? ⟨w.heap.size, 1, none⟩ = some (.slice A0 ts0.length c0) := b0.cell rfl
      have l1 := b1.lt
      have c1_0 : w20.cell? ⟨w6.heap.size, 0, none⟩ = some (.int .i64 C0) := b1.cell rfl
      have c1_1 : w20.cell? ⟨w6.heap.size, 1, none⟩ = some (.slice A5_ ts0.length c5_) := b1.cell rfl
      go_wp2_with fail
      clear l0 c0_0 c0_1 l1 c1_0 c1_1
      obtain ⟨m_O8, hm_O8⟩ : ∃ m, m = r2.length * 1 := ⟨_, rfl⟩
      have bm_O8 : m_O8 ≤ 40000000 := by omega
      have Hm_O8 := Lib.hid hm_O8; clear hm_O8
      refine (markInt64S_m loi_91 hii_91 (.slice A8_ r2.length c8_) r2.length m_O8 (icells r2) ((1 + (m_O7 : Int))) w20 Hm_O8.out O8.out (by omega) (by omega) (by omega)).mono ?_
      rintro e w21 ⟨rfl, hO, hK⟩
      clear O8
      have O8 := Lib.hid hO
      clear hO
      replace b0 := b0.only hK (by omega)
      replace b1 := b1.only hK (by omega)
      replace O1 := Lib.hid (O1.out.only hK (by omega))
      replace O2 := Lib.hid (O2.out.only hK (by omega))
      replace O3 := Lib.hid (O3.out.only hK (by omega))
      replace O4 := Lib.hid (O4.out.only hK (by omega))
      replace O5 := Lib.hid (O5.out.only hK (by omega))
      replace O6 := Lib.hid (O6.out.only hK (by omega))
      replace O7 := Lib.hid (O7.out.only hK (by omega))
      replace O9 := Lib.hid (O9.out.only hK (by omega))
      replace O10 := Lib.hid (O10.out.only hK (by omega))
      have sw21 : w20.heap.size ≤ w21.heap.size := hK.size
      replace hE := Lib.hid (below_only hE.out hK (by omega))
      clear hK
      have l0 := b0.lt
      have c0_0 : w21.cell? ⟨w.heap.size, 0, none⟩ = some (.int .i64 C0) := b0.cell rfl
      have c0_1 : w21.cell? ⟨w.heap.size, 1, none⟩ = some (.slice A0 ts0.length c0) := b0.cell rfl
      have l1 := b1.lt
      have c1_0 : w21.cell? ⟨w6.heap.size, 0, none⟩ = some (.int .i64 C0) := b1.cell rfl
      have c1_1 : w21.cell? ⟨w6.heap.size, 1, none⟩ = some (.slice A5_ ts0.length c5_) := b1.cell rfl
      go_wp2_with fail
      clear l0 c0_0 c0_1 l1 c1_0 c1_1
      refine (heldInt64S_m loi_90 hii_90 (.slice A7_ r1.length c7_) r1.length m_O7 (1) w21 Hm_O7.out O7.out (by omega) (by omega) (by omega)).mono ?_
      rintro e w22 ⟨rfl, hB⟩
      replace b0 := b0.below hB b0.lt
      replace b1 := b1.below hB b1.lt
      replace O1 := Lib.hid (O1.out.to hB)
      replace O2 := Lib.hid (O2.out.to hB)
      replace O3 := Lib.hid (O3.out.to hB)
      replace O4 := Lib.hid (O4.out.to hB)
      replace O5 := Lib.hid (O5.out.to hB)
      replace O6 := Lib.hid (O6.out.to hB)
      replace O7 := Lib.hid (O7.out.to hB)
      replace O8 := Lib.hid (O8.out.to hB)
      replace O9 := Lib.hid (O9.out.to hB)
      replace O10 := Lib.hid (O10.out.to hB)
      have sw22 : w21.heap.size ≤ w22.heap.size := hB.size
      replace hE := Lib.hid (below_to hE.out hB)
      clear hB
      have l0 := b0.lt
      have c0_0 : w22.cell? ⟨w.heap.size, 0, none⟩ = some (.int .i64 C0) := b0.cell rfl
      have c0_1 : w22.cell? ⟨w.heap.size, 1, none⟩ = some (.slice A0 ts0.length c0) := b0.cell rfl
      have l1 := b1.lt
      have c1_0 : w22.cell? ⟨w6.heap.size, 0, none⟩ = some (.int .i64 C0) := b1.cell rfl
      have c1_1 : w22.cell? ⟨w6.heap.size, 1, none⟩ = some (.slice A5_ ts0.length c5_) := b1.cell rfl
      go_wp2_with fail
      clear l0 c0_0 c0_1 l1 c1_0 c1_1
      refine (heldInt64S_m loi_91 hii_91 (.slice A8_ r2.length c8_) r2.length m_O8 ((1 + (m_O7 : Int))) w22 Hm_O8.out O8.out (by omega) (by omega) (by omega)).mono ?_
      rintro e w23 ⟨rfl, hB⟩
      replace b0 := b0.below hB b0.lt
      replace b1 := b1.below hB b1.lt
      replace O1 := Lib.hid (O1.out.to hB)
      replace O2 := Lib.hid (O2.out.to hB)
      replace O3 := Lib.hid (O3.out.to hB)
      replace O4 := Lib.hid (O4.out.to hB)
      replace O5 := Lib.hid (O5.out.to hB)
      replace O6 := Lib.hid (O6.out.to hB)
      replace O7 := Lib.hid (O7.out.to hB)
      replace O8 := Lib.hid (O8.out.to hB)
      replace O9 := Lib.hid (O9.out.to hB)
      replace O10 := Lib.hid (O10.out.to hB)
      have sw23 : w22.heap.size ≤ w23.heap.size := hB.size
      replace hE := Lib.hid (below_to hE.out hB)
      clear hB
      have l0 := b0.lt
      have c0_0 : w23.cell? ⟨w.heap.size, 0, none⟩ = some (.int .i64 C0) := b0.cell rfl
      have c0_1 : w23.cell? ⟨w.heap.size, 1, none⟩ = some (.slice A0 ts0.length c0) := b0.cell rfl
      have l1 := b1.lt
      have c1_0 : w23.cell? ⟨w6.heap.size, 0, none⟩ = some (.int .i64 C0) := b1.cell rfl
      have c1_1 : w23.cell? ⟨w6.heap.size, 1, none⟩ = some (.slice A5_ ts0.length c5_) := b1.cell rfl
      go_wp2_with fail
      clear l0 c0_0 c0_1 l1 c1_0 c1_1
      refine (toSet_any C0 A0 ts0 ts0.length c0 w23 rfl (HA0.out.below hE.out) (by omega)).mono ?_
      rintro e w24 ⟨v_, rfl, hO, hB⟩
      obtain ⟨A11_, c11_, rfl, -, -⟩ := hO.reads
      have O11 := Lib.hid (OW.of hO)
      clear hO
      replace b0 := b0.below hB b0.lt
      replace b1 := b1.below hB b1.lt
      replace O1 := Lib.hid (O1.out.to hB)
      replace O2 := Lib.hid (O2.out.to hB)
      replace O3 := Lib.hid (O3.out.to hB)
      replace O4 := Lib.hid (O4.out.to hB)
      replace O5 := Lib.hid (O5.out.to hB)
      replace O6 := Lib.hid (O6.out.to hB)
      replace O7 := Lib.hid (O7.out.to hB)
      replace O8 := Lib.hid (O8.out.to hB)
      replace O9 := Lib.hid (O9.out.to hB)
      replace O10 := Lib.hid (O10.out.to hB)
      have sw24 : w23.heap.size ≤ w24.heap.size := hB.size
      replace hE := Lib.hid (below_to hE.out hB)
      clear hB
      have l0 := b0.lt
      have c0_0 : w24.cell? ⟨w.heap.size, 0, none⟩ = some (.int .i64 C0) := b0.cell rfl
      have c0_1 : w24.cell? ⟨w.heap.size, 1, none⟩ = some (.slice A0 ts0.length c0) := b0.cell rfl
      have l1 := b1.lt
      have c1_0 : w24.cell? ⟨w6.heap.size, 0, none⟩ = some (.int .i64 C0) := b1.cell rfl
      have c1_1 : w24.cell? ⟨w6.heap.size, 1, none⟩ = some (.slice A5_ ts0.length c5_) := b1.cell rfl
      go_wp2_with fail
      clear l0 c0_0 c0_1 l1 c1_0 c1_1
      refine (toInt64S_any A1 ts1 ts1.length c1 w24 rfl (HA1.out.below hE.out) (by omega)).mono ?_
      rintro e w25 ⟨v_, rfl, hO, hB⟩
      obtain ⟨A12_, c12_, rfl, -, -⟩ := hO.reads
      have O12 := Lib.hid (OW.of hO)
      clear hO
      replace b0 := b0.below hB b0.lt
      replace b1 := b1.below hB b1.lt
      replace O1 := Lib.hid (O1.out.to hB)
      replace O2 := Lib.hid (O2.out.to hB)
      replace O3 := Lib.hid (O3.out.to hB)
      replace O4 := Lib.hid (O4.out.to hB)
      replace O5 := Lib.hid (O5.out.to hB)
      replace O6 := Lib.hid (O6.out.to hB)
      replace O7 := Lib.hid (O7.out.to hB)
      replace O8 := Lib.hid (O8.out.to hB)
      replace O9 := Lib.hid (O9.out.to hB)
      replace O10 := Lib.hid (O10.out.to hB)
      replace O11 := Lib.hid (O11.out.to hB)
      have sw25 : w24.heap.size ≤ w25.heap.size := hB.size
      replace hE := Lib.hid (below_to hE.out hB)
      clear hB
      have l0 := b0.lt
      have c0_0 : w25.cell? ⟨w.heap.size, 0, none⟩ = some (.int .i64 C0) := b0.cell rfl
      have c0_1 : w25.cell? ⟨w.heap.size, 1, none⟩ = some (.slice A0 ts0.length c0) := b0.cell rfl
      have l1 := b1.lt
      have c1_0 : w25.cell? ⟨w6.heap.size, 0, none⟩ = some (.int .i64 C0) := b1.cell rfl
      have c1_1 : w25.cell? ⟨w6.heap.size, 1, none⟩ = some (.slice A5_ ts0.length c5_) := b1.cell rfl
      go_wp2_with fail
      clear l0 c0_0 c0_1 l1 c1_0 c1_1
      refine (implWordsOfRow_any C0 A11_ ts0 ts0.length c11_ A12_ ts1 ts1.length c12_ w25 rfl (rt_of O11.out rfl) (le_of O11.out) (by omega) rfl (ri_of O12.out rfl) (le_of O12.out) (by omega)).mono ?_
      rintro e w26 ⟨v0_, v1_, x0_, x1_, x2_, loi_260, hii_260, loi_261, hii_261, hR_, rfl, hO0, hO1, hDi_26, hli_260, hli_261, hB⟩
      have hti_260 := hO0.top
      have hti_261 := hO1.top
      obtain ⟨rfl, rfl, rfl⟩ : r1 = x0_ ∧ r2 = x1_ ∧ r3 = x2_ := (by have h_ := HR.out.symm.trans hR_; simpa using h_)
      clear hR_
      obtain ⟨A13_, c13_, rfl, -⟩ := hO0.form
      have O13 := Lib.hid hO0
      clear hO0
      obtain ⟨A14_, c14_, rfl, -⟩ := hO1.form
      have O14 := Lib.hid hO1
      clear hO1
      replace b0 := b0.below hB b0.lt
      replace b1 := b1.below hB b1.lt
      replace O1 := Lib.hid (O1.out.to hB)
      replace O2 := Lib.hid (O2.out.to hB)
      replace O3 := Lib.hid (O3.out.to hB)
      replace O4 := Lib.hid (O4.out.to hB)
      replace O5 := Lib.hid (O5.out.to hB)
      replace O6 := Lib.hid (O6.out.to hB)
      replace O7 := Lib.hid (O7.out.to hB)
      replace O8 := Lib.hid (O8.out.to hB)
      replace O9 := Lib.hid (O9.out.to hB)
      replace O10 := Lib.hid (O10.out.to hB)
      replace O11 := Lib.hid (O11.out.to hB)
      replace O12 := Lib.hid (O12.out.to hB)
      have sw26 : w25.heap.size ≤ w26.heap.size := hB.size
      replace hE := Lib.hid (below_to hE.out hB)
      clear hB
      have l0 := b0.lt
      have c0_0 : w26.cell? ⟨w.heap.size, 0, none⟩ = some (.int .i64 C0) := b0.cell rfl
      have c0_1 : w26.cell? ⟨w.heap.size, 1, none⟩ = some (.slice A0 ts0.length c0) := b0.cell rfl
      have l1 := b1.lt
      have c1_0 : w26.cell? ⟨w6.heap.size, 0, none⟩ = some (.int .i64 C0) := b1.cell rfl
      have c1_1 : w26.cell? ⟨w6.heap.size, 1, none⟩ = some (.slice A5_ ts0.length c5_) := b1.cell rfl
      go_wp2_with fail
      clear l0 c0_0 c0_1 l1 c1_0 c1_1
      refine (eqInt64S_any A13_ A3_ r1 r1 r1.length r1.length c13_ c3_ w26 rfl rfl (ri_of O13.out rfl) (ri_of O3.out rfl) (by omega) (by omega)).mono ?_
      rintro e w27 ⟨rfl, hB⟩
      simp only [decide_true, Bool.and_self]
      replace b0 := b0.below hB b0.lt
      replace b1 := b1.below hB b1.lt
      replace O1 := Lib.hid (O1.out.to hB)
      replace O2 := Lib.hid (O2.out.to hB)
      replace O3 := Lib.hid (O3.out.to hB)
      replace O4 := Lib.hid (O4.out.to hB)
      replace O5 := Lib.hid (O5.out.to hB)
      replace O6 := Lib.hid (O6.out.to hB)
      replace O7 := Lib.hid (O7.out.to hB)
      replace O8 := Lib.hid (O8.out.to hB)
      replace O9 := Lib.hid (O9.out.to hB)
      replace O10 := Lib.hid (O10.out.to hB)
      replace O11 := Lib.hid (O11.out.to hB)
      replace O12 := Lib.hid (O12.out.to hB)
      replace O13 := Lib.hid (O13.out.to hB)
      replace O14 := Lib.hid (O14.out.to hB)
      have sw27 : w26.heap.size ≤ w27.heap.size := hB.size
      replace hE := Lib.hid (below_to hE.out hB)
      clear hB
      have l0 := b0.lt
      have c0_0 : w27.cell? ⟨w.heap.size, 0, none⟩ = some (.int .i64 C0) := b0.cell rfl
      have c0_1 : w27.cell? ⟨w.heap.size, 1, none⟩ = some (.slice A0 ts0.length c0) := b0.cell rfl
      have l1 := b1.lt
      have c1_0 : w27.cell? ⟨w6.heap.size, 0, none⟩ = some (.int .i64 C0) := b1.cell rfl
      have c1_1 : w27.cell? ⟨w6.heap.size, 1, none⟩ = some (.slice A5_ ts0.length c5_) := b1.cell rfl
      go_wp2_with fail
      clear l0 c0_0 c0_1 l1 c1_0 c1_1
      refine (eqInt64S_any A14_ A4_ r2 r2 r2.length r2.length c14_ c4_ w27 rfl rfl (ri_of O14.out rfl) (ri_of O4.out rfl) (by omega) (by omega)).mono ?_
      rintro e w28 ⟨rfl, hB⟩
      simp only [decide_true, Bool.and_self]
      replace b0 := b0.below hB b0.lt
      replace b1 := b1.below hB b1.lt
      replace O1 := Lib.hid (O1.out.to hB)
      replace O2 := Lib.hid (O2.out.to hB)
      replace O3 := Lib.hid (O3.out.to hB)
      replace O4 := Lib.hid (O4.out.to hB)
      replace O5 := Lib.hid (O5.out.to hB)
      replace O6 := Lib.hid (O6.out.to hB)
      replace O7 := Lib.hid (O7.out.to hB)
      replace O8 := Lib.hid (O8.out.to hB)
      replace O9 := Lib.hid (O9.out.to hB)
      replace O10 := Lib.hid (O10.out.to hB)
      replace O11 := Lib.hid (O11.out.to hB)
      replace O12 := Lib.hid (O12.out.to hB)
      replace O13 := Lib.hid (O13.out.to hB)
      replace O14 := Lib.hid (O14.out.to hB)
      have sw28 : w27.heap.size ≤ w28.heap.size := hB.size
      replace hE := Lib.hid (below_to hE.out hB)
      clear hB
      have l0 := b0.lt
      have c0_0 : w28.cell? ⟨w.heap.size, 0, none⟩ = some (.int .i64 C0) := b0.cell rfl
      have c0_1 : w28.cell? ⟨w.heap.size, 1, none⟩ = some (.slice A0 ts0.length c0) := b0.cell rfl
      have l1 := b1.lt
      have c1_0 : w28.cell? ⟨w6.heap.size, 0, none⟩ = some (.int .i64 C0) := b1.cell rfl
      have c1_1 : w28.cell? ⟨w6.heap.size, 1, none⟩ = some (.slice A5_ ts0.length c5_) := b1.cell rfl
      go_wp2_with fail
      clear l0 c0_0 c0_1 l1 c1_0 c1_1
      refine (heldInt64S_m loi_90 hii_90 (.slice A7_ r1.length c7_) r1.length m_O7 (1) w28 Hm_O7.out O7.out (by omega) (by omega) (by omega)).mono ?_
      rintro e w29 ⟨rfl, hB⟩
      replace b0 := b0.below hB b0.lt
      replace b1 := b1.below hB b1.lt
      replace O1 := Lib.hid (O1.out.to hB)
      replace O2 := Lib.hid (O2.out.to hB)
      replace O3 := Lib.hid (O3.out.to hB)
      replace O4 := Lib.hid (O4.out.to hB)
      replace O5 := Lib.hid (O5.out.to hB)
      replace O6 := Lib.hid (O6.out.to hB)
      replace O7 := Lib.hid (O7.out.to hB)
      replace O8 := Lib.hid (O8.out.to hB)
      replace O9 := Lib.hid (O9.out.to hB)
      replace O10 := Lib.hid (O10.out.to hB)
      replace O11 := Lib.hid (O11.out.to hB)
      replace O12 := Lib.hid (O12.out.to hB)
      replace O13 := Lib.hid (O13.out.to hB)
      replace O14 := Lib.hid (O14.out.to hB)
      have sw29 : w28.heap.size ≤ w29.heap.size := hB.size
      replace hE := Lib.hid (below_to hE.out hB)
      clear hB
      have l0 := b0.lt
      have c0_0 : w29.cell? ⟨w.heap.size, 0, none⟩ = some (.int .i64 C0) := b0.cell rfl
      have c0_1 : w29.cell? ⟨w.heap.size, 1, none⟩ = some (.slice A0 ts0.length c0) := b0.cell rfl
      have l1 := b1.lt
      have c1_0 : w29.cell? ⟨w6.heap.size, 0, none⟩ = some (.int .i64 C0) := b1.cell rfl
      have c1_1 : w29.cell? ⟨w6.heap.size, 1, none⟩ = some (.slice A5_ ts0.length c5_) := b1.cell rfl
      go_wp2_with fail
      clear l0 c0_0 c0_1 l1 c1_0 c1_1
      refine (heldInt64S_m loi_91 hii_91 (.slice A8_ r2.length c8_) r2.length m_O8 ((1 + (m_O7 : Int))) w29 Hm_O8.out O8.out (by omega) (by omega) (by omega)).mono ?_
      rintro e w30 ⟨rfl, hB⟩
      replace b0 := b0.below hB b0.lt
      replace b1 := b1.below hB b1.lt
      replace O1 := Lib.hid (O1.out.to hB)
      replace O2 := Lib.hid (O2.out.to hB)
      replace O3 := Lib.hid (O3.out.to hB)
      replace O4 := Lib.hid (O4.out.to hB)
      replace O5 := Lib.hid (O5.out.to hB)
      replace O6 := Lib.hid (O6.out.to hB)
      replace O7 := Lib.hid (O7.out.to hB)
      replace O8 := Lib.hid (O8.out.to hB)
      replace O9 := Lib.hid (O9.out.to hB)
      replace O10 := Lib.hid (O10.out.to hB)
      replace O11 := Lib.hid (O11.out.to hB)
      replace O12 := Lib.hid (O12.out.to hB)
      replace O13 := Lib.hid (O13.out.to hB)
      replace O14 := Lib.hid (O14.out.to hB)
      have sw30 : w29.heap.size ≤ w30.heap.size := hB.size
      replace hE := Lib.hid (below_to hE.out hB)
      clear hB
      go_wp2_with fail
      go_ret
      exact ⟨rfl, hE.out⟩
end Go.Proofs.Ytaidmloaoogmoaa

/-
  Parts of the proof, in their order: LawFirstRow, Open.
-/
import Derived.Test.YtenlcakpcbmmdaaPk4
import Derived.Deep.RegionHeld3
import Derived.Test.YtenlcakpcbmmdaaPk1
import Derived.ProofKit
import Derived.OpenShut
import Derived.ShutString
import Derived.ChangeOld
import Derived.SizedLaws
import Derived.ChangeSlices
import Derived.Deep.Slices
namespace Go.Proofs.Ytenlcakpcbmmdaa
open Go Go.RowKit Go.Proofs
set_option linter.unusedVariables false
set_option linter.unusedSimpArgs false
set_option maxHeartbeats 16000000 in
set_option maxRecDepth 100000 in
theorem lawFirstRow_any (w : World) (C0 : Int) (A0 : Option Addr) (ts0 : List T4) (n0 c0 : Nat) (hn0 : n0 = ts0.length) (hA0 : RT w A0 ts0) (hnc0 : n0 ≤ c0) (hl0 : n0 ≤ 35184372088832) (hC0 : -9223372036854775808 ≤ C0 ∧ C0 ≤ 9223372036854775807) (A1 : Option Addr) (ts1 : List Int) (n1 c1 : Nat) (hn1 : n1 = ts1.length) (hA1 : RI w A1 ts1) (hnc1 : n1 ≤ c1) (hl1 : n1 ≤ 35184372088832) :
    Calls Try.prog 6 #[.agg #[.int .i64 C0, .slice A0 n0 c0], .slice A1 n1 c1] w fun e w' => e = .returned (.bool true) ∧ Below w.heap.size w w' := by
  subst hn0
  have HA0 := Lib.hid hA0; clear hA0
  subst hn1
  have HA1 := Lib.hid hA1; clear hA1
  by_cases hbig0 : (1048576 : Int) < ((ts1.length : Nat) : Int)
  · go_enter Try.func6, Try.ntmps6
    go_wp2_with fail
    go_ret
    exact ⟨rfl, by simpa using (Below.refl _ _).alloc (Nat.le_refl _) _⟩
  · replace hbig0 : ((ts1.length : Nat) : Int) ≤ 1048576 := by omega
    by_cases hbig1 : (1048576 : Int) < ((ts0.length : Nat) : Int)
    · go_enter Try.func6, Try.ntmps6
      go_wp2_with fail
      refine namec1 ?_
      intro w1 b0 hz hB
      have tw1 : w.heap.size + 1 ≤ w1.heap.size := by omega
      clear hz
      have sw1 : w.heap.size ≤ w1.heap.size := hB.size
      have hE := Lib.hid (hB)
      clear hB
      refine (szSet_any C0 A0 ts0.length c0 (1048576) w1 (by omega) (by omega) (by omega)).mono ?_
      rintro e w2 ⟨rfl, hB⟩
      rw [if_pos (show (1048576 : Int) < (ts0.length : Nat) by omega)]
      replace b0 := b0.below hB b0.lt
      have sw2 : w1.heap.size ≤ w2.heap.size := hB.size
      replace hE := Lib.hid (below_to hE.out hB)
      clear hB
      go_wp2_with fail
      go_ret
      exact ⟨rfl, hE.out⟩
    · replace hbig1 : ((ts0.length : Nat) : Int) ≤ 1048576 := by omega
      obtain ⟨r_, hr_⟩ : ∃ r, firstR C0 ts0 ts1 = r := ⟨_, rfl⟩
      obtain ⟨r1, r2⟩ := r_
      have hb1 : r1.length ≤ 1048576 := by have h_ := firstR_len C0 ts0 ts1; rw [hr_] at h_; exact h_
      have HR := Lib.hid hr_; clear hr_
      go_enter Try.func6, Try.ntmps6
      go_wp2_with fail
      refine namec1 ?_
      intro w1 b0 hz hB
      have tw1 : w.heap.size + 1 ≤ w1.heap.size := by omega
      clear hz
      have sw1 : w.heap.size ≤ w1.heap.size := hB.size
      have hE := Lib.hid (hB)
      clear hB
      refine (szSet_any C0 A0 ts0.length c0 (1048576) w1 (by omega) (by omega) (by omega)).mono ?_
      rintro e w2 ⟨rfl, hB⟩
      rw [if_neg (show ¬ (1048576 : Int) < (ts0.length : Nat) by omega)]
      replace b0 := b0.below hB b0.lt
      have sw2 : w1.heap.size ≤ w2.heap.size := hB.size
      replace hE := Lib.hid (below_to hE.out hB)
      clear hB
      have l0 := b0.lt
      have c0_0 : w2.cell? ⟨w.heap.size, 0, none⟩ = some (.int .i64 C0) := b0.cell rfl
      have c0_1 : w2.cell? ⟨w.heap.size, 1, none⟩ = some (.slice A0 ts0.length c0) := b0.cell rfl
      go_wp2_with fail
      clear l0 c0_0 c0_1
      refine (toSet_any C0 A0 ts0 ts0.length c0 w2 rfl (HA0.out.below hE.out) (by omega)).mono ?_
      rintro e w3 ⟨v_, rfl, hO, hB⟩
      obtain ⟨A1_, c1_, rfl, -, -⟩ := hO.reads
      have O1 := Lib.hid (OW.of hO)
      clear hO
      replace b0 := b0.below hB b0.lt
      have sw3 : w2.heap.size ≤ w3.heap.size := hB.size
      replace hE := Lib.hid (below_to hE.out hB)
      clear hB
      have l0 := b0.lt
      have c0_0 : w3.cell? ⟨w.heap.size, 0, none⟩ = some (.int .i64 C0) := b0.cell rfl
      have c0_1 : w3.cell? ⟨w.heap.size, 1, none⟩ = some (.slice A0 ts0.length c0) := b0.cell rfl
      go_wp2_with fail
      clear l0 c0_0 c0_1
      refine (toInt64S_any A1 ts1 ts1.length c1 w3 rfl (HA1.out.below hE.out) (by omega)).mono ?_
      rintro e w4 ⟨v_, rfl, hO, hB⟩
      obtain ⟨A2_, c2_, rfl, -, -⟩ := hO.reads
      have O2 := Lib.hid (OW.of hO)
      clear hO
      replace b0 := b0.below hB b0.lt
      replace O1 := Lib.hid (O1.out.to hB)
      have sw4 : w3.heap.size ≤ w4.heap.size := hB.size
      replace hE := Lib.hid (below_to hE.out hB)
      clear hB
      have l0 := b0.lt
      have c0_0 : w4.cell? ⟨w.heap.size, 0, none⟩ = some (.int .i64 C0) := b0.cell rfl
      have c0_1 : w4.cell? ⟨w.heap.size, 1, none⟩ = some (.slice A0 ts0.length c0) := b0.cell rfl
      go_wp2_with fail
      clear l0 c0_0 c0_1
      refine (specFirstRow_any C0 A1_ ts0 ts0.length c1_ A2_ ts1 ts1.length c2_ w4 rfl (rt_of O1.out rfl) (le_of O1.out) (by omega) rfl (ri_of O2.out rfl) (le_of O2.out) (by omega)).mono ?_
      rintro e w5 ⟨v0_, x0_, x1_, hR_, rfl, hO0, hB⟩
      obtain ⟨rfl, rfl⟩ : r1 = x0_ ∧ r2 = x1_ := (by have h_ := HR.out.symm.trans hR_; simpa using h_)
      clear hR_
      obtain ⟨A3_, c3_, rfl, -⟩ := hO0.form
      have O3 := Lib.hid hO0
      clear hO0
      replace b0 := b0.below hB b0.lt
      replace O1 := Lib.hid (O1.out.to hB)
      replace O2 := Lib.hid (O2.out.to hB)
      have sw5 : w4.heap.size ≤ w5.heap.size := hB.size
      replace hE := Lib.hid (below_to hE.out hB)
      clear hB
      have l0 := b0.lt
      have c0_0 : w5.cell? ⟨w.heap.size, 0, none⟩ = some (.int .i64 C0) := b0.cell rfl
      have c0_1 : w5.cell? ⟨w.heap.size, 1, none⟩ = some (.slice A0 ts0.length c0) := b0.cell rfl
      go_wp2_with fail
      clear l0 c0_0 c0_1
      refine (toSet_any C0 A0 ts0 ts0.length c0 w5 rfl (HA0.out.below hE.out) (by omega)).mono ?_
      rintro e w6 ⟨v_, rfl, hO, hB⟩
      obtain ⟨A4_, c4_, rfl, -, -⟩ := hO.reads
      have O4 := Lib.hid (OW.of hO)
      clear hO
      replace b0 := b0.below hB b0.lt
      replace O1 := Lib.hid (O1.out.to hB)
      replace O2 := Lib.hid (O2.out.to hB)
      replace O3 := Lib.hid (O3.out.to hB)
      have sw6 : w5.heap.size ≤ w6.heap.size := hB.size
      replace hE := Lib.hid (below_to hE.out hB)
      clear hB
      have l0 := b0.lt
      have c0_0 : w6.cell? ⟨w.heap.size, 0, none⟩ = some (.int .i64 C0) := b0.cell rfl
      have c0_1 : w6.cell? ⟨w.heap.size, 1, none⟩ = some (.slice A0 ts0.length c0) := b0.cell rfl
      go_wp2_with fail
      clear l0 c0_0 c0_1
      refine namec1 ?_
      intro w7 b1 hz hB
      have tw7 : w6.heap.size + 1 ≤ w7.heap.size := by omega
      clear hz
      replace b0 := b0.below hB b0.lt
      replace O1 := Lib.hid (O1.out.to hB)
      replace O2 := Lib.hid (O2.out.to hB)
      replace O3 := Lib.hid (O3.out.to hB)
      replace O4 := Lib.hid (O4.out.to hB)
      have sw7 : w6.heap.size ≤ w7.heap.size := hB.size
      replace hE := Lib.hid (below_to hE.out hB)
      clear hB
      refine (toInt64S_any A1 ts1 ts1.length c1 w7 rfl (HA1.out.below hE.out) (by omega)).mono ?_
      rintro e w8 ⟨v_, rfl, hO, hB⟩
      obtain ⟨A5_, c5_, rfl, -, -⟩ := hO.reads
      have O5 := Lib.hid (OW.of hO)
      clear hO
      replace b0 := b0.below hB b0.lt
      replace b1 := b1.below hB b1.lt
      replace O1 := Lib.hid (O1.out.to hB)
      replace O2 := Lib.hid (O2.out.to hB)
      replace O3 := Lib.hid (O3.out.to hB)
      replace O4 := Lib.hid (O4.out.to hB)
      have sw8 : w7.heap.size ≤ w8.heap.size := hB.size
      replace hE := Lib.hid (below_to hE.out hB)
      clear hB
      have l0 := b0.lt
      have c0_0 : w8.cell? ⟨w.heap.size, 0, none⟩ = some (.int .i64 C0) := b0.cell rfl
      have c0_1 : w8.cell? ⟨w.heap.size, 1, none⟩ = some (.slice A0 ts0.length c0) := b0.cell rfl
      have l1 := b1.lt
      have c1_0 : w8.cell? ⟨w6.heap.size, 0, none⟩ = some (.int .i64 C0) := b1.cell rfl
      have c1_1 : w8.cell? ⟨w6.heap.size, 1, none⟩ = some (.slice A4_ ts0.length c4_) := b1.cell rfl
      go_wp2_with fail
      clear l0 c0_0 c0_1 l1 c1_0 c1_1
      refine (implFirstRow_any C0 A4_ ts0 ts0.length c4_ A5_ ts1 ts1.length c5_ w8 rfl (rt_of O4.out rfl) (le_of O4.out) (by omega) rfl (ri_of O5.out rfl) (le_of O5.out) (by omega)).mono ?_
      rintro e w9 ⟨v0_, x0_, x1_, hR_, rfl, hO0, hB⟩
      obtain ⟨rfl, rfl⟩ : r1 = x0_ ∧ r2 = x1_ := (by have h_ := HR.out.symm.trans hR_; simpa using h_)
      clear hR_
      obtain ⟨A6_, c6_, rfl, -⟩ := hO0.form
      have O6 := Lib.hid hO0
      clear hO0
      replace b0 := b0.below hB b0.lt
      replace b1 := b1.below hB b1.lt
      replace O1 := Lib.hid (O1.out.to hB)
      replace O2 := Lib.hid (O2.out.to hB)
      replace O3 := Lib.hid (O3.out.to hB)
      replace O4 := Lib.hid (O4.out.to hB)
      replace O5 := Lib.hid (O5.out.to hB)
      have sw9 : w8.heap.size ≤ w9.heap.size := hB.size
      replace hE := Lib.hid (below_to hE.out hB)
      clear hB
      have l0 := b0.lt
      have c0_0 : w9.cell? ⟨w.heap.size, 0, none⟩ = some (.int .i64 C0) := b0.cell rfl
      have c0_1 : w9.cell? ⟨w.heap.size, 1, none⟩ = some (.slice A0 ts0.length c0) := b0.cell rfl
      have l1 := b1.lt
      have c1_0 : w9.cell? ⟨w6.heap.size, 0, none⟩ = some (.int .i64 C0) := b1.cell rfl
      have c1_1 : w9.cell? ⟨w6.heap.size, 1, none⟩ = some (.slice A4_ ts0.length c4_) := b1.cell rfl
      go_wp2_with fail
      clear l0 c0_0 c0_1 l1 c1_0 c1_1
      refine (eqInt64S_any A6_ A3_ r1 r1 r1.length r1.length c6_ c3_ w9 rfl rfl (ri_of O6.out rfl) (ri_of O3.out rfl) (by omega) (by omega)).mono ?_
      rintro e w10 ⟨rfl, hB⟩
      simp only [decide_true, Bool.and_self]
      replace b0 := b0.below hB b0.lt
      replace b1 := b1.below hB b1.lt
      replace O1 := Lib.hid (O1.out.to hB)
      replace O2 := Lib.hid (O2.out.to hB)
      replace O3 := Lib.hid (O3.out.to hB)
      replace O4 := Lib.hid (O4.out.to hB)
      replace O5 := Lib.hid (O5.out.to hB)
      replace O6 := Lib.hid (O6.out.to hB)
      have sw10 : w9.heap.size ≤ w10.heap.size := hB.size
      replace hE := Lib.hid (below_to hE.out hB)
      clear hB
      have l0 := b0.lt
      have c0_0 : w10.cell? ⟨w.heap.size, 0, none⟩ = some (.int .i64 C0) := b0.cell rfl
      have c0_1 : w10.cell? ⟨w.heap.size, 1, none⟩ = some (.slice A0 ts0.length c0) := b0.cell rfl
      have l1 := b1.lt
      have c1_0 : w10.cell? ⟨w6.heap.size, 0, none⟩ = some (.int .i64 C0) := b1.cell rfl
      have c1_1 : w10.cell? ⟨w6.heap.size, 1, none⟩ = some (.slice A4_ ts0.length c4_) := b1.cell rfl
      go_wp2_with fail
      clear l0 c0_0 c0_1 l1 c1_0 c1_1
      have hD : Below w10.heap.size w10 w10.drew := (Below.refl _ _).drew
      replace b0 := b0.below hD b0.lt
      replace b1 := b1.below hD b1.lt
      replace O1 := Lib.hid (O1.out.to hD)
      replace O2 := Lib.hid (O2.out.to hD)
      replace O3 := Lib.hid (O3.out.to hD)
      replace O4 := Lib.hid (O4.out.to hD)
      replace O5 := Lib.hid (O5.out.to hD)
      replace O6 := Lib.hid (O6.out.to hD)
      replace hE := Lib.hid (below_to hE.out hD)
      clear hD
      have d1_w10 : w10.heap.size ≤ w10.drew.heap.size := Nat.le_refl _
      have d2_w10 : w10.drew.heap.size ≤ w10.heap.size := Nat.le_refl _
      go_region_held3 (fun w_ => w_.cell? ⟨w.heap.size, 0, none⟩ = some (.int .i64 C0) ∧ w_.cell? ⟨w.heap.size, 1, none⟩ = some (.slice A0 ts0.length c0) ∧ w_.cell? ⟨w6.heap.size, 0, none⟩ = some (.int .i64 C0) ∧ w_.cell? ⟨w6.heap.size, 1, none⟩ = some (.slice A4_ ts0.length c4_)) (first | exact ⟨b0.cell rfl, b0.cell rfl, b1.cell rfl, b1.cell rfl⟩)
        (first
          | (go_at_call 14; refine (toSet_any C0 A0 ts0 ts0.length c0 w10.drew rfl (HA0.out.below hE.out) (by omega)).mono ?_; rintro e w11 ⟨v_, rfl, hO, hB⟩; obtain ⟨A7_, c7_, rfl, -, -⟩ := hO.reads; have O7 := Lib.hid (OW.of hO); clear hO; replace b0 := b0.below hB b0.lt; replace b1 := b1.below hB b1.lt; replace O1 := Lib.hid (O1.out.to hB); replace O2 := Lib.hid (O2.out.to hB); replace O3 := Lib.hid (O3.out.to hB); replace O4 := Lib.hid (O4.out.to hB); replace O5 := Lib.hid (O5.out.to hB); replace O6 := Lib.hid (O6.out.to hB); have sw11 : w10.drew.heap.size ≤ w11.heap.size := hB.size; replace hE := Lib.hid (below_to hE.out hB); clear hB)
          | (go_at_call 16; refine (eqSet_any C0 C0 A4_ A7_ ts0 ts0 ts0.length ts0.length c4_ c7_ w11 rfl rfl (rt_of O4.out rfl) (rt_of O7.out rfl) (by omega) (by omega)).mono ?_; rintro e w12 ⟨rfl, hB⟩; simp only [decide_true, Bool.and_self]; replace b0 := b0.below hB b0.lt; replace b1 := b1.below hB b1.lt; replace O1 := Lib.hid (O1.out.to hB); replace O2 := Lib.hid (O2.out.to hB); replace O3 := Lib.hid (O3.out.to hB); replace O4 := Lib.hid (O4.out.to hB); replace O5 := Lib.hid (O5.out.to hB); replace O6 := Lib.hid (O6.out.to hB); replace O7 := Lib.hid (O7.out.to hB); have sw12 : w11.heap.size ≤ w12.heap.size := hB.size; replace hE := Lib.hid (below_to hE.out hB); clear hB))
      have l0 := b0.lt
      have c0_0 : w12.cell? ⟨w.heap.size, 0, none⟩ = some (.int .i64 C0) := b0.cell rfl
      have c0_1 : w12.cell? ⟨w.heap.size, 1, none⟩ = some (.slice A0 ts0.length c0) := b0.cell rfl
      have l1 := b1.lt
      have c1_0 : w12.cell? ⟨w6.heap.size, 0, none⟩ = some (.int .i64 C0) := b1.cell rfl
      have c1_1 : w12.cell? ⟨w6.heap.size, 1, none⟩ = some (.slice A4_ ts0.length c4_) := b1.cell rfl
      go_wp2_with fail
      clear l0 c0_0 c0_1 l1 c1_0 c1_1
      refine (toInt64S_any A1 ts1 ts1.length c1 w12 rfl (HA1.out.below hE.out) (by omega)).mono ?_
      rintro e w13 ⟨v_, rfl, hO, hB⟩
      obtain ⟨A8_, c8_, rfl, -, -⟩ := hO.reads
      have O8 := Lib.hid (OW.of hO)
      clear hO
      replace b0 := b0.below hB b0.lt
      replace b1 := b1.below hB b1.lt
      replace O1 := Lib.hid (O1.out.to hB)
      replace O2 := Lib.hid (O2.out.to hB)
      replace O3 := Lib.hid (O3.out.to hB)
      replace O4 := Lib.hid (O4.out.to hB)
      replace O5 := Lib.hid (O5.out.to hB)
      replace O6 := Lib.hid (O6.out.to hB)
      replace O7 := Lib.hid (O7.out.to hB)
      have sw13 : w12.heap.size ≤ w13.heap.size := hB.size
      replace hE := Lib.hid (below_to hE.out hB)
      clear hB
      have l0 := b0.lt
      have c0_0 : w13.cell? ⟨w.heap.size, 0, none⟩ = some (.int .i64 C0) := b0.cell rfl
      have c0_1 : w13.cell? ⟨w.heap.size, 1, none⟩ = some (.slice A0 ts0.length c0) := b0.cell rfl
      have l1 := b1.lt
      have c1_0 : w13.cell? ⟨w6.heap.size, 0, none⟩ = some (.int .i64 C0) := b1.cell rfl
      have c1_1 : w13.cell? ⟨w6.heap.size, 1, none⟩ = some (.slice A4_ ts0.length c4_) := b1.cell rfl
      go_wp2_with fail
      clear l0 c0_0 c0_1 l1 c1_0 c1_1
      refine (eqInt64S_any A5_ A8_ ts1 ts1 ts1.length ts1.length c5_ c8_ w13 rfl rfl (ri_of O5.out rfl) (ri_of O8.out rfl) (by omega) (by omega)).mono ?_
      rintro e w14 ⟨rfl, hB⟩
      simp only [decide_true, Bool.and_self]
      replace b0 := b0.below hB b0.lt
      replace b1 := b1.below hB b1.lt
      replace O1 := Lib.hid (O1.out.to hB)
      replace O2 := Lib.hid (O2.out.to hB)
      replace O3 := Lib.hid (O3.out.to hB)
      replace O4 := Lib.hid (O4.out.to hB)
      replace O5 := Lib.hid (O5.out.to hB)
      replace O6 := Lib.hid (O6.out.to hB)
      replace O7 := Lib.hid (O7.out.to hB)
      replace O8 := Lib.hid (O8.out.to hB)
      have sw14 : w13.heap.size ≤ w14.heap.size := hB.size
      replace hE := Lib.hid (below_to hE.out hB)
      clear hB
      have l0 := b0.lt
      have c0_0 : w14.cell? ⟨w.heap.size, 0, none⟩ = some (.int .i64 C0) := b0.cell rfl
      have c0_1 : w14.cell? ⟨w.heap.size, 1, none⟩ = some (.slice A0 ts0.length c0) := b0.cell rfl
      have l1 := b1.lt
      have c1_0 : w14.cell? ⟨w6.heap.size, 0, none⟩ = some (.int .i64 C0) := b1.cell rfl
      have c1_1 : w14.cell? ⟨w6.heap.size, 1, none⟩ = some (.slice A4_ ts0.length c4_) := b1.cell rfl
      go_wp2_with fail
      clear l0 c0_0 c0_1 l1 c1_0 c1_1
      obtain ⟨m_O4, hm_O4⟩ : ∃ m, m = ts0.length * 4 := ⟨_, rfl⟩
      have bm_O4 : m_O4 ≤ 40000000 := by omega
      have Hm_O4 := Lib.hid hm_O4; clear hm_O4
      refine (markSet_m w5.heap.size w6.heap.size C0 (.slice A4_ ts0.length c4_) ts0.length m_O4 (tcells ts0) (1) w14 Hm_O4.out O4.out (by omega) (by omega) (by omega)).mono ?_
      rintro e w15 ⟨rfl, hO, hK⟩
      clear O4
      have O4 := Lib.hid hO
      clear hO
      replace b0 := b0.only hK (by omega)
      replace b1 := b1.only hK (by omega)
      replace O1 := Lib.hid (O1.out.only hK (by omega))
      replace O2 := Lib.hid (O2.out.only hK (by omega))
      replace O3 := Lib.hid (O3.out.only hK (by omega))
      replace O5 := Lib.hid (O5.out.only hK (by omega))
      replace O6 := Lib.hid (O6.out.only hK (by omega))
      replace O7 := Lib.hid (O7.out.only hK (by omega))
      replace O8 := Lib.hid (O8.out.only hK (by omega))
      have sw15 : w14.heap.size ≤ w15.heap.size := hK.size
      replace hE := Lib.hid (below_only hE.out hK (by omega))
      clear hK
      have l0 := b0.lt
      have c0_0 : w15.cell? ⟨w.heap.size, 0, none⟩ = some (.int .i64 C0) := b0.cell rfl
      have c0_1 : w15.cell? ⟨w.heap.size, 1, none⟩ = some (.slice A0 ts0.length c0) := b0.cell rfl
      have l1 := b1.lt
      have c1_0 : w15.cell? ⟨w6.heap.size, 0, none⟩ = some (.int .i64 C0) := b1.cell rfl
      have c1_1 : w15.cell? ⟨w6.heap.size, 1, none⟩ = some (.slice A4_ ts0.length c4_) := b1.cell rfl
      go_wp2_with fail
      clear l0 c0_0 c0_1 l1 c1_0 c1_1
      obtain ⟨m_O5, hm_O5⟩ : ∃ m, m = ts1.length * 1 := ⟨_, rfl⟩
      have bm_O5 : m_O5 ≤ 40000000 := by omega
      have Hm_O5 := Lib.hid hm_O5; clear hm_O5
      refine (markInt64S_m w7.heap.size w8.heap.size (.slice A5_ ts1.length c5_) ts1.length m_O5 (icells ts1) ((1 + (m_O4 : Int))) w15 Hm_O5.out O5.out (by omega) (by omega) (by omega)).mono ?_
      rintro e w16 ⟨rfl, hO, hK⟩
      clear O5
      have O5 := Lib.hid hO
      clear hO
      replace b0 := b0.only hK (by omega)
      replace b1 := b1.only hK (by omega)
      replace O1 := Lib.hid (O1.out.only hK (by omega))
      replace O2 := Lib.hid (O2.out.only hK (by omega))
      replace O3 := Lib.hid (O3.out.only hK (by omega))
      replace O4 := Lib.hid (O4.out.only hK (by omega))
      replace O6 := Lib.hid (O6.out.only hK (by omega))
      replace O7 := Lib.hid (O7.out.only hK (by omega))
      replace O8 := Lib.hid (O8.out.only hK (by omega))
      have sw16 : w15.heap.size ≤ w16.heap.size := hK.size
      replace hE := Lib.hid (below_only hE.out hK (by omega))
      clear hK
      have l0 := b0.lt
      have c0_0 : w16.cell? ⟨w.heap.size, 0, none⟩ = some (.int .i64 C0) := b0.cell rfl
      have c0_1 : w16.cell? ⟨w.heap.size, 1, none⟩ = some (.slice A0 ts0.length c0) := b0.cell rfl
      have l1 := b1.lt
      have c1_0 : w16.cell? ⟨w6.heap.size, 0, none⟩ = some (.int .i64 C0) := b1.cell rfl
      have c1_1 : w16.cell? ⟨w6.heap.size, 1, none⟩ = some (.slice A4_ ts0.length c4_) := b1.cell rfl
      go_wp2_with fail
      clear l0 c0_0 c0_1 l1 c1_0 c1_1
      refine (eqInt64S_any A6_ A3_ r1 r1 r1.length r1.length c6_ c3_ w16 rfl rfl (ri_of O6.out rfl) (ri_of O3.out rfl) (by omega) (by omega)).mono ?_
      rintro e w17 ⟨rfl, hB⟩
      simp only [decide_true, Bool.and_self]
      replace b0 := b0.below hB b0.lt
      replace b1 := b1.below hB b1.lt
      replace O1 := Lib.hid (O1.out.to hB)
      replace O2 := Lib.hid (O2.out.to hB)
      replace O3 := Lib.hid (O3.out.to hB)
      replace O4 := Lib.hid (O4.out.to hB)
      replace O5 := Lib.hid (O5.out.to hB)
      replace O6 := Lib.hid (O6.out.to hB)
      replace O7 := Lib.hid (O7.out.to hB)
      replace O8 := Lib.hid (O8.out.to hB)
      have sw17 : w16.heap.size ≤ w17.heap.size := hB.size
      replace hE := Lib.hid (below_to hE.out hB)
      clear hB
      have l0 := b0.lt
      have c0_0 : w17.cell? ⟨w.heap.size, 0, none⟩ = some (.int .i64 C0) := b0.cell rfl
      have c0_1 : w17.cell? ⟨w.heap.size, 1, none⟩ = some (.slice A0 ts0.length c0) := b0.cell rfl
      have l1 := b1.lt
      have c1_0 : w17.cell? ⟨w6.heap.size, 0, none⟩ = some (.int .i64 C0) := b1.cell rfl
      have c1_1 : w17.cell? ⟨w6.heap.size, 1, none⟩ = some (.slice A4_ ts0.length c4_) := b1.cell rfl
      go_wp2_with fail
      clear l0 c0_0 c0_1 l1 c1_0 c1_1
      obtain ⟨m_O6, hm_O6⟩ : ∃ m, m = r1.length * 1 := ⟨_, rfl⟩
      have bm_O6 : m_O6 ≤ 40000000 := by omega
      have Hm_O6 := Lib.hid hm_O6; clear hm_O6
      refine (markInt64S_m w8.heap.size w9.heap.size (.slice A6_ r1.length c6_) r1.length m_O6 (icells r1) (1) w17 Hm_O6.out O6.out (by omega) (by omega) (by omega)).mono ?_
      rintro e w18 ⟨rfl, hO, hK⟩
      clear O6
      have O6 := Lib.hid hO
      clear hO
      replace b0 := b0.only hK (by omega)
      replace b1 := b1.only hK (by omega)
      replace O1 := Lib.hid (O1.out.only hK (by omega))
      replace O2 := Lib.hid (O2.out.only hK (by omega))
      replace O3 := Lib.hid (O3.out.only hK (by omega))
      replace O4 := Lib.hid (O4.out.only hK (by omega))
      replace O5 := Lib.hid (O5.out.only hK (by omega))
      replace O7 := Lib.hid (O7.out.only hK (by omega))
      replace O8 := Lib.hid (O8.out.only hK (by omega))
      have sw18 : w17.heap.size ≤ w18.heap.size := hK.size
      replace hE := Lib.hid (below_only hE.out hK (by omega))
      clear hK
      have l0 := b0.lt
      have c0_0 : w18.cell? ⟨w.heap.size, 0, none⟩ = some (.int .i64 C0) := b0.cell rfl
      have c0_1 : w18.cell? ⟨w.heap.size, 1, none⟩ = some (.slice A0 ts0.length c0) := b0.cell rfl
      have l1 := b1.lt
      have c1_0 : w18.cell? ⟨w6.heap.size, 0, none⟩ = some (.int .i64 C0) := b1.cell rfl
      have c1_1 : w18.cell? ⟨w6.heap.size, 1, none⟩ = some (.slice A4_ ts0.length c4_) := b1.cell rfl
      go_wp2_with fail
      clear l0 c0_0 c0_1 l1 c1_0 c1_1
      refine (heldInt64S_m w8.heap.size w9.heap.size (.slice A6_ r1.length c6_) r1.length m_O6 (1) w18 Hm_O6.out O6.out (by omega) (by omega) (by omega)).mono ?_
      rintro e w19 ⟨rfl, hB⟩
      replace b0 := b0.below hB b0.lt
      replace b1 := b1.below hB b1.lt
      replace O1 := Lib.hid (O1.out.to hB)
      replace O2 := Lib.hid (O2.out.to hB)
      replace O3 := Lib.hid (O3.out.to hB)
      replace O4 := Lib.hid (O4.out.to hB)
      replace O5 := Lib.hid (O5.out.to hB)
      replace O6 := Lib.hid (O6.out.to hB)
      replace O7 := Lib.hid (O7.out.to hB)
      replace O8 := Lib.hid (O8.out.to hB)
      have sw19 : w18.heap.size ≤ w19.heap.size := hB.size
      replace hE := Lib.hid (below_to hE.out hB)
      clear hB
      have l0 := b0.lt
      have c0_0 : w19.cell? ⟨w.heap.size, 0, none⟩ = some (.int .i64 C0) := b0.cell rfl
      have c0_1 : w19.cell? ⟨w.heap.size, 1, none⟩ = some (.slice A0 ts0.length c0) := b0.cell rfl
      have l1 := b1.lt
      have c1_0 : w19.cell? ⟨w6.heap.size, 0, none⟩ = some (.int .i64 C0) := b1.cell rfl
      have c1_1 : w19.cell? ⟨w6.heap.size, 1, none⟩ = some (.slice A4_ ts0.length c4_) := b1.cell rfl
      go_wp2_with fail
      clear l0 c0_0 c0_1 l1 c1_0 c1_1
      refine (toSet_any C0 A0 ts0 ts0.length c0 w19 rfl (HA0.out.below hE.out) (by omega)).mono ?_
      rintro e w20 ⟨v_, rfl, hO, hB⟩
      obtain ⟨A9_, c9_, rfl, -, -⟩ := hO.reads
      have O9 := Lib.hid (OW.of hO)
      clear hO
      replace b0 := b0.below hB b0.lt
      replace b1 := b1.below hB b1.lt
      replace O1 := Lib.hid (O1.out.to hB)
      replace O2 := Lib.hid (O2.out.to hB)
      replace O3 := Lib.hid (O3.out.to hB)
      replace O4 := Lib.hid (O4.out.to hB)
      replace O5 := Lib.hid (O5.out.to hB)
      replace O6 := Lib.hid (O6.out.to hB)
      replace O7 := Lib.hid (O7.out.to hB)
      replace O8 := Lib.hid (O8.out.to hB)
      have sw20 : w19.heap.size ≤ w20.heap.size := hB.size
      replace hE := Lib.hid (below_to hE.out hB)
      clear hB
      have l0 := b0.lt
      have c0_0 : w20.cell? ⟨w.heap.size, 0, none⟩ = some (.int .i64 C0) := b0.cell rfl
      have c0_1 : w20.cell? ⟨w.heap.size, 1, none⟩ = some (.slice A0 ts0.length c0) := b0.cell rfl
      have l1 := b1.lt
      have c1_0 : w20.cell? ⟨w6.heap.size, 0, none⟩ = some (.int .i64 C0) := b1.cell rfl
      have c1_1 : w20.cell? ⟨w6.heap.size, 1, none⟩ = some (.slice A4_ ts0.length c4_) := b1.cell rfl
      go_wp2_with fail
      clear l0 c0_0 c0_1 l1 c1_0 c1_1
      refine (toInt64S_any A1 ts1 ts1.length c1 w20 rfl (HA1.out.below hE.out) (by omega)).mono ?_
      rintro e w21 ⟨v_, rfl, hO, hB⟩
      obtain ⟨A10_, c10_, rfl, -, -⟩ := hO.reads
      have O10 := Lib.hid (OW.of hO)
      clear hO
      replace b0 := b0.below hB b0.lt
      replace b1 := b1.below hB b1.lt
      replace O1 := Lib.hid (O1.out.to hB)
      replace O2 := Lib.hid (O2.out.to hB)
      replace O3 := Lib.hid (O3.out.to hB)
      replace O4 := Lib.hid (O4.out.to hB)
      replace O5 := Lib.hid (O5.out.to hB)
      replace O6 := Lib.hid (O6.out.to hB)
      replace O7 := Lib.hid (O7.out.to hB)
      replace O8 := Lib.hid (O8.out.to hB)
      replace O9 := Lib.hid (O9.out.to hB)
      have sw21 : w20.heap.size ≤ w21.heap.size := hB.size
      replace hE := Lib.hid (below_to hE.out hB)
      clear hB
      have l0 := b0.lt
      have c0_0 : w21.cell? ⟨w.heap.size, 0, none⟩ = some (.int .i64 C0) := b0.cell rfl
      have c0_1 : w21.cell? ⟨w.heap.size, 1, none⟩ = some (.slice A0 ts0.length c0) := b0.cell rfl
      have l1 := b1.lt
      have c1_0 : w21.cell? ⟨w6.heap.size, 0, none⟩ = some (.int .i64 C0) := b1.cell rfl
      have c1_1 : w21.cell? ⟨w6.heap.size, 1, none⟩ = some (.slice A4_ ts0.length c4_) := b1.cell rfl
      go_wp2_with fail
      clear l0 c0_0 c0_1 l1 c1_0 c1_1
      refine (implFirstRow_any C0 A9_ ts0 ts0.length c9_ A10_ ts1 ts1.length c10_ w21 rfl (rt_of O9.out rfl) (le_of O9.out) (by omega) rfl (ri_of O10.out rfl) (le_of O10.out) (by omega)).mono ?_
      rintro e w22 ⟨v0_, x0_, x1_, hR_, rfl, hO0, hB⟩
      obtain ⟨rfl, rfl⟩ : r1 = x0_ ∧ r2 = x1_ := (by have h_ := HR.out.symm.trans hR_; simpa using h_)
      clear hR_
      obtain ⟨A11_, c11_, rfl, -⟩ := hO0.form
      have O11 := Lib.hid hO0
      clear hO0
      replace b0 := b0.below hB b0.lt
      replace b1 := b1.below hB b1.lt
      replace O1 := Lib.hid (O1.out.to hB)
      replace O2 := Lib.hid (O2.out.to hB)
      replace O3 := Lib.hid (O3.out.to hB)
      replace O4 := Lib.hid (O4.out.to hB)
      replace O5 := Lib.hid (O5.out.to hB)
      replace O6 := Lib.hid (O6.out.to hB)
      replace O7 := Lib.hid (O7.out.to hB)
      replace O8 := Lib.hid (O8.out.to hB)
      replace O9 := Lib.hid (O9.out.to hB)
      replace O10 := Lib.hid (O10.out.to hB)
      have sw22 : w21.heap.size ≤ w22.heap.size := hB.size
      replace hE := Lib.hid (below_to hE.out hB)
      clear hB
      have l0 := b0.lt
      have c0_0 : w22.cell? ⟨w.heap.size, 0, none⟩ = some (.int .i64 C0) := b0.cell rfl
      have c0_1 : w22.cell? ⟨w.heap.size, 1, none⟩ = some (.slice A0 ts0.length c0) := b0.cell rfl
      have l1 := b1.lt
      have c1_0 : w22.cell? ⟨w6.heap.size, 0, none⟩ = some (.int .i64 C0) := b1.cell rfl
      have c1_1 : w22.cell? ⟨w6.heap.size, 1, none⟩ = some (.slice A4_ ts0.length c4_) := b1.cell rfl
      go_wp2_with fail
      clear l0 c0_0 c0_1 l1 c1_0 c1_1
      refine (eqInt64S_any A11_ A3_ r1 r1 r1.length r1.length c11_ c3_ w22 rfl rfl (ri_of O11.out rfl) (ri_of O3.out rfl) (by omega) (by omega)).mono ?_
      rintro e w23 ⟨rfl, hB⟩
      simp only [decide_true, Bool.and_self]
      replace b0 := b0.below hB b0.lt
      replace b1 := b1.below hB b1.lt
      replace O1 := Lib.hid (O1.out.to hB)
      replace O2 := Lib.hid (O2.out.to hB)
      replace O3 := Lib.hid (O3.out.to hB)
      replace O4 := Lib.hid (O4.out.to hB)
      replace O5 := Lib.hid (O5.out.to hB)
      replace O6 := Lib.hid (O6.out.to hB)
      replace O7 := Lib.hid (O7.out.to hB)
      replace O8 := Lib.hid (O8.out.to hB)
      replace O9 := Lib.hid (O9.out.to hB)
      replace O10 := Lib.hid (O10.out.to hB)
      replace O11 := Lib.hid (O11.out.to hB)
      have sw23 : w22.heap.size ≤ w23.heap.size := hB.size
      replace hE := Lib.hid (below_to hE.out hB)
      clear hB
      have l0 := b0.lt
      have c0_0 : w23.cell? ⟨w.heap.size, 0, none⟩ = some (.int .i64 C0) := b0.cell rfl
      have c0_1 : w23.cell? ⟨w.heap.size, 1, none⟩ = some (.slice A0 ts0.length c0) := b0.cell rfl
      have l1 := b1.lt
      have c1_0 : w23.cell? ⟨w6.heap.size, 0, none⟩ = some (.int .i64 C0) := b1.cell rfl
      have c1_1 : w23.cell? ⟨w6.heap.size, 1, none⟩ = some (.slice A4_ ts0.length c4_) := b1.cell rfl
      go_wp2_with fail
      clear l0 c0_0 c0_1 l1 c1_0 c1_1
      refine (heldInt64S_m w8.heap.size w9.heap.size (.slice A6_ r1.length c6_) r1.length m_O6 (1) w23 Hm_O6.out O6.out (by omega) (by omega) (by omega)).mono ?_
      rintro e w24 ⟨rfl, hB⟩
      replace b0 := b0.below hB b0.lt
      replace b1 := b1.below hB b1.lt
      replace O1 := Lib.hid (O1.out.to hB)
      replace O2 := Lib.hid (O2.out.to hB)
      replace O3 := Lib.hid (O3.out.to hB)
      replace O4 := Lib.hid (O4.out.to hB)
      replace O5 := Lib.hid (O5.out.to hB)
      replace O6 := Lib.hid (O6.out.to hB)
      replace O7 := Lib.hid (O7.out.to hB)
      replace O8 := Lib.hid (O8.out.to hB)
      replace O9 := Lib.hid (O9.out.to hB)
      replace O10 := Lib.hid (O10.out.to hB)
      replace O11 := Lib.hid (O11.out.to hB)
      have sw24 : w23.heap.size ≤ w24.heap.size := hB.size
      replace hE := Lib.hid (below_to hE.out hB)
      clear hB
      go_wp2_with fail
      go_ret
      exact ⟨rfl, hE.out⟩
end Go.Proofs.Ytenlcakpcbmmdaa
namespace Go.Proofs.Ytenlcakpcbmmdaa
open Go Go.RowKit Go.Proofs
open Go.ChangeShapes Go.WideShapes Go.ChangeAt Go.Deep
set_option linter.unusedVariables false
set_option linter.unusedSimpArgs false
section
variable {H : Type} {enc : TypeId × Value → H} {P : Program} {w : World} {base : Nat} {held : Bool} {spare : Nat → Bool}
theorem open_tile {e i : TypeId} {fuel : Nat} {cs : List Value} {x : DataW H × List MemPlace} (he : P.underlying e = some (.array 4 i)) (hi : P.underlying i = some (.int .i64)) (ce : P.cellsOf e = 4) (ci : P.cellsOf i = 1)
    (h : DataW.trod enc P w base spare held fuel e cs = some x) : ∃ t : T4, cs = t.arr.toList := by
  cases fuel with
  | zero => simp [DataW.trod] at h
  | succ fuel =>
    simp only [DataW.trod, he] at h
    split at h
    · rename_i hl
      rw [ce] at hl
      obtain ⟨ys, hys, -⟩ := Option.map_eq_some_iff.1 h
      have each : ∀ j, j < 4 → ∃ n, cs[j]? = some (.int .i64 n) := by
        intro j hj
        have hg := mapM_some_get hys j j (by simp [hj])
        simp only [ci, Nat.mul_one] at hg
        have hlen : ys.length = 4 := by simpa using mapM_some_length hys
        rw [List.getElem?_eq_getElem (show j < ys.length by omega)] at hg
        have hd : (cs.drop j).take 1 = [cs[j]'(by omega)] := by
          rw [List.drop_eq_getElem_cons (by omega), List.take_succ_cons, List.take_zero]
        rw [hd] at hg
        obtain ⟨n, hn, -, -⟩ := DataW.trod_int hi hg
        exact ⟨n, by rw [List.getElem?_eq_getElem (by omega)]; simpa using hn⟩
      obtain ⟨a, ha⟩ := each 0 (by omega); obtain ⟨b, hb⟩ := each 1 (by omega); obtain ⟨c, hc⟩ := each 2 (by omega); obtain ⟨d, hd⟩ := each 3 (by omega)
      refine ⟨⟨a, b, c, d⟩, ?_⟩
      match cs, hl, ha, hb, hc, hd with
      | [v0, v1, v2, v3], _, ha, hb, hc, hd =>
        simp at ha hb hc hd
        subst ha hb hc hd
        rfl
    · cases h
theorem addr_plain {w : World} {a : Addr} {v : Value} (h : w.cell? a = some v) : a = ⟨a.block, a.off, none⟩ := by
  obtain ⟨b, o, s⟩ := a
  cases s with
  | none => rfl
  | some s =>
    simp only [World.cell?] at h
    split at h
    · simp at h
    · cases h
theorem add_plain (b o n : Nat) : (⟨b, o, none⟩ : Addr).add n = ⟨b, o + n, none⟩ := by unfold Addr.add; split <;> simp_all
theorem open_tiles {t e i : TypeId} {fuel : Nat} {cs : List Value} {x : DataW H × List MemPlace} (ht : P.underlying t = some (.slice e)) (he : P.underlying e = some (.array 4 i)) (hi : P.underlying i = some (.int .i64)) (ce : P.cellsOf e = 4) (ci : P.cellsOf i = 1)
    (h : DataW.trod enc P w base (fun _ => true) held fuel t cs = some x) :
    ∃ A n c ts, cs = [.slice A n c] ∧ n = ts.length ∧ RT w A ts ∧ n ≤ c ∧ (n = 0 ∨ ∃ el sp, x.1 = .slice el sp ∧ n ≤ el.length + sp.length) := by
  rcases open_slice ht h with ⟨rfl, rfl⟩ | ⟨a, len, cap, m, n, D, Pl, rfl, hb, hl, hm, hmm, rfl, hx⟩
  · exact ⟨none, 0, 0, [], rfl, rfl, fun k hk => by simp at hk, Nat.le_refl _, .inl rfl⟩
  · simp only [if_true] at hmm
    subst hmm
    have each : ∀ k, k < len → ∃ t : T4, a = ⟨a.block, a.off, none⟩ ∧ a.block < w.heap.size ∧ ∀ j, j < 4 → w.cell? ⟨a.block, a.off + k * 4 + j, none⟩ = some (.int .i64 (t.get j)) := by
      intro k hk
      obtain ⟨cs', hc, htr⟩ := hx k (by omega)
      rw [ce] at hc
      obtain ⟨t, rfl⟩ := open_tile he hi ce ci htr
      obtain ⟨-, -, hcell⟩ := World.cells?_some hc
      have hg (j : Nat) (hj : j < 4) : w.cell? ((a.add (k * 4)).add j) = some (.int .i64 (t.get j)) := by
        rw [hcell j hj, Array.getElem?_toList]; exact t.cell j hj
      have ha : a = ⟨a.block, a.off, none⟩ := by
        obtain ⟨cs0, hc0, htr0⟩ := hx 0 (by omega)
        obtain ⟨t0, rfl⟩ := open_tile he hi ce ci htr0
        rw [ce] at hc0
        obtain ⟨-, -, hcell0⟩ := World.cells?_some hc0
        have := hcell0 0 (by omega)
        rw [Array.getElem?_toList, t0.cell 0 (by omega)] at this
        have he : (a.add (0 * 4)).add 0 = a := by simp [Addr.add]
        rw [he] at this
        exact addr_plain this
      refine ⟨t, ha, ?_, fun j hj => ?_⟩
      · have := World.block_lt_of_cell? w _ (hg 0 (by omega))
        rw [ha, add_plain, add_plain] at this
        exact this
      · have := hg j hj
        rw [ha, add_plain, add_plain] at this
        exact this
    obtain ⟨f, hf⟩ := choose_lt each
    refine ⟨some a, len, m, (List.range len).map f, rfl, by simp, fun k hk => ?_, hl, .inr ⟨_, _, rfl, by simp⟩⟩
    have hk' : k < len := by simpa using hk
    obtain ⟨ha, hlt, hc⟩ := hf k hk'
    have htk : tk ((List.range len).map f) k = f k := by simp [tk, hk']
    rw [htk]
    exact ⟨a.block, a.off, by rw [← ha], hlt, hc 0 (by omega), hc 1 (by omega), hc 2 (by omega), hc 3 (by omega)⟩
theorem open_set {r : Reach} {b0 : Nat} {t i : TypeId} {u e : TypeId} {f0 f1 : Field} {v : Value} {d : DataW H} {ps : List MemPlace} (ht : P.underlying t = some (.struct #[f0, f1])) (o0 : f0.offset = 0) (o1 : f1.offset = 1) (t0 : f0.type = i) (t1 : f1.type = u)
    (hu : P.underlying u = some (.slice e)) (he : P.underlying e = some (.array 4 i)) (hi : P.underlying i = some (.int .i64)) (ct : P.cellsOf t = 2) (cu : P.cellsOf u = 1) (ce : P.cellsOf e = 4) (ci : P.cellsOf i = 1) (hby : P.bytesOf e = 32)
    (hval : Value.okWide P w r b0 t v) (h : DataW.Trod enc P w base (fun _ => true) held t v d ps) {ts0 : List TypeId} {ds0 : List (DataW H)} {j : Nat} (hj : ts0[j]? = some t) (hd : ds0[j]? = some d)
    (hsz : (DataW.weightsEach P ts0 ds0).all (· ≤ reachBytes) = true) :
    ∃ C A n c ts, v = .agg #[.int .i64 C, .slice A n c] ∧ n = ts.length ∧ RT w A ts ∧ n ≤ c ∧ n ≤ 35184372088832 ∧ (Lit.int .i64 C).wf = true := by
  unfold Value.okWide at hval
  rw [ht] at hval
  obtain ⟨cells, rfl, hsize, -⟩ := hval
  rw [ct] at hsize
  obtain ⟨fuel, hf⟩ := h
  cases fuel with
  | zero => simp [DataW.trod] at hf
  | succ fuel =>
    simp only [Value.cells] at hf
    simp only [DataW.trod, ht] at hf
    split at hf
    · rename_i hl
      obtain ⟨ys, hys, hd'⟩ := Option.map_eq_some_iff.1 hf
      obtain ⟨x0, hx0⟩ : ∃ x0, ys[0]? = some x0 := ⟨_, List.getElem?_eq_getElem (by have := mapM_some_length hys; simp at this; omega)⟩
      obtain ⟨x1, hx1⟩ : ∃ x1, ys[1]? = some x1 := ⟨_, List.getElem?_eq_getElem (by have := mapM_some_length hys; simp at this; omega)⟩
      have hylen : ys.length = 2 := by simpa using mapM_some_length hys
      have h0 := mapM_some_get hys 0 f0 (by simp)
      have h1 := mapM_some_get hys 1 f1 (by simp)
      rw [o0, t0, ci, hx0] at h0
      rw [o1, t1, cu, hx1] at h1
      obtain ⟨v0, v1, hcl⟩ : ∃ v0 v1, cells.toList = [v0, v1] := by
        match hc : cells.toList, (by simpa using hsize : cells.toList.length = 2) with
        | [v0, v1], _ => exact ⟨v0, v1, rfl⟩
      rw [hcl] at h0 h1
      simp only [List.drop_zero, List.take_succ_cons, List.take_zero, List.drop_succ_cons] at h0 h1
      obtain ⟨C, hC, -, hwf⟩ := DataW.trod_int hi h0
      obtain ⟨A, n, c, ts, hA, hn, hrt, hnc, hwt⟩ := open_tiles hu he hi ce ci h1
      simp at hC hA
      subst hC hA
      refine ⟨C, A, n, c, ts, ?_, hn, hrt, hnc, ?_, hwf⟩
      · congr 1
        apply Array.toList_inj.1 
        rw [hcl]
      · rcases hwt with h0 | ⟨el, sp, hx, hle⟩
        · omega
        · have hde : d = .agg [x0.1, x1.1] := by
            have := (Prod.mk.inj hd').1
            rw [← this]
            match ys, hylen, hx0, hx1 with
            | [y0, y1], _, hx0, hx1 =>
              simp at hx0 hx1
              subst hx0 hx1
              rfl
          have := List.all_eq_true.1 hsz _ (DataW.weights_mem_each hj hd ((el.length + sp.length) * P.bytesOf e) (by
            rw [hde, hx]
            simp [DataW.weights, ht, DataW.weightsEach, t1, hu]))
          simp only [decide_eq_true_eq, hby, reachBytes] at this
          omega
    · cases hf
theorem open_ints0 {t e : TypeId} {fuel : Nat} {cs : List Value} {x : DataW H × List MemPlace} (ht : P.underlying t = some (.slice e)) (he : P.underlying e = some (.int .i64)) (ce : P.cellsOf e = 1)
    (h : DataW.trod enc P w base (fun _ => true) held fuel t cs = some x) :
    ∃ A n c ts, cs = [.slice A n c] ∧ n = ts.length ∧ RI w A ts ∧ n ≤ c ∧ (n = 0 ∨ ∃ el sp, x.1 = .slice el sp ∧ n ≤ el.length + sp.length) := by
  rcases open_slice ht h with ⟨rfl, rfl⟩ | ⟨a, len, cap, m, n, D, Pl, rfl, hb, hl, hm, hmm, rfl, hx⟩
  · exact ⟨none, 0, 0, [], rfl, rfl, fun k hk => by simp at hk, Nat.le_refl _, .inl rfl⟩
  · simp only [if_true] at hmm
    subst hmm
    have one : ∀ k, k < m → ∃ x : Int, w.cell? (a.add k) = some (.int .i64 x) := by
      intro k hk
      obtain ⟨cs', hc, htr⟩ := hx k hk
      rw [ce, Nat.mul_one] at hc
      obtain ⟨-, hlen, hcell⟩ := World.cells?_some hc
      obtain ⟨x, hx', -, -⟩ := DataW.trod_int he htr
      have := hcell 0 (by omega)
      rw [hx'] at this
      have ha : (a.add k).add 0 = a.add k := by simp [Addr.add]
      rw [ha] at this
      exact ⟨x, by simpa using this⟩
    have each : ∀ k, k < len → ∃ x : Int, a = ⟨a.block, a.off, none⟩ ∧ a.block < w.heap.size ∧ w.cell? ⟨a.block, a.off + k, none⟩ = some (.int .i64 x) := by
      intro k hk
      obtain ⟨x, hx⟩ := one k (by omega)
      obtain ⟨y, hy⟩ := one 0 (by omega)
      have h0 : a.add 0 = a := by simp [Addr.add]
      rw [h0] at hy
      have ha := addr_plain hy
      have hlt := World.block_lt_of_cell? w _ hy
      refine ⟨x, ha, hlt, ?_⟩
      rw [ha, add_plain] at hx
      exact hx
    obtain ⟨f, hf⟩ := choose_lt each
    refine ⟨some a, len, m, (List.range len).map f, rfl, by simp, fun k hk => ?_, hl, .inr ⟨_, _, rfl, by simp⟩⟩
    have hk' : k < len := by simpa using hk
    obtain ⟨ha, hlt, hc⟩ := hf k hk'
    have htk : ik ((List.range len).map f) k = f k := by simp [ik, hk']
    rw [htk]
    exact ⟨a.block, a.off, by rw [← ha], hlt, hc⟩
theorem open_ints_arg {r : Reach} {b0 : Nat} {t e : TypeId} {v : Value} {d : DataW H} {ps : List MemPlace} (ht : P.underlying t = some (.slice e)) (he : P.underlying e = some (.int .i64)) (ce : P.cellsOf e = 1) (hby : P.bytesOf e = 8)
    (hval : Value.okWide P w r b0 t v) (h : DataW.Trod enc P w base (fun _ => true) held t v d ps) {ts0 : List TypeId} {ds0 : List (DataW H)} {j : Nat} (hj : ts0[j]? = some t) (hd : ds0[j]? = some d)
    (hsz : (DataW.weightsEach P ts0 ds0).all (· ≤ reachBytes) = true) :
    ∃ A n c ts, v = .slice A n c ∧ n = ts.length ∧ RI w A ts ∧ n ≤ c ∧ n ≤ 35184372088832 := by
  obtain ⟨a, len, cap, rfl⟩ := okWide_slice ht hval
  obtain ⟨fuel, hf⟩ := h
  obtain ⟨A, n, c, ts, hA, hn, hrt, hnc, hwt⟩ := open_ints0 ht he ce hf
  simp [Value.cells] at hA
  obtain ⟨rfl, rfl, rfl⟩ := hA
  refine ⟨_, _, _, ts, rfl, hn, hrt, hnc, ?_⟩
  rcases hwt with h0 | ⟨el, sp, hx, hle⟩
  · omega
  · have := List.all_eq_true.1 hsz _ (DataW.weights_mem_each hj hd ((el.length + sp.length) * P.bytesOf e) (by
      simp only at hx
      rw [hx]
      simp [DataW.weights, ht]))
    simp only [decide_eq_true_eq, hby, reachBytes] at this
    omega
end
theorem wf64 {n : Int} (h : (Lit.int .i64 n).wf = true) : -9223372036854775808 ≤ n ∧ n ≤ 9223372036854775807 := by
  simp [Lit.wf] at h
  have e : IntKind.i64.min = -9223372036854775808 := by decide
  rw [e] at h
  exact h
end Go.Proofs.Ytenlcakpcbmmdaa

/-
  Parts of the proof, in their order: LawProductOfSets.
-/
import Derived.Test.YtnjmgmdpkogocaaPk20
import Derived.Test.YtnjmgmdpkogocaaPk6
import Derived.Test.YtnjmgmdpkogocaaPk5
import Derived.Deep.RegionHeld3
namespace Go.Proofs.Ytnjmgmdpkogocaa
open Go Go.RowKit Go.Proofs
set_option linter.unusedVariables false
set_option linter.unusedSimpArgs false
set_option maxHeartbeats 16000000 in
set_option maxRecDepth 100000 in
theorem lawProductOfSets_any (w : World) (C0 : Int) (A0 : Option Addr) (ts0 : List T4) (n0 c0 : Nat) (hn0 : n0 = ts0.length) (hA0 : RT w A0 ts0) (hnc0 : n0 ≤ c0) (hl0 : n0 ≤ 35184372088832) (hC0 : -9223372036854775808 ≤ C0 ∧ C0 ≤ 9223372036854775807) (C1 : Int) (A1 : Option Addr) (ts1 : List T4) (n1 c1 : Nat) (hn1 : n1 = ts1.length) (hA1 : RT w A1 ts1) (hnc1 : n1 ≤ c1) (hl1 : n1 ≤ 35184372088832) (hC1 : -9223372036854775808 ≤ C1 ∧ C1 ≤ 9223372036854775807) :
    Calls Try.prog 9 #[.agg #[.int .i64 C0, .slice A0 n0 c0], .agg #[.int .i64 C1, .slice A1 n1 c1]] w fun e w' => e = .returned (.bool true) ∧ Below w.heap.size w w' := by
  subst hn0
  have HA0 := Lib.hid hA0; clear hA0
  subst hn1
  have HA1 := Lib.hid hA1; clear hA1
  by_cases hbig0 : (1048576 : Int) < ((ts0.length : Nat) : Int)
  · go_enter Try.func9, Try.ntmps9
    go_wp2_with fail
    refine namec2 ?_
    intro w1 b0 b1 hz hB
    have tw1 : w.heap.size + 2 ≤ w1.heap.size := by omega
    clear hz
    have sw1 : w.heap.size ≤ w1.heap.size := hB.size
    have hE := Lib.hid (hB)
    clear hB
    refine (szSet_any C0 A0 ts0.length c0 (1048576) w1 (by omega) (by omega) (by omega)).mono ?_
    rintro e w2 ⟨rfl, hB⟩
    rw [if_pos (show (1048576 : Int) < (ts0.length : Nat) by omega)]
    replace b0 := b0.below hB b0.lt
    replace b1 := b1.below hB b1.lt
    have sw2 : w1.heap.size ≤ w2.heap.size := hB.size
    replace hE := Lib.hid (below_to hE.out hB)
    clear hB
    go_wp2_with fail
    go_ret
    exact ⟨rfl, hE.out⟩
  · replace hbig0 : ((ts0.length : Nat) : Int) ≤ 1048576 := by omega
    by_cases hbig1 : ((1048576 - ((ts0.length : Nat) : Int)) : Int) < ((ts1.length : Nat) : Int)
    · go_enter Try.func9, Try.ntmps9
      go_wp2_with fail
      refine namec2 ?_
      intro w1 b0 b1 hz hB
      have tw1 : w.heap.size + 2 ≤ w1.heap.size := by omega
      clear hz
      have sw1 : w.heap.size ≤ w1.heap.size := hB.size
      have hE := Lib.hid (hB)
      clear hB
      refine (szSet_any C0 A0 ts0.length c0 (1048576) w1 (by omega) (by omega) (by omega)).mono ?_
      rintro e w2 ⟨rfl, hB⟩
      rw [if_neg (show ¬ (1048576 : Int) < (ts0.length : Nat) by omega)]
      replace b0 := b0.below hB b0.lt
      replace b1 := b1.below hB b1.lt
      have sw2 : w1.heap.size ≤ w2.heap.size := hB.size
      replace hE := Lib.hid (below_to hE.out hB)
      clear hB
      have l0 := b0.lt
      have c0_0 : w2.cell? ⟨w.heap.size, 0, none⟩ = some (.int .i64 C0) := b0.cell rfl
      have c0_1 : w2.cell? ⟨w.heap.size, 1, none⟩ = some (.slice A0 ts0.length c0) := b0.cell rfl
      have l1 := b1.lt
      have c1_0 : w2.cell? ⟨w.heap.size + 1, 0, none⟩ = some (.int .i64 C1) := b1.cell rfl
      have c1_1 : w2.cell? ⟨w.heap.size + 1, 1, none⟩ = some (.slice A1 ts1.length c1) := b1.cell rfl
      go_wp2_with fail
      clear l0 c0_0 c0_1 l1 c1_0 c1_1
      refine (szSet_any C1 A1 ts1.length c1 ((1048576 - ((ts0.length : Nat) : Int))) w2 (by omega) (by omega) (by omega)).mono ?_
      rintro e w3 ⟨rfl, hB⟩
      rw [if_pos (show ((1048576 - ((ts0.length : Nat) : Int)) : Int) < (ts1.length : Nat) by omega)]
      replace b0 := b0.below hB b0.lt
      replace b1 := b1.below hB b1.lt
      have sw3 : w2.heap.size ≤ w3.heap.size := hB.size
      replace hE := Lib.hid (below_to hE.out hB)
      clear hB
      go_wp2_with fail
      go_ret
      exact ⟨rfl, hE.out⟩
    · replace hbig1 : ((ts1.length : Nat) : Int) ≤ (1048576 - ((ts0.length : Nat) : Int)) := by omega
      obtain ⟨r_, hr_⟩ : ∃ r, prodR C0 ts0 C1 ts1 = r := ⟨_, rfl⟩
      obtain ⟨⟨rc1, r1⟩, r2⟩ := r_
      have hb1 : r1.length ≤ 1048576 := by have h_ := prodR_len C0 ts0 C1 ts1; rw [hr_] at h_; exact h_
      have HR := Lib.hid hr_; clear hr_
      go_enter Try.func9, Try.ntmps9
      go_wp2_with fail
      refine namec2 ?_
      intro w1 b0 b1 hz hB
      have tw1 : w.heap.size + 2 ≤ w1.heap.size := by omega
      clear hz
      have sw1 : w.heap.size ≤ w1.heap.size := hB.size
      have hE := Lib.hid (hB)
      clear hB
      refine (szSet_any C0 A0 ts0.length c0 (1048576) w1 (by omega) (by omega) (by omega)).mono ?_
      rintro e w2 ⟨rfl, hB⟩
      rw [if_neg (show ¬ (1048576 : Int) < (ts0.length : Nat) by omega)]
      replace b0 := b0.below hB b0.lt
      replace b1 := b1.below hB b1.lt
      have sw2 : w1.heap.size ≤ w2.heap.size := hB.size
      replace hE := Lib.hid (below_to hE.out hB)
      clear hB
      have l0 := b0.lt
      have c0_0 : w2.cell? ⟨w.heap.size, 0, none⟩ = some (.int .i64 C0) := b0.cell rfl
      have c0_1 : w2.cell? ⟨w.heap.size, 1, none⟩ = some (.slice A0 ts0.length c0) := b0.cell rfl
      have l1 := b1.lt
      have c1_0 : w2.cell? ⟨w.heap.size + 1, 0, none⟩ = some (.int .i64 C1) := b1.cell rfl
      have c1_1 : w2.cell? ⟨w.heap.size + 1, 1, none⟩ = some (.slice A1 ts1.length c1) := b1.cell rfl
      go_wp2_with fail
      clear l0 c0_0 c0_1 l1 c1_0 c1_1
      refine (szSet_any C1 A1 ts1.length c1 ((1048576 - ((ts0.length : Nat) : Int))) w2 (by omega) (by omega) (by omega)).mono ?_
      rintro e w3 ⟨rfl, hB⟩
      rw [if_neg (show ¬ ((1048576 - ((ts0.length : Nat) : Int)) : Int) < (ts1.length : Nat) by omega)]
      replace b0 := b0.below hB b0.lt
      replace b1 := b1.below hB b1.lt
      have sw3 : w2.heap.size ≤ w3.heap.size := hB.size
      replace hE := Lib.hid (below_to hE.out hB)
      clear hB
      have l0 := b0.lt
      have c0_0 : w3.cell? ⟨w.heap.size, 0, none⟩ = some (.int .i64 C0) := b0.cell rfl
      have c0_1 : w3.cell? ⟨w.heap.size, 1, none⟩ = some (.slice A0 ts0.length c0) := b0.cell rfl
      have l1 := b1.lt
      have c1_0 : w3.cell? ⟨w.heap.size + 1, 0, none⟩ = some (.int .i64 C1) := b1.cell rfl
      have c1_1 : w3.cell? ⟨w.heap.size + 1, 1, none⟩ = some (.slice A1 ts1.length c1) := b1.cell rfl
      go_wp2_with fail
      clear l0 c0_0 c0_1 l1 c1_0 c1_1
      have hD : Below w3.heap.size w3 w3.drew := (Below.refl _ _).drew
      replace b0 := b0.below hD b0.lt
      replace b1 := b1.below hD b1.lt
      replace hE := Lib.hid (below_to hE.out hD)
      clear hD
      have d1_w3 : w3.heap.size ≤ w3.drew.heap.size := Nat.le_refl _
      have d2_w3 : w3.drew.heap.size ≤ w3.heap.size := Nat.le_refl _
      refine region_join (R := fun a0_ a_ w_ => ∃ gv2_ : Nat, ∃ A1_ : Option Addr, ∃ c1_ : Nat, ∃ loO1_ : Nat, ∃ hiO1_ : Nat, ∃ A2_ : Option Addr, ∃ c2_ : Nat, ∃ loO2_ : Nat, ∃ hiO2_ : Nat, ∃ A3_ : Option Addr, ∃ c3_ : Nat, ∃ loO3_ : Nat, ∃ hiO3_ : Nat, a_ = ((((((((((a0_.put (some 28) (.agg #[.int .i64 C0, .slice A0 ts0.length c0])).put (some 29) (.agg #[.int .i64 C0, .slice A1_ ts0.length c1_])).put (some 30) (.agg #[.int .i64 C1, .slice A1 ts1.length c1])).put (some 31) (.agg #[.int .i64 C1, .slice A2_ ts1.length c2_])).put (some 32) (.tuple #[.agg #[.int .i64 rc1, .slice A3_ r1.length c3_], .int .i64 r2])).put (some 27) (.tuple #[.agg #[.int .i64 rc1, .slice A3_ r1.length c3_], .int .i64 r2])).put (some 33) (.agg #[.int .i64 rc1, .slice A3_ r1.length c3_])).put (some 34) (.int .i64 r2)).put (some 6) (.pointer (some ⟨gv2_, 0, none⟩))).put (some 7) (.int .i64 r2)) ∧ Below w3.drew.heap.size w3.drew w_ ∧ OW w_ loO1_ hiO1_ 45 4 (.slice A1_ ts0.length c1_) ts0.length (tcells ts0) ∧ OW w_ loO2_ hiO2_ 45 4 (.slice A2_ ts1.length c2_) ts1.length (tcells ts1) ∧ OW w_ loO3_ hiO3_ 45 4 (.slice A3_ r1.length c3_) r1.length (tcells r1) ∧ BK w_ gv2_ #[.int .i64 rc1, .slice A3_ r1.length c3_] 26 ∧ w3.drew.heap.size ≤ loO1_ ∧ loO1_ ≤ hiO1_ ∧ (gv2_ < loO1_ ∨ hiO1_ ≤ gv2_) ∧ hiO1_ ≤ loO2_ ∧ loO2_ ≤ hiO2_ ∧ (gv2_ < loO2_ ∨ hiO2_ ≤ gv2_) ∧ hiO2_ ≤ loO3_ ∧ loO3_ ≤ hiO3_ ∧ (gv2_ < loO3_ ∨ hiO3_ ≤ gv2_) ∧ w3.drew.heap.size ≤ gv2_) ?_ ?_
      · have hS := Lib.hid (Below.refl w3.drew.heap.size w3.drew)
        have g0_ := b0.lt
        have g1_ := b1.lt
        go_region_held3 (fun w_ => w_.cell? ⟨w.heap.size, 0, none⟩ = some (.int .i64 C0) ∧ w_.cell? ⟨w.heap.size, 1, none⟩ = some (.slice A0 ts0.length c0) ∧ w_.cell? ⟨w.heap.size + 1, 0, none⟩ = some (.int .i64 C1) ∧ w_.cell? ⟨w.heap.size + 1, 1, none⟩ = some (.slice A1 ts1.length c1)) (first | exact ⟨b0.cell rfl, b0.cell rfl, b1.cell rfl, b1.cell rfl⟩ | exact ⟨(b0.alloc _).cell rfl, (b0.alloc _).cell rfl, (b1.alloc _).cell rfl, (b1.alloc _).cell rfl⟩ | exact ⟨(b0.far2 (by omega) _ _).cell rfl, (b0.far2 (by omega) _ _).cell rfl, (b1.far2 (by omega) _ _).cell rfl, (b1.far2 (by omega) _ _).cell rfl⟩ | fail)
          (first
            | (go_at_call 24; refine at_world w3.drew ?_; refine (toSet_any C0 A0 ts0 ts0.length c0 _ rfl (HA0.out.below hE.out) (by omega)).mono ?_; rintro e w4 ⟨v_, rfl, hO, hB⟩; obtain ⟨A1_, c1_, rfl, -, -⟩ := hO.reads; have O1 := Lib.hid (OW.of hO); clear hO; replace b0 := b0.below hB b0.lt; replace b1 := b1.below hB b1.lt; have sw4 : w3.drew.heap.size ≤ w4.heap.size := hB.size; replace hE := Lib.hid (below_to hE.out hB); replace hS := Lib.hid (below_to hS.out hB); (try (replace b6 := b6.below hB b6.lt; have z0_ := b6.cell (k := 0) (v := .int .i64 0) rfl; have z1_ := b6.cell (k := 1) (v := .slice none 0 0) rfl; have y0_ := b6.frozen 0; have y1_ := b6.frozen 1; have y2_ := b6.lt)); clear hB)
            | (go_at_call 24; refine at_alloc (w := w3.drew) ?_; intro wA hA hzA b6_; have b6 : BK wA w3.heap.size _ _ := b6_; clear b6_; replace b0 := b0.below hA b0.lt; replace b1 := b1.below hA b1.lt; replace hE := Lib.hid (below_to hE.out hA); replace hS := Lib.hid (below_to hS.out hA); clear hA; refine (toSet_any C0 A0 ts0 ts0.length c0 _ rfl (HA0.out.below hE.out) (by omega)).mono ?_; rintro e w4 ⟨v_, rfl, hO, hB⟩; obtain ⟨A1_, c1_, rfl, -, -⟩ := hO.reads; have O1 := Lib.hid (OW.of hO); clear hO; replace b0 := b0.below hB b0.lt; replace b1 := b1.below hB b1.lt; have sw4 : wA.heap.size ≤ w4.heap.size := hB.size; replace hE := Lib.hid (below_to hE.out hB); replace hS := Lib.hid (below_to hS.out hB); (try (replace b6 := b6.below hB b6.lt; have z0_ := b6.cell (k := 0) (v := .int .i64 0) rfl; have z1_ := b6.cell (k := 1) (v := .slice none 0 0) rfl; have y0_ := b6.frozen 0; have y1_ := b6.frozen 1; have y2_ := b6.lt)); clear hB)
            | (go_at_call 24; refine at_world w4 ?_; refine (toSet_any C1 A1 ts1 ts1.length c1 _ rfl (HA1.out.below hE.out) (by omega)).mono ?_; rintro e w5 ⟨v_, rfl, hO, hB⟩; obtain ⟨A2_, c2_, rfl, -, -⟩ := hO.reads; have O2 := Lib.hid (OW.of hO); clear hO; replace b0 := b0.below hB b0.lt; replace b1 := b1.below hB b1.lt; replace O1 := Lib.hid (O1.out.to hB); have sw5 : w4.heap.size ≤ w5.heap.size := hB.size; replace hE := Lib.hid (below_to hE.out hB); replace hS := Lib.hid (below_to hS.out hB); (try (replace b6 := b6.below hB b6.lt; have z0_ := b6.cell (k := 0) (v := .int .i64 0) rfl; have z1_ := b6.cell (k := 1) (v := .slice none 0 0) rfl; have y0_ := b6.frozen 0; have y1_ := b6.frozen 1; have y2_ := b6.lt)); clear hB)
            | (go_at_call 24; refine at_alloc (w := w4) ?_; intro wA hA hzA b6_; have b6 : BK wA w4.heap.size _ _ := b6_; clear b6_; replace b0 := b0.below hA b0.lt; replace b1 := b1.below hA b1.lt; replace O1 := Lib.hid (O1.out.to hA); replace hE := Lib.hid (below_to hE.out hA); replace hS := Lib.hid (below_to hS.out hA); clear hA; refine (toSet_any C1 A1 ts1 ts1.length c1 _ rfl (HA1.out.below hE.out) (by omega)).mono ?_; rintro e w5 ⟨v_, rfl, hO, hB⟩; obtain ⟨A2_, c2_, rfl, -, -⟩ := hO.reads; have O2 := Lib.hid (OW.of hO); clear hO; replace b0 := b0.below hB b0.lt; replace b1 := b1.below hB b1.lt; replace O1 := Lib.hid (O1.out.to hB); have sw5 : wA.heap.size ≤ w5.heap.size := hB.size; replace hE := Lib.hid (below_to hE.out hB); replace hS := Lib.hid (below_to hS.out hB); (try (replace b6 := b6.below hB b6.lt; have z0_ := b6.cell (k := 0) (v := .int .i64 0) rfl; have z1_ := b6.cell (k := 1) (v := .slice none 0 0) rfl; have y0_ := b6.frozen 0; have y1_ := b6.frozen 1; have y2_ := b6.lt)); clear hB)
            | (go_at_call 34; refine at_world w5 ?_; refine (specProductOfSets_any C0 A1_ ts0 ts0.length c1_ C1 A2_ ts1 ts1.length c2_ _ rfl (rt_of O1.out rfl) (le_of O1.out) (by omega) rfl (rt_of O2.out rfl) (le_of O2.out) (by omega)).mono ?_; rintro e w6 ⟨v0_, xc0_, x0_, x1_, hR_, rfl, hO0, hB⟩; obtain ⟨rfl, rfl, rfl⟩ : rc1 = xc0_ ∧ r1 = x0_ ∧ r2 = x1_ := (by have h_ := HR.out.symm.trans hR_; simpa [and_assoc] using h_); clear hR_; obtain ⟨A3_, c3_, rfl, -⟩ := hO0.form; have O3 := Lib.hid hO0; clear hO0; replace b0 := b0.below hB b0.lt; replace b1 := b1.below hB b1.lt; replace O1 := Lib.hid (O1.out.to hB); replace O2 := Lib.hid (O2.out.to hB); have sw6 : w5.heap.size ≤ w6.heap.size := hB.size; replace hE := Lib.hid (below_to hE.out hB); replace hS := Lib.hid (below_to hS.out hB); (try (replace b6 := b6.below hB b6.lt; have z0_ := b6.cell (k := 0) (v := .int .i64 0) rfl; have z1_ := b6.cell (k := 1) (v := .slice none 0 0) rfl; have y0_ := b6.frozen 0; have y1_ := b6.frozen 1; have y2_ := b6.lt)); clear hB)
            | (go_at_call 34; refine at_alloc (w := w5) ?_; intro wA hA hzA b6_; have b6 : BK wA w5.heap.size _ _ := b6_; clear b6_; replace b0 := b0.below hA b0.lt; replace b1 := b1.below hA b1.lt; replace O1 := Lib.hid (O1.out.to hA); replace O2 := Lib.hid (O2.out.to hA); replace hE := Lib.hid (below_to hE.out hA); replace hS := Lib.hid (below_to hS.out hA); clear hA; refine (specProductOfSets_any C0 A1_ ts0 ts0.length c1_ C1 A2_ ts1 ts1.length c2_ _ rfl (rt_of O1.out rfl) (le_of O1.out) (by omega) rfl (rt_of O2.out rfl) (le_of O2.out) (by omega)).mono ?_; rintro e w6 ⟨v0_, xc0_, x0_, x1_, hR_, rfl, hO0, hB⟩; obtain ⟨rfl, rfl, rfl⟩ : rc1 = xc0_ ∧ r1 = x0_ ∧ r2 = x1_ := (by have h_ := HR.out.symm.trans hR_; simpa [and_assoc] using h_); clear hR_; obtain ⟨A3_, c3_, rfl, -⟩ := hO0.form; have O3 := Lib.hid hO0; clear hO0; replace b0 := b0.below hB b0.lt; replace b1 := b1.below hB b1.lt; replace O1 := Lib.hid (O1.out.to hB); replace O2 := Lib.hid (O2.out.to hB); have sw6 : wA.heap.size ≤ w6.heap.size := hB.size; replace hE := Lib.hid (below_to hE.out hB); replace hS := Lib.hid (below_to hS.out hB); (try (replace b6 := b6.below hB b6.lt; have z0_ := b6.cell (k := 0) (v := .int .i64 0) rfl; have z1_ := b6.cell (k := 1) (v := .slice none 0 0) rfl; have y0_ := b6.frozen 0; have y1_ := b6.frozen 1; have y2_ := b6.lt)); clear hB))
        all_goals first
          | (refine ⟨_, A1_, c1_, _, _, A2_, c2_, _, _, A3_, c3_, _, _, ?_, leaf_store hS.out ?_ _ _, O1.out.store ?_ _ _, O2.out.store ?_ _ _, O3.out.store ?_ _ _, b6.store2 _ _, ?_, ?_, ?_, ?_, ?_, ?_, ?_, ?_, ?_, ?_⟩ <;> first | omega | (simp only [Act.put, List.setIfInBounds_toArray, List.set_cons_zero, List.set_cons_succ]))
          | (refine ⟨_, A1_, c1_, _, _, A2_, c2_, _, _, A3_, c3_, _, _, ?_, below_al hS.out _, O1.out.to (new_below _ _), O2.out.to (new_below _ _), O3.out.to (new_below _ _), BK.new _ _ _, ?_, ?_, ?_, ?_, ?_, ?_, ?_, ?_, ?_, ?_⟩ <;> first | omega | (simp only [Act.put, List.setIfInBounds_toArray, List.set_cons_zero, List.set_cons_succ]))
      · intro a_ w7 hR_
        obtain ⟨gv2_, A1_, c1_, loO1_, hiO1_, A2_, c2_, loO2_, hiO2_, A3_, c3_, loO3_, hiO3_, rfl, hB, hOO1, hOO2, hOO3, b2, qw7_0, qw7_1, qw7_2, qw7_3, qw7_4, qw7_5, qw7_6, qw7_7, qw7_8, qw7_9⟩ := hR_
        simp only [Act.put, List.setIfInBounds_toArray, List.set_cons_zero, List.set_cons_succ]
        have O1 := Lib.hid hOO1; have topO1 := hOO1.top; clear hOO1
        have O2 := Lib.hid hOO2; have topO2 := hOO2.top; clear hOO2
        have O3 := Lib.hid hOO3; have topO3 := hOO3.top; clear hOO3
        replace b0 := b0.below hB b0.lt
        replace b1 := b1.below hB b1.lt
        have sw7 : w3.drew.heap.size ≤ w7.heap.size := hB.size
        replace hE := Lib.hid (below_to hE.out hB)
        have kw7 := b2.lt
        clear hB
        have l0 := b0.lt
        have c0_0 : w7.cell? ⟨w.heap.size, 0, none⟩ = some (.int .i64 C0) := b0.cell rfl
        have c0_1 : w7.cell? ⟨w.heap.size, 1, none⟩ = some (.slice A0 ts0.length c0) := b0.cell rfl
        have l1 := b1.lt
        have c1_0 : w7.cell? ⟨w.heap.size + 1, 0, none⟩ = some (.int .i64 C1) := b1.cell rfl
        have c1_1 : w7.cell? ⟨w.heap.size + 1, 1, none⟩ = some (.slice A1 ts1.length c1) := b1.cell rfl
        have l2 := b2.lt
        have c2_0 : w7.cell? ⟨gv2_, 0, none⟩ = some (.int .i64 rc1) := b2.cell rfl
        have c2_1 : w7.cell? ⟨gv2_, 1, none⟩ = some (.slice A3_ r1.length c3_) := b2.cell rfl
        go_wp2_with fail
        clear l0 c0_0 c0_1 l1 c1_0 c1_1 l2 c2_0 c2_1
        refine (toSet_any C0 A0 ts0 ts0.length c0 w7 rfl (HA0.out.below hE.out) (by omega)).mono ?_
        rintro e w8 ⟨v_, rfl, hO, hB⟩
        obtain ⟨A4_, c4_, rfl, -, -⟩ := hO.reads
        have O4 := Lib.hid (OW.of hO)
        clear hO
        replace b0 := b0.below hB b0.lt
        replace b1 := b1.below hB b1.lt
        replace b2 := b2.below hB b2.lt
        replace O1 := Lib.hid (O1.out.to hB)
        replace O2 := Lib.hid (O2.out.to hB)
        replace O3 := Lib.hid (O3.out.to hB)
        have sw8 : w7.heap.size ≤ w8.heap.size := hB.size
        replace hE := Lib.hid (below_to hE.out hB)
        clear hB
        have l0 := b0.lt
        have c0_0 : w8.cell? ⟨w.heap.size, 0, none⟩ = some (.int .i64 C0) := b0.cell rfl
        have c0_1 : w8.cell? ⟨w.heap.size, 1, none⟩ = some (.slice A0 ts0.length c0) := b0.cell rfl
        have l1 := b1.lt
        have c1_0 : w8.cell? ⟨w.heap.size + 1, 0, none⟩ = some (.int .i64 C1) := b1.cell rfl
        have c1_1 : w8.cell? ⟨w.heap.size + 1, 1, none⟩ = some (.slice A1 ts1.length c1) := b1.cell rfl
        have l2 := b2.lt
        have c2_0 : w8.cell? ⟨gv2_, 0, none⟩ = some (.int .i64 rc1) := b2.cell rfl
        have c2_1 : w8.cell? ⟨gv2_, 1, none⟩ = some (.slice A3_ r1.length c3_) := b2.cell rfl
        go_wp2_with fail
        clear l0 c0_0 c0_1 l1 c1_0 c1_1 l2 c2_0 c2_1
        refine namec1 ?_
        intro w9 b3 hz hB
        have tw9 : w8.heap.size + 1 ≤ w9.heap.size := by omega
        clear hz
        replace b0 := b0.below hB b0.lt
        replace b1 := b1.below hB b1.lt
        replace b2 := b2.below hB b2.lt
        replace O1 := Lib.hid (O1.out.to hB)
        replace O2 := Lib.hid (O2.out.to hB)
        replace O3 := Lib.hid (O3.out.to hB)
        replace O4 := Lib.hid (O4.out.to hB)
        have sw9 : w8.heap.size ≤ w9.heap.size := hB.size
        replace hE := Lib.hid (below_to hE.out hB)
        clear hB
        refine (toSet_any C1 A1 ts1 ts1.length c1 w9 rfl (HA1.out.below hE.out) (by omega)).mono ?_
        rintro e w10 ⟨v_, rfl, hO, hB⟩
        obtain ⟨A5_, c5_, rfl, -, -⟩ := hO.reads
        have O5 := Lib.hid (OW.of hO)
        clear hO
        replace b0 := b0.below hB b0.lt
        replace b1 := b1.below hB b1.lt
        replace b2 := b2.below hB b2.lt
        replace b3 := b3.below hB b3.lt
        replace O1 := Lib.hid (O1.out.to hB)
        replace O2 := Lib.hid (O2.out.to hB)
        replace O3 := Lib.hid (O3.out.to hB)
        replace O4 := Lib.hid (O4.out.to hB)
        have sw10 : w9.heap.size ≤ w10.heap.size := hB.size
        replace hE := Lib.hid (below_to hE.out hB)
        clear hB
        have l0 := b0.lt
        have c0_0 : w10.cell? ⟨w.heap.size, 0, none⟩ = some (.int .i64 C0) := b0.cell rfl
        have c0_1 : w10.cell? ⟨w.heap.size, 1, none⟩ = some (.slice A0 ts0.length c0) := b0.cell rfl
        have l1 := b1.lt
        have c1_0 : w10.cell? ⟨w.heap.size + 1, 0, none⟩ = some (.int .i64 C1) := b1.cell rfl
        have c1_1 : w10.cell? ⟨w.heap.size + 1, 1, none⟩ = some (.slice A1 ts1.length c1) := b1.cell rfl
        have l2 := b2.lt
        have c2_0 : w10.cell? ⟨gv2_, 0, none⟩ = some (.int .i64 rc1) := b2.cell rfl
        have c2_1 : w10.cell? ⟨gv2_, 1, none⟩ = some (.slice A3_ r1.length c3_) := b2.cell rfl
        have l3 := b3.lt
        have c3_0 : w10.cell? ⟨w8.heap.size, 0, none⟩ = some (.int .i64 C0) := b3.cell rfl
        have c3_1 : w10.cell? ⟨w8.heap.size, 1, none⟩ = some (.slice A4_ ts0.length c4_) := b3.cell rfl
        go_wp2_with fail
        clear l0 c0_0 c0_1 l1 c1_0 c1_1 l2 c2_0 c2_1 l3 c3_0 c3_1
        refine namec1 ?_
        intro w11 b4 hz hB
        have tw11 : w10.heap.size + 1 ≤ w11.heap.size := by omega
        clear hz
        replace b0 := b0.below hB b0.lt
        replace b1 := b1.below hB b1.lt
        replace b2 := b2.below hB b2.lt
        replace b3 := b3.below hB b3.lt
        replace O1 := Lib.hid (O1.out.to hB)
        replace O2 := Lib.hid (O2.out.to hB)
        replace O3 := Lib.hid (O3.out.to hB)
        replace O4 := Lib.hid (O4.out.to hB)
        replace O5 := Lib.hid (O5.out.to hB)
        have sw11 : w10.heap.size ≤ w11.heap.size := hB.size
        replace hE := Lib.hid (below_to hE.out hB)
        clear hB
        refine (implProductOfSets_any C0 A4_ ts0 ts0.length c4_ C1 A5_ ts1 ts1.length c5_ w11 rfl (rt_of O4.out rfl) (le_of O4.out) (by omega) rfl (rt_of O5.out rfl) (le_of O5.out) (by omega)).mono ?_
        rintro e w12 ⟨v0_, xc0_, x0_, x1_, hR_, rfl, hO0, hB⟩
        obtain ⟨rfl, rfl, rfl⟩ : rc1 = xc0_ ∧ r1 = x0_ ∧ r2 = x1_ := (by have h_ := HR.out.symm.trans hR_; simpa [and_assoc] using h_)
        clear hR_
        obtain ⟨A6_, c6_, rfl, -⟩ := hO0.form
        have O6 := Lib.hid hO0
        clear hO0
        replace b0 := b0.below hB b0.lt
        replace b1 := b1.below hB b1.lt
        replace b2 := b2.below hB b2.lt
        replace b3 := b3.below hB b3.lt
        replace b4 := b4.below hB b4.lt
        replace O1 := Lib.hid (O1.out.to hB)
        replace O2 := Lib.hid (O2.out.to hB)
        replace O3 := Lib.hid (O3.out.to hB)
        replace O4 := Lib.hid (O4.out.to hB)
        replace O5 := Lib.hid (O5.out.to hB)
        have sw12 : w11.heap.size ≤ w12.heap.size := hB.size
        replace hE := Lib.hid (below_to hE.out hB)
        clear hB
        have l0 := b0.lt
        have c0_0 : w12.cell? ⟨w.heap.size, 0, none⟩ = some (.int .i64 C0) := b0.cell rfl
        have c0_1 : w12.cell? ⟨w.heap.size, 1, none⟩ = some (.slice A0 ts0.length c0) := b0.cell rfl
        have l1 := b1.lt
        have c1_0 : w12.cell? ⟨w.heap.size + 1, 0, none⟩ = some (.int .i64 C1) := b1.cell rfl
        have c1_1 : w12.cell? ⟨w.heap.size + 1, 1, none⟩ = some (.slice A1 ts1.length c1) := b1.cell rfl
        have l2 := b2.lt
        have c2_0 : w12.cell? ⟨gv2_, 0, none⟩ = some (.int .i64 rc1) := b2.cell rfl
        have c2_1 : w12.cell? ⟨gv2_, 1, none⟩ = some (.slice A3_ r1.length c3_) := b2.cell rfl
        have l3 := b3.lt
        have c3_0 : w12.cell? ⟨w8.heap.size, 0, none⟩ = some (.int .i64 C0) := b3.cell rfl
        have c3_1 : w12.cell? ⟨w8.heap.size, 1, none⟩ = some (.slice A4_ ts0.length c4_) := b3.cell rfl
        have l4 := b4.lt
        have c4_0 : w12.cell? ⟨w10.heap.size, 0, none⟩ = some (.int .i64 C1) := b4.cell rfl
        have c4_1 : w12.cell? ⟨w10.heap.size, 1, none⟩ = some (.slice A5_ ts1.length c5_) := b4.cell rfl
        go_wp2_with fail
        clear l0 c0_0 c0_1 l1 c1_0 c1_1 l2 c2_0 c2_1 l3 c3_0 c3_1 l4 c4_0 c4_1
        refine namec1 ?_
        intro w13 b5 hz hB
        have tw13 : w12.heap.size + 1 ≤ w13.heap.size := by omega
        clear hz
        replace b0 := b0.below hB b0.lt
        replace b1 := b1.below hB b1.lt
        replace b2 := b2.below hB b2.lt
        replace b3 := b3.below hB b3.lt
        replace b4 := b4.below hB b4.lt
        replace O1 := Lib.hid (O1.out.to hB)
        replace O2 := Lib.hid (O2.out.to hB)
        replace O3 := Lib.hid (O3.out.to hB)
        replace O4 := Lib.hid (O4.out.to hB)
        replace O5 := Lib.hid (O5.out.to hB)
        replace O6 := Lib.hid (O6.out.to hB)
        have sw13 : w12.heap.size ≤ w13.heap.size := hB.size
        replace hE := Lib.hid (below_to hE.out hB)
        clear hB
        refine (eqSet_any rc1 rc1 A6_ A3_ r1 r1 r1.length r1.length c6_ c3_ w13 rfl rfl (rt_of O6.out rfl) (rt_of O3.out rfl) (by omega) (by omega)).mono ?_
        rintro e w14 ⟨rfl, hB⟩
        simp only [decide_true, Bool.and_self]
        replace b0 := b0.below hB b0.lt
        replace b1 := b1.below hB b1.lt
        replace b2 := b2.below hB b2.lt
        replace b3 := b3.below hB b3.lt
        replace b4 := b4.below hB b4.lt
        replace b5 := b5.below hB b5.lt
        replace O1 := Lib.hid (O1.out.to hB)
        replace O2 := Lib.hid (O2.out.to hB)
        replace O3 := Lib.hid (O3.out.to hB)
        replace O4 := Lib.hid (O4.out.to hB)
        replace O5 := Lib.hid (O5.out.to hB)
        replace O6 := Lib.hid (O6.out.to hB)
        have sw14 : w13.heap.size ≤ w14.heap.size := hB.size
        replace hE := Lib.hid (below_to hE.out hB)
        clear hB
        have l0 := b0.lt
        have c0_0 : w14.cell? ⟨w.heap.size, 0, none⟩ = some (.int .i64 C0) := b0.cell rfl
        have c0_1 : w14.cell? ⟨w.heap.size, 1, none⟩ = some (.slice A0 ts0.length c0) := b0.cell rfl
        have l1 := b1.lt
        have c1_0 : w14.cell? ⟨w.heap.size + 1, 0, none⟩ = some (.int .i64 C1) := b1.cell rfl
        have c1_1 : w14.cell? ⟨w.heap.size + 1, 1, none⟩ = some (.slice A1 ts1.length c1) := b1.cell rfl
        have l2 := b2.lt
        have c2_0 : w14.cell? ⟨gv2_, 0, none⟩ = some (.int .i64 rc1) := b2.cell rfl
        have c2_1 : w14.cell? ⟨gv2_, 1, none⟩ = some (.slice A3_ r1.length c3_) := b2.cell rfl
        have l3 := b3.lt
        have c3_0 : w14.cell? ⟨w8.heap.size, 0, none⟩ = some (.int .i64 C0) := b3.cell rfl
        have c3_1 : w14.cell? ⟨w8.heap.size, 1, none⟩ = some (.slice A4_ ts0.length c4_) := b3.cell rfl
        have l4 := b4.lt
        have c4_0 : w14.cell? ⟨w10.heap.size, 0, none⟩ = some (.int .i64 C1) := b4.cell rfl
        have c4_1 : w14.cell? ⟨w10.heap.size, 1, none⟩ = some (.slice A5_ ts1.length c5_) := b4.cell rfl
        have l5 := b5.lt
        have c5_0 : w14.cell? ⟨w12.heap.size, 0, none⟩ = some (.int .i64 rc1) := b5.cell rfl
        have c5_1 : w14.cell? ⟨w12.heap.size, 1, none⟩ = some (.slice A6_ r1.length c6_) := b5.cell rfl
        go_wp2_with fail
        clear l0 c0_0 c0_1 l1 c1_0 c1_1 l2 c2_0 c2_1 l3 c3_0 c3_1 l4 c4_0 c4_1 l5 c5_0 c5_1
        have hD : Below w14.heap.size w14 w14.drew := (Below.refl _ _).drew
        replace b0 := b0.below hD b0.lt
        replace b1 := b1.below hD b1.lt
        replace b2 := b2.below hD b2.lt
        replace b3 := b3.below hD b3.lt
        replace b4 := b4.below hD b4.lt
        replace b5 := b5.below hD b5.lt
        replace O1 := Lib.hid (O1.out.to hD)
        replace O2 := Lib.hid (O2.out.to hD)
        replace O3 := Lib.hid (O3.out.to hD)
        replace O4 := Lib.hid (O4.out.to hD)
        replace O5 := Lib.hid (O5.out.to hD)
        replace O6 := Lib.hid (O6.out.to hD)
        replace hE := Lib.hid (below_to hE.out hD)
        clear hD
        have d1_w14 : w14.heap.size ≤ w14.drew.heap.size := Nat.le_refl _
        have d2_w14 : w14.drew.heap.size ≤ w14.heap.size := Nat.le_refl _
        go_region_held3 (fun w_ => w_.cell? ⟨w.heap.size, 0, none⟩ = some (.int .i64 C0) ∧ w_.cell? ⟨w.heap.size, 1, none⟩ = some (.slice A0 ts0.length c0) ∧ w_.cell? ⟨w.heap.size + 1, 0, none⟩ = some (.int .i64 C1) ∧ w_.cell? ⟨w.heap.size + 1, 1, none⟩ = some (.slice A1 ts1.length c1) ∧ w_.cell? ⟨gv2_, 0, none⟩ = some (.int .i64 rc1) ∧ w_.cell? ⟨gv2_, 1, none⟩ = some (.slice A3_ r1.length c3_) ∧ w_.cell? ⟨w8.heap.size, 0, none⟩ = some (.int .i64 C0) ∧ w_.cell? ⟨w8.heap.size, 1, none⟩ = some (.slice A4_ ts0.length c4_) ∧ w_.cell? ⟨w10.heap.size, 0, none⟩ = some (.int .i64 C1) ∧ w_.cell? ⟨w10.heap.size, 1, none⟩ = some (.slice A5_ ts1.length c5_) ∧ w_.cell? ⟨w12.heap.size, 0, none⟩ = some (.int .i64 rc1) ∧ w_.cell? ⟨w12.heap.size, 1, none⟩ = some (.slice A6_ r1.length c6_)) (first | exact ⟨b0.cell rfl, b0.cell rfl, b1.cell rfl, b1.cell rfl, b2.cell rfl, b2.cell rfl, b3.cell rfl, b3.cell rfl, b4.cell rfl, b4.cell rfl, b5.cell rfl, b5.cell rfl⟩)
          (first
            | (go_at_call 24; refine (toSet_any C0 A0 ts0 ts0.length c0 w14.drew rfl (HA0.out.below hE.out) (by omega)).mono ?_; rintro e w15 ⟨v_, rfl, hO, hB⟩; obtain ⟨A7_, c7_, rfl, -, -⟩ := hO.reads; have O7 := Lib.hid (OW.of hO); clear hO; replace b0 := b0.below hB b0.lt; replace b1 := b1.below hB b1.lt; replace b2 := b2.below hB b2.lt; replace b3 := b3.below hB b3.lt; replace b4 := b4.below hB b4.lt; replace b5 := b5.below hB b5.lt; replace O1 := Lib.hid (O1.out.to hB); replace O2 := Lib.hid (O2.out.to hB); replace O3 := Lib.hid (O3.out.to hB); replace O4 := Lib.hid (O4.out.to hB); replace O5 := Lib.hid (O5.out.to hB); replace O6 := Lib.hid (O6.out.to hB); have sw15 : w14.drew.heap.size ≤ w15.heap.size := hB.size; replace hE := Lib.hid (below_to hE.out hB); clear hB)
            | (go_at_call 17; refine (eqSet_any C0 C0 A4_ A7_ ts0 ts0 ts0.length ts0.length c4_ c7_ w15 rfl rfl (rt_of O4.out rfl) (rt_of O7.out rfl) (by omega) (by omega)).mono ?_; rintro e w16 ⟨rfl, hB⟩; simp only [decide_true, Bool.and_self]; replace b0 := b0.below hB b0.lt; replace b1 := b1.below hB b1.lt; replace b2 := b2.below hB b2.lt; replace b3 := b3.below hB b3.lt; replace b4 := b4.below hB b4.lt; replace b5 := b5.below hB b5.lt; replace O1 := Lib.hid (O1.out.to hB); replace O2 := Lib.hid (O2.out.to hB); replace O3 := Lib.hid (O3.out.to hB); replace O4 := Lib.hid (O4.out.to hB); replace O5 := Lib.hid (O5.out.to hB); replace O6 := Lib.hid (O6.out.to hB); replace O7 := Lib.hid (O7.out.to hB); have sw16 : w15.heap.size ≤ w16.heap.size := hB.size; replace hE := Lib.hid (below_to hE.out hB); clear hB))
        have l0 := b0.lt
        have c0_0 : w16.cell? ⟨w.heap.size, 0, none⟩ = some (.int .i64 C0) := b0.cell rfl
        have c0_1 : w16.cell? ⟨w.heap.size, 1, none⟩ = some (.slice A0 ts0.length c0) := b0.cell rfl
        have l1 := b1.lt
        have c1_0 : w16.cell? ⟨w.heap.size + 1, 0, none⟩ = some (.int .i64 C1) := b1.cell rfl
        have c1_1 : w16.cell? ⟨w.heap.size + 1, 1, none⟩ = some (.slice A1 ts1.length c1) := b1.cell rfl
        have l2 := b2.lt
        have c2_0 : w16.cell? ⟨gv2_, 0, none⟩ = some (.int .i64 rc1) := b2.cell rfl
        have c2_1 : w16.cell? ⟨gv2_, 1, none⟩ = some (.slice A3_ r1.length c3_) := b2.cell rfl
        have l3 := b3.lt
        have c3_0 : w16.cell? ⟨w8.heap.size, 0, none⟩ = some (.int .i64 C0) := b3.cell rfl
        have c3_1 : w16.cell? ⟨w8.heap.size, 1, none⟩ = some (.slice A4_ ts0.length c4_) := b3.cell rfl
        have l4 := b4.lt
        have c4_0 : w16.cell? ⟨w10.heap.size, 0, none⟩ = some (.int .i64 C1) := b4.cell rfl
        have c4_1 : w16.cell? ⟨w10.heap.size, 1, none⟩ = some (.slice A5_ ts1.length c5_) := b4.cell rfl
        have l5 := b5.lt
        have c5_0 : w16.cell? ⟨w12.heap.size, 0, none⟩ = some (.int .i64 rc1) := b5.cell rfl
        have c5_1 : w16.cell? ⟨w12.heap.size, 1, none⟩ = some (.slice A6_ r1.length c6_) := b5.cell rfl
        go_wp2_with fail
        clear l0 c0_0 c0_1 l1 c1_0 c1_1 l2 c2_0 c2_1 l3 c3_0 c3_1 l4 c4_0 c4_1 l5 c5_0 c5_1
        have hD : Below w16.heap.size w16 w16.drew := (Below.refl _ _).drew
        replace b0 := b0.below hD b0.lt
        replace b1 := b1.below hD b1.lt
        replace b2 := b2.below hD b2.lt
        replace b3 := b3.below hD b3.lt
        replace b4 := b4.below hD b4.lt
        replace b5 := b5.below hD b5.lt
        replace O1 := Lib.hid (O1.out.to hD)
        replace O2 := Lib.hid (O2.out.to hD)
        replace O3 := Lib.hid (O3.out.to hD)
        replace O4 := Lib.hid (O4.out.to hD)
        replace O5 := Lib.hid (O5.out.to hD)
        replace O6 := Lib.hid (O6.out.to hD)
        replace O7 := Lib.hid (O7.out.to hD)
        replace hE := Lib.hid (below_to hE.out hD)
        clear hD
        have d1_w16 : w16.heap.size ≤ w16.drew.heap.size := Nat.le_refl _
        have d2_w16 : w16.drew.heap.size ≤ w16.heap.size := Nat.le_refl _
        go_region_held3 (fun w_ => w_.cell? ⟨w.heap.size, 0, none⟩ = some (.int .i64 C0) ∧ w_.cell? ⟨w.heap.size, 1, none⟩ = some (.slice A0 ts0.length c0) ∧ w_.cell? ⟨w.heap.size + 1, 0, none⟩ = some (.int .i64 C1) ∧ w_.cell? ⟨w.heap.size + 1, 1, none⟩ = some (.slice A1 ts1.length c1) ∧ w_.cell? ⟨gv2_, 0, none⟩ = some (.int .i64 rc1) ∧ w_.cell? ⟨gv2_, 1, none⟩ = some (.slice A3_ r1.length c3_) ∧ w_.cell? ⟨w8.heap.size, 0, none⟩ = some (.int .i64 C0) ∧ w_.cell? ⟨w8.heap.size, 1, none⟩ = some (.slice A4_ ts0.length c4_) ∧ w_.cell? ⟨w10.heap.size, 0, none⟩ = some (.int .i64 C1) ∧ w_.cell? ⟨w10.heap.size, 1, none⟩ = some (.slice A5_ ts1.length c5_) ∧ w_.cell? ⟨w12.heap.size, 0, none⟩ = some (.int .i64 rc1) ∧ w_.cell? ⟨w12.heap.size, 1, none⟩ = some (.slice A6_ r1.length c6_)) (first | exact ⟨b0.cell rfl, b0.cell rfl, b1.cell rfl, b1.cell rfl, b2.cell rfl, b2.cell rfl, b3.cell rfl, b3.cell rfl, b4.cell rfl, b4.cell rfl, b5.cell rfl, b5.cell rfl⟩)
          (first
            | (go_at_call 24; refine (toSet_any C1 A1 ts1 ts1.length c1 w16.drew rfl (HA1.out.below hE.out) (by omega)).mono ?_; rintro e w17 ⟨v_, rfl, hO, hB⟩; obtain ⟨A8_, c8_, rfl, -, -⟩ := hO.reads; have O8 := Lib.hid (OW.of hO); clear hO; replace b0 := b0.below hB b0.lt; replace b1 := b1.below hB b1.lt; replace b2 := b2.below hB b2.lt; replace b3 := b3.below hB b3.lt; replace b4 := b4.below hB b4.lt; replace b5 := b5.below hB b5.lt; replace O1 := Lib.hid (O1.out.to hB); replace O2 := Lib.hid (O2.out.to hB); replace O3 := Lib.hid (O3.out.to hB); replace O4 := Lib.hid (O4.out.to hB); replace O5 := Lib.hid (O5.out.to hB); replace O6 := Lib.hid (O6.out.to hB); replace O7 := Lib.hid (O7.out.to hB); have sw17 : w16.drew.heap.size ≤ w17.heap.size := hB.size; replace hE := Lib.hid (below_to hE.out hB); clear hB)
            | (go_at_call 17; refine (eqSet_any C1 C1 A5_ A8_ ts1 ts1 ts1.length ts1.length c5_ c8_ w17 rfl rfl (rt_of O5.out rfl) (rt_of O8.out rfl) (by omega) (by omega)).mono ?_; rintro e w18 ⟨rfl, hB⟩; simp only [decide_true, Bool.and_self]; replace b0 := b0.below hB b0.lt; replace b1 := b1.below hB b1.lt; replace b2 := b2.below hB b2.lt; replace b3 := b3.below hB b3.lt; replace b4 := b4.below hB b4.lt; replace b5 := b5.below hB b5.lt; replace O1 := Lib.hid (O1.out.to hB); replace O2 := Lib.hid (O2.out.to hB); replace O3 := Lib.hid (O3.out.to hB); replace O4 := Lib.hid (O4.out.to hB); replace O5 := Lib.hid (O5.out.to hB); replace O6 := Lib.hid (O6.out.to hB); replace O7 := Lib.hid (O7.out.to hB); replace O8 := Lib.hid (O8.out.to hB); have sw18 : w17.heap.size ≤ w18.heap.size := hB.size; replace hE := Lib.hid (below_to hE.out hB); clear hB))
        have l0 := b0.lt
        have c0_0 : w18.cell? ⟨w.heap.size, 0, none⟩ = some (.int .i64 C0) := b0.cell rfl
        have c0_1 : w18.cell? ⟨w.heap.size, 1, none⟩ = some (.slice A0 ts0.length c0) := b0.cell rfl
        have l1 := b1.lt
        have c1_0 : w18.cell? ⟨w.heap.size + 1, 0, none⟩ = some (.int .i64 C1) := b1.cell rfl
        have c1_1 : w18.cell? ⟨w.heap.size + 1, 1, none⟩ = some (.slice A1 ts1.length c1) := b1.cell rfl
        have l2 := b2.lt
        have c2_0 : w18.cell? ⟨gv2_, 0, none⟩ = some (.int .i64 rc1) := b2.cell rfl
        have c2_1 : w18.cell? ⟨gv2_, 1, none⟩ = some (.slice A3_ r1.length c3_) := b2.cell rfl
        have l3 := b3.lt
        have c3_0 : w18.cell? ⟨w8.heap.size, 0, none⟩ = some (.int .i64 C0) := b3.cell rfl
        have c3_1 : w18.cell? ⟨w8.heap.size, 1, none⟩ = some (.slice A4_ ts0.length c4_) := b3.cell rfl
        have l4 := b4.lt
        have c4_0 : w18.cell? ⟨w10.heap.size, 0, none⟩ = some (.int .i64 C1) := b4.cell rfl
        have c4_1 : w18.cell? ⟨w10.heap.size, 1, none⟩ = some (.slice A5_ ts1.length c5_) := b4.cell rfl
        have l5 := b5.lt
        have c5_0 : w18.cell? ⟨w12.heap.size, 0, none⟩ = some (.int .i64 rc1) := b5.cell rfl
        have c5_1 : w18.cell? ⟨w12.heap.size, 1, none⟩ = some (.slice A6_ r1.length c6_) := b5.cell rfl
        go_wp2_with fail
        clear l0 c0_0 c0_1 l1 c1_0 c1_1 l2 c2_0 c2_1 l3 c3_0 c3_1 l4 c4_0 c4_1 l5 c5_0 c5_1
        obtain ⟨m_O4, hm_O4⟩ : ∃ m, m = ts0.length * 4 := ⟨_, rfl⟩
        have bm_O4 : m_O4 ≤ 40000000 := by omega
        have Hm_O4 := Lib.hid hm_O4; clear hm_O4
        refine (markSet_m w7.heap.size w8.heap.size C0 (.slice A4_ ts0.length c4_) ts0.length m_O4 (tcells ts0) (1) w18 Hm_O4.out O4.out (by omega) (by omega) (by omega)).mono ?_
        rintro e w19 ⟨rfl, hO, hK⟩
        clear O4
        have O4 := Lib.hid hO
        clear hO
        replace b0 := b0.only hK (by omega)
        replace b1 := b1.only hK (by omega)
        replace b2 := b2.only hK (by omega)
        replace b3 := b3.only hK (by omega)
        replace b4 := b4.only hK (by omega)
        replace b5 := b5.only hK (by omega)
        replace O1 := Lib.hid (O1.out.only hK (by omega))
        replace O2 := Lib.hid (O2.out.only hK (by omega))
        replace O3 := Lib.hid (O3.out.only hK (by omega))
        replace O5 := Lib.hid (O5.out.only hK (by omega))
        replace O6 := Lib.hid (O6.out.only hK (by omega))
        replace O7 := Lib.hid (O7.out.only hK (by omega))
        replace O8 := Lib.hid (O8.out.only hK (by omega))
        have sw19 : w18.heap.size ≤ w19.heap.size := hK.size
        replace hE := Lib.hid (below_only hE.out hK (by omega))
        clear hK
        have l0 := b0.lt
        have c0_0 : w19.cell? ⟨w.heap.size, 0, none⟩ = some (.int .i64 C0) := b0.cell rfl
        have c0_1 : w19.cell? ⟨w.heap.size, 1, none⟩ = some (.slice A0 ts0.length c0) := b0.cell rfl
        have l1 := b1.lt
        have c1_0 : w19.cell? ⟨w.heap.size + 1, 0, none⟩ = some (.int .i64 C1) := b1.cell rfl
        have c1_1 : w19.cell? ⟨w.heap.size + 1, 1, none⟩ = some (.slice A1 ts1.length c1) := b1.cell rfl
        have l2 := b2.lt
        have c2_0 : w19.cell? ⟨gv2_, 0, none⟩ = some (.int .i64 rc1) := b2.cell rfl
        have c2_1 : w19.cell? ⟨gv2_, 1, none⟩ = some (.slice A3_ r1.length c3_) := b2.cell rfl
        have l3 := b3.lt
        have c3_0 : w19.cell? ⟨w8.heap.size, 0, none⟩ = some (.int .i64 C0) := b3.cell rfl
        have c3_1 : w19.cell? ⟨w8.heap.size, 1, none⟩ = some (.slice A4_ ts0.length c4_) := b3.cell rfl
        have l4 := b4.lt
        have c4_0 : w19.cell? ⟨w10.heap.size, 0, none⟩ = some (.int .i64 C1) := b4.cell rfl
        have c4_1 : w19.cell? ⟨w10.heap.size, 1, none⟩ = some (.slice A5_ ts1.length c5_) := b4.cell rfl
        have l5 := b5.lt
        have c5_0 : w19.cell? ⟨w12.heap.size, 0, none⟩ = some (.int .i64 rc1) := b5.cell rfl
        have c5_1 : w19.cell? ⟨w12.heap.size, 1, none⟩ = some (.slice A6_ r1.length c6_) := b5.cell rfl
        go_wp2_with fail
        clear l0 c0_0 c0_1 l1 c1_0 c1_1 l2 c2_0 c2_1 l3 c3_0 c3_1 l4 c4_0 c4_1 l5 c5_0 c5_1
        obtain ⟨m_O5, hm_O5⟩ : ∃ m, m = ts1.length * 4 := ⟨_, rfl⟩
        have bm_O5 : m_O5 ≤ 40000000 := by omega
        have Hm_O5 := Lib.hid hm_O5; clear hm_O5
        refine (markSet_m w9.heap.size w10.heap.size C1 (.slice A5_ ts1.length c5_) ts1.length m_O5 (tcells ts1) ((1 + (m_O4 : Int))) w19 Hm_O5.out O5.out (by omega) (by omega) (by omega)).mono ?_
        rintro e w20 ⟨rfl, hO, hK⟩
        clear O5
        have O5 := Lib.hid hO
        clear hO
        replace b0 := b0.only hK (by omega)
        replace b1 := b1.only hK (by omega)
        replace b2 := b2.only hK (by omega)
        replace b3 := b3.only hK (by omega)
        replace b4 := b4.only hK (by omega)
        replace b5 := b5.only hK (by omega)
        replace O1 := Lib.hid (O1.out.only hK (by omega))
        replace O2 := Lib.hid (O2.out.only hK (by omega))
        replace O3 := Lib.hid (O3.out.only hK (by omega))
        replace O4 := Lib.hid (O4.out.only hK (by omega))
        replace O6 := Lib.hid (O6.out.only hK (by omega))
        replace O7 := Lib.hid (O7.out.only hK (by omega))
        replace O8 := Lib.hid (O8.out.only hK (by omega))
        have sw20 : w19.heap.size ≤ w20.heap.size := hK.size
        replace hE := Lib.hid (below_only hE.out hK (by omega))
        clear hK
        have l0 := b0.lt
        have c0_0 : w20.cell? ⟨w.heap.size, 0, none⟩ = some (.int .i64 C0) := b0.cell rfl
        have c0_1 : w20.cell? ⟨w.heap.size, 1, none⟩ = some (.slice A0 ts0.length c0) := b0.cell rfl
        have l1 := b1.lt
        have c1_0 : w20.cell? ⟨w.heap.size + 1, 0, none⟩ = some (.int .i64 C1) := b1.cell rfl
        have c1_1 : w20.cell? ⟨w.heap.size + 1, 1, none⟩ = some (.slice A1 ts1.length c1) := b1.cell rfl
        have l2 := b2.lt
        have c2_0 : w20.cell? ⟨gv2_, 0, none⟩ = some (.int .i64 rc1) := b2.cell rfl
        have c2_1 : w20.cell? ⟨gv2_, 1, none⟩ = some (.slice A3_ r1.length c3_) := b2.cell rfl
        have l3 := b3.lt
        have c3_0 : w20.cell? ⟨w8.heap.size, 0, none⟩ = some (.int .i64 C0) := b3.cell rfl
        have c3_1 : w20.cell? ⟨w8.heap.size, 1, none⟩ = some (.slice A4_ ts0.length c4_) := b3.cell rfl
        have l4 := b4.lt
        have c4_0 : w20.cell? ⟨w10.heap.size, 0, none⟩ = some (.int .i64 C1) := b4.cell rfl
        have c4_1 : w20.cell? ⟨w10.heap.size, 1, none⟩ = some (.slice A5_ ts1.length c5_) := b4.cell rfl
        have l5 := b5.lt
        have c5_0 : w20.cell? ⟨w12.heap.size, 0, none⟩ = some (.int .i64 rc1) := b5.cell rfl
        have c5_1 : w20.cell? ⟨w12.heap.size, 1, none⟩ = some (.slice A6_ r1.length c6_) := b5.cell rfl
        go_wp2_with fail
        clear l0 c0_0 c0_1 l1 c1_0 c1_1 l2 c2_0 c2_1 l3 c3_0 c3_1 l4 c4_0 c4_1 l5 c5_0 c5_1
        refine (eqSet_any rc1 rc1 A6_ A3_ r1 r1 r1.length r1.length c6_ c3_ w20 rfl rfl (rt_of O6.out rfl) (rt_of O3.out rfl) (by omega) (by omega)).mono ?_
        rintro e w21 ⟨rfl, hB⟩
        simp only [decide_true, Bool.and_self]
        replace b0 := b0.below hB b0.lt
        replace b1 := b1.below hB b1.lt
        replace b2 := b2.below hB b2.lt
        replace b3 := b3.below hB b3.lt
        replace b4 := b4.below hB b4.lt
        replace b5 := b5.below hB b5.lt
        replace O1 := Lib.hid (O1.out.to hB)
        replace O2 := Lib.hid (O2.out.to hB)
        replace O3 := Lib.hid (O3.out.to hB)
        replace O4 := Lib.hid (O4.out.to hB)
        replace O5 := Lib.hid (O5.out.to hB)
        replace O6 := Lib.hid (O6.out.to hB)
        replace O7 := Lib.hid (O7.out.to hB)
        replace O8 := Lib.hid (O8.out.to hB)
        have sw21 : w20.heap.size ≤ w21.heap.size := hB.size
        replace hE := Lib.hid (below_to hE.out hB)
        clear hB
        have l0 := b0.lt
        have c0_0 : w21.cell? ⟨w.heap.size, 0, none⟩ = some (.int .i64 C0) := b0.cell rfl
        have c0_1 : w21.cell? ⟨w.heap.size, 1, none⟩ = some (.slice A0 ts0.length c0) := b0.cell rfl
        have l1 := b1.lt
        have c1_0 : w21.cell? ⟨w.heap.size + 1, 0, none⟩ = some (.int .i64 C1) := b1.cell rfl
        have c1_1 : w21.cell? ⟨w.heap.size + 1, 1, none⟩ = some (.slice A1 ts1.length c1) := b1.cell rfl
        have l2 := b2.lt
        have c2_0 : w21.cell? ⟨gv2_, 0, none⟩ = some (.int .i64 rc1) := b2.cell rfl
        have c2_1 : w21.cell? ⟨gv2_, 1, none⟩ = some (.slice A3_ r1.length c3_) := b2.cell rfl
        have l3 := b3.lt
        have c3_0 : w21.cell? ⟨w8.heap.size, 0, none⟩ = some (.int .i64 C0) := b3.cell rfl
        have c3_1 : w21.cell? ⟨w8.heap.size, 1, none⟩ = some (.slice A4_ ts0.length c4_) := b3.cell rfl
        have l4 := b4.lt
        have c4_0 : w21.cell? ⟨w10.heap.size, 0, none⟩ = some (.int .i64 C1) := b4.cell rfl
        have c4_1 : w21.cell? ⟨w10.heap.size, 1, none⟩ = some (.slice A5_ ts1.length c5_) := b4.cell rfl
        have l5 := b5.lt
        have c5_0 : w21.cell? ⟨w12.heap.size, 0, none⟩ = some (.int .i64 rc1) := b5.cell rfl
        have c5_1 : w21.cell? ⟨w12.heap.size, 1, none⟩ = some (.slice A6_ r1.length c6_) := b5.cell rfl
        go_wp2_with fail
        clear l0 c0_0 c0_1 l1 c1_0 c1_1 l2 c2_0 c2_1 l3 c3_0 c3_1 l4 c4_0 c4_1 l5 c5_0 c5_1
        obtain ⟨m_O6, hm_O6⟩ : ∃ m, m = r1.length * 4 := ⟨_, rfl⟩
        have bm_O6 : m_O6 ≤ 40000000 := by omega
        have Hm_O6 := Lib.hid hm_O6; clear hm_O6
        refine (markSet_m w11.heap.size w12.heap.size rc1 (.slice A6_ r1.length c6_) r1.length m_O6 (tcells r1) (1) w21 Hm_O6.out O6.out (by omega) (by omega) (by omega)).mono ?_
        rintro e w22 ⟨rfl, hO, hK⟩
        clear O6
        have O6 := Lib.hid hO
        clear hO
        replace b0 := b0.only hK (by omega)
        replace b1 := b1.only hK (by omega)
        replace b2 := b2.only hK (by omega)
        replace b3 := b3.only hK (by omega)
        replace b4 := b4.only hK (by omega)
        replace b5 := b5.only hK (by omega)
        replace O1 := Lib.hid (O1.out.only hK (by omega))
        replace O2 := Lib.hid (O2.out.only hK (by omega))
        replace O3 := Lib.hid (O3.out.only hK (by omega))
        replace O4 := Lib.hid (O4.out.only hK (by omega))
        replace O5 := Lib.hid (O5.out.only hK (by omega))
        replace O7 := Lib.hid (O7.out.only hK (by omega))
        replace O8 := Lib.hid (O8.out.only hK (by omega))
        have sw22 : w21.heap.size ≤ w22.heap.size := hK.size
        replace hE := Lib.hid (below_only hE.out hK (by omega))
        clear hK
        have l0 := b0.lt
        have c0_0 : w22.cell? ⟨w.heap.size, 0, none⟩ = some (.int .i64 C0) := b0.cell rfl
        have c0_1 : w22.cell? ⟨w.heap.size, 1, none⟩ = some (.slice A0 ts0.length c0) := b0.cell rfl
        have l1 := b1.lt
        have c1_0 : w22.cell? ⟨w.heap.size + 1, 0, none⟩ = some (.int .i64 C1) := b1.cell rfl
        have c1_1 : w22.cell? ⟨w.heap.size + 1, 1, none⟩ = some (.slice A1 ts1.length c1) := b1.cell rfl
        have l2 := b2.lt
        have c2_0 : w22.cell? ⟨gv2_, 0, none⟩ = some (.int .i64 rc1) := b2.cell rfl
        have c2_1 : w22.cell? ⟨gv2_, 1, none⟩ = some (.slice A3_ r1.length c3_) := b2.cell rfl
        have l3 := b3.lt
        have c3_0 : w22.cell? ⟨w8.heap.size, 0, none⟩ = some (.int .i64 C0) := b3.cell rfl
        have c3_1 : w22.cell? ⟨w8.heap.size, 1, none⟩ = some (.slice A4_ ts0.length c4_) := b3.cell rfl
        have l4 := b4.lt
        have c4_0 : w22.cell? ⟨w10.heap.size, 0, none⟩ = some (.int .i64 C1) := b4.cell rfl
        have c4_1 : w22.cell? ⟨w10.heap.size, 1, none⟩ = some (.slice A5_ ts1.length c5_) := b4.cell rfl
        have l5 := b5.lt
        have c5_0 : w22.cell? ⟨w12.heap.size, 0, none⟩ = some (.int .i64 rc1) := b5.cell rfl
        have c5_1 : w22.cell? ⟨w12.heap.size, 1, none⟩ = some (.slice A6_ r1.length c6_) := b5.cell rfl
        go_wp2_with fail
        clear l0 c0_0 c0_1 l1 c1_0 c1_1 l2 c2_0 c2_1 l3 c3_0 c3_1 l4 c4_0 c4_1 l5 c5_0 c5_1
        refine (heldSet_m w11.heap.size w12.heap.size rc1 (.slice A6_ r1.length c6_) r1.length m_O6 (1) w22 Hm_O6.out O6.out (by omega) (by omega) (by omega)).mono ?_
        rintro e w23 ⟨rfl, hB⟩
        replace b0 := b0.below hB b0.lt
        replace b1 := b1.below hB b1.lt
        replace b2 := b2.below hB b2.lt
        replace b3 := b3.below hB b3.lt
        replace b4 := b4.below hB b4.lt
        replace b5 := b5.below hB b5.lt
        replace O1 := Lib.hid (O1.out.to hB)
        replace O2 := Lib.hid (O2.out.to hB)
        replace O3 := Lib.hid (O3.out.to hB)
        replace O4 := Lib.hid (O4.out.to hB)
        replace O5 := Lib.hid (O5.out.to hB)
        replace O6 := Lib.hid (O6.out.to hB)
        replace O7 := Lib.hid (O7.out.to hB)
        replace O8 := Lib.hid (O8.out.to hB)
        have sw23 : w22.heap.size ≤ w23.heap.size := hB.size
        replace hE := Lib.hid (below_to hE.out hB)
        clear hB
        have l0 := b0.lt
        have c0_0 : w23.cell? ⟨w.heap.size, 0, none⟩ = some (.int .i64 C0) := b0.cell rfl
        have c0_1 : w23.cell? ⟨w.heap.size, 1, none⟩ = some (.slice A0 ts0.length c0) := b0.cell rfl
        have l1 := b1.lt
        have c1_0 : w23.cell? ⟨w.heap.size + 1, 0, none⟩ = some (.int .i64 C1) := b1.cell rfl
        have c1_1 : w23.cell? ⟨w.heap.size + 1, 1, none⟩ = some (.slice A1 ts1.length c1) := b1.cell rfl
        have l2 := b2.lt
        have c2_0 : w23.cell? ⟨gv2_, 0, none⟩ = some (.int .i64 rc1) := b2.cell rfl
        have c2_1 : w23.cell? ⟨gv2_, 1, none⟩ = some (.slice A3_ r1.length c3_) := b2.cell rfl
        have l3 := b3.lt
        have c3_0 : w23.cell? ⟨w8.heap.size, 0, none⟩ = some (.int .i64 C0) := b3.cell rfl
        have c3_1 : w23.cell? ⟨w8.heap.size, 1, none⟩ = some (.slice A4_ ts0.length c4_) := b3.cell rfl
        have l4 := b4.lt
        have c4_0 : w23.cell? ⟨w10.heap.size, 0, none⟩ = some (.int .i64 C1) := b4.cell rfl
        have c4_1 : w23.cell? ⟨w10.heap.size, 1, none⟩ = some (.slice A5_ ts1.length c5_) := b4.cell rfl
        have l5 := b5.lt
        have c5_0 : w23.cell? ⟨w12.heap.size, 0, none⟩ = some (.int .i64 rc1) := b5.cell rfl
        have c5_1 : w23.cell? ⟨w12.heap.size, 1, none⟩ = some (.slice A6_ r1.length c6_) := b5.cell rfl
        go_wp2_with fail
        clear l0 c0_0 c0_1 l1 c1_0 c1_1 l2 c2_0 c2_1 l3 c3_0 c3_1 l4 c4_0 c4_1 l5 c5_0 c5_1
        have hD : Below w23.heap.size w23 w23.drew := (Below.refl _ _).drew
        replace b0 := b0.below hD b0.lt
        replace b1 := b1.below hD b1.lt
        replace b2 := b2.below hD b2.lt
        replace b3 := b3.below hD b3.lt
        replace b4 := b4.below hD b4.lt
        replace b5 := b5.below hD b5.lt
        replace O1 := Lib.hid (O1.out.to hD)
        replace O2 := Lib.hid (O2.out.to hD)
        replace O3 := Lib.hid (O3.out.to hD)
        replace O4 := Lib.hid (O4.out.to hD)
        replace O5 := Lib.hid (O5.out.to hD)
        replace O6 := Lib.hid (O6.out.to hD)
        replace O7 := Lib.hid (O7.out.to hD)
        replace O8 := Lib.hid (O8.out.to hD)
        replace hE := Lib.hid (below_to hE.out hD)
        clear hD
        have d1_w23 : w23.heap.size ≤ w23.drew.heap.size := Nat.le_refl _
        have d2_w23 : w23.drew.heap.size ≤ w23.heap.size := Nat.le_refl _
        refine region_join (R := fun a0_ a_ w_ => ∃ gv6_ : Nat, ∃ A9_ : Option Addr, ∃ c9_ : Nat, ∃ loO9_ : Nat, ∃ hiO9_ : Nat, ∃ A10_ : Option Addr, ∃ c10_ : Nat, ∃ loO10_ : Nat, ∃ hiO10_ : Nat, ∃ A11_ : Option Addr, ∃ c11_ : Nat, ∃ loO11_ : Nat, ∃ hiO11_ : Nat, a_ = ((((((((((a0_.put (some 95) (.agg #[.int .i64 C0, .slice A0 ts0.length c0])).put (some 96) (.agg #[.int .i64 C0, .slice A9_ ts0.length c9_])).put (some 97) (.agg #[.int .i64 C1, .slice A1 ts1.length c1])).put (some 98) (.agg #[.int .i64 C1, .slice A10_ ts1.length c10_])).put (some 99) (.tuple #[.agg #[.int .i64 rc1, .slice A11_ r1.length c11_], .int .i64 r2])).put (some 94) (.tuple #[.agg #[.int .i64 rc1, .slice A11_ r1.length c11_], .int .i64 r2])).put (some 100) (.agg #[.int .i64 rc1, .slice A11_ r1.length c11_])).put (some 101) (.int .i64 r2)).put (some 15) (.pointer (some ⟨gv6_, 0, none⟩))).put (some 16) (.int .i64 r2)) ∧ Below w23.drew.heap.size w23.drew w_ ∧ OW w_ loO9_ hiO9_ 45 4 (.slice A9_ ts0.length c9_) ts0.length (tcells ts0) ∧ OW w_ loO10_ hiO10_ 45 4 (.slice A10_ ts1.length c10_) ts1.length (tcells ts1) ∧ OW w_ loO11_ hiO11_ 45 4 (.slice A11_ r1.length c11_) r1.length (tcells r1) ∧ BK w_ gv6_ #[.int .i64 rc1, .slice A11_ r1.length c11_] 26 ∧ w23.drew.heap.size ≤ loO9_ ∧ loO9_ ≤ hiO9_ ∧ (gv6_ < loO9_ ∨ hiO9_ ≤ gv6_) ∧ hiO9_ ≤ loO10_ ∧ loO10_ ≤ hiO10_ ∧ (gv6_ < loO10_ ∨ hiO10_ ≤ gv6_) ∧ hiO10_ ≤ loO11_ ∧ loO11_ ≤ hiO11_ ∧ (gv6_ < loO11_ ∨ hiO11_ ≤ gv6_) ∧ w23.drew.heap.size ≤ gv6_) ?_ ?_
        · have hS := Lib.hid (Below.refl w23.drew.heap.size w23.drew)
          have g0_ := b0.lt
          have g1_ := b1.lt
          have g2_ := b2.lt
          have g3_ := b3.lt
          have g4_ := b4.lt
          have g5_ := b5.lt
          go_region_held3 (fun w_ => w_.cell? ⟨w.heap.size, 0, none⟩ = some (.int .i64 C0) ∧ w_.cell? ⟨w.heap.size, 1, none⟩ = some (.slice A0 ts0.length c0) ∧ w_.cell? ⟨w.heap.size + 1, 0, none⟩ = some (.int .i64 C1) ∧ w_.cell? ⟨w.heap.size + 1, 1, none⟩ = some (.slice A1 ts1.length c1) ∧ w_.cell? ⟨gv2_, 0, none⟩ = some (.int .i64 rc1) ∧ w_.cell? ⟨gv2_, 1, none⟩ = some (.slice A3_ r1.length c3_) ∧ w_.cell? ⟨w8.heap.size, 0, none⟩ = some (.int .i64 C0) ∧ w_.cell? ⟨w8.heap.size, 1, none⟩ = some (.slice A4_ ts0.length c4_) ∧ w_.cell? ⟨w10.heap.size, 0, none⟩ = some (.int .i64 C1) ∧ w_.cell? ⟨w10.heap.size, 1, none⟩ = some (.slice A5_ ts1.length c5_) ∧ w_.cell? ⟨w12.heap.size, 0, none⟩ = some (.int .i64 rc1) ∧ w_.cell? ⟨w12.heap.size, 1, none⟩ = some (.slice A6_ r1.length c6_)) (first | exact ⟨b0.cell rfl, b0.cell rfl, b1.cell rfl, b1.cell rfl, b2.cell rfl, b2.cell rfl, b3.cell rfl, b3.cell rfl, b4.cell rfl, b4.cell rfl, b5.cell rfl, b5.cell rfl⟩ | exact ⟨(b0.alloc _).cell rfl, (b0.alloc _).cell rfl, (b1.alloc _).cell rfl, (b1.alloc _).cell rfl, (b2.alloc _).cell rfl, (b2.alloc _).cell rfl, (b3.alloc _).cell rfl, (b3.alloc _).cell rfl, (b4.alloc _).cell rfl, (b4.alloc _).cell rfl, (b5.alloc _).cell rfl, (b5.alloc _).cell rfl⟩ | exact ⟨(b0.far2 (by omega) _ _).cell rfl, (b0.far2 (by omega) _ _).cell rfl, (b1.far2 (by omega) _ _).cell rfl, (b1.far2 (by omega) _ _).cell rfl, (b2.far2 (by omega) _ _).cell rfl, (b2.far2 (by omega) _ _).cell rfl, (b3.far2 (by omega) _ _).cell rfl, (b3.far2 (by omega) _ _).cell rfl, (b4.far2 (by omega) _ _).cell rfl, (b4.far2 (by omega) _ _).cell rfl, (b5.far2 (by omega) _ _).cell rfl, (b5.far2 (by omega) _ _).cell rfl⟩ | fail)
            (first
              | (go_at_call 24; refine at_world w23.drew ?_; refine (toSet_any C0 A0 ts0 ts0.length c0 _ rfl (HA0.out.below hE.out) (by omega)).mono ?_; rintro e w24 ⟨v_, rfl, hO, hB⟩; obtain ⟨A9_, c9_, rfl, -, -⟩ := hO.reads; have O9 := Lib.hid (OW.of hO); clear hO; replace b0 := b0.below hB b0.lt; replace b1 := b1.below hB b1.lt; replace b2 := b2.below hB b2.lt; replace b3 := b3.below hB b3.lt; replace b4 := b4.below hB b4.lt; replace b5 := b5.below hB b5.lt; replace O1 := Lib.hid (O1.out.to hB); replace O2 := Lib.hid (O2.out.to hB); replace O3 := Lib.hid (O3.out.to hB); replace O4 := Lib.hid (O4.out.to hB); replace O5 := Lib.hid (O5.out.to hB); replace O6 := Lib.hid (O6.out.to hB); replace O7 := Lib.hid (O7.out.to hB); replace O8 := Lib.hid (O8.out.to hB); have sw24 : w23.drew.heap.size ≤ w24.heap.size := hB.size; replace hE := Lib.hid (below_to hE.out hB); replace hS := Lib.hid (below_to hS.out hB); (try (replace b6 := b6.below hB b6.lt; have z0_ := b6.cell (k := 0) (v := .int .i64 0) rfl; have z1_ := b6.cell (k := 1) (v := .slice none 0 0) rfl; have y0_ := b6.frozen 0; have y1_ := b6.frozen 1; have y2_ := b6.lt)); clear hB)
              | (go_at_call 24; refine at_alloc (w := w23.drew) ?_; intro wA hA hzA b6_; have b6 : BK wA w23.heap.size _ _ := b6_; clear b6_; replace b0 := b0.below hA b0.lt; replace b1 := b1.below hA b1.lt; replace b2 := b2.below hA b2.lt; replace b3 := b3.below hA b3.lt; replace b4 := b4.below hA b4.lt; replace b5 := b5.below hA b5.lt; replace O1 := Lib.hid (O1.out.to hA); replace O2 := Lib.hid (O2.out.to hA); replace O3 := Lib.hid (O3.out.to hA); replace O4 := Lib.hid (O4.out.to hA); replace O5 := Lib.hid (O5.out.to hA); replace O6 := Lib.hid (O6.out.to hA); replace O7 := Lib.hid (O7.out.to hA); replace O8 := Lib.hid (O8.out.to hA); replace hE := Lib.hid (below_to hE.out hA); replace hS := Lib.hid (below_to hS.out hA); clear hA; refine (toSet_any C0 A0 ts0 ts0.length c0 _ rfl (HA0.out.below hE.out) (by omega)).mono ?_; rintro e w24 ⟨v_, rfl, hO, hB⟩; obtain ⟨A9_, c9_, rfl, -, -⟩ := hO.reads; have O9 := Lib.hid (OW.of hO); clear hO; replace b0 := b0.below hB b0.lt; replace b1 := b1.below hB b1.lt; replace b2 := b2.below hB b2.lt; replace b3 := b3.below hB b3.lt; replace b4 := b4.below hB b4.lt; replace b5 := b5.below hB b5.lt; replace O1 := Lib.hid (O1.out.to hB); replace O2 := Lib.hid (O2.out.to hB); replace O3 := Lib.hid (O3.out.to hB); replace O4 := Lib.hid (O4.out.to hB); replace O5 := Lib.hid (O5.out.to hB); replace O6 := Lib.hid (O6.out.to hB); replace O7 := Lib.hid (O7.out.to hB); replace O8 := Lib.hid (O8.out.to hB); have sw24 : wA.heap.size ≤ w24.heap.size := hB.size; replace hE := Lib.hid (below_to hE.out hB); replace hS := Lib.hid (below_to hS.out hB); (try (replace b6 := b6.below hB b6.lt; have z0_ := b6.cell (k := 0) (v := .int .i64 0) rfl; have z1_ := b6.cell (k := 1) (v := .slice none 0 0) rfl; have y0_ := b6.frozen 0; have y1_ := b6.frozen 1; have y2_ := b6.lt)); clear hB)
              | (go_at_call 24; refine at_world w24 ?_; refine (toSet_any C1 A1 ts1 ts1.length c1 _ rfl (HA1.out.below hE.out) (by omega)).mono ?_; rintro e w25 ⟨v_, rfl, hO, hB⟩; obtain ⟨A10_, c10_, rfl, -, -⟩ := hO.reads; have O10 := Lib.hid (OW.of hO); clear hO; replace b0 := b0.below hB b0.lt; replace b1 := b1.below hB b1.lt; replace b2 := b2.below hB b2.lt; replace b3 := b3.below hB b3.lt; replace b4 := b4.below hB b4.lt; replace b5 := b5.below hB b5.lt; replace O1 := Lib.hid (O1.out.to hB); replace O2 := Lib.hid (O2.out.to hB); replace O3 := Lib.hid (O3.out.to hB); replace O4 := Lib.hid (O4.out.to hB); replace O5 := Lib.hid (O5.out.to hB); replace O6 := Lib.hid (O6.out.to hB); replace O7 := Lib.hid (O7.out.to hB); replace O8 := Lib.hid (O8.out.to hB); replace O9 := Lib.hid (O9.out.to hB); have sw25 : w24.heap.size ≤ w25.heap.size := hB.size; replace hE := Lib.hid (below_to hE.out hB); replace hS := Lib.hid (below_to hS.out hB); (try (replace b6 := b6.below hB b6.lt; have z0_ := b6.cell (k := 0) (v := .int .i64 0) rfl; have z1_ := b6.cell (k := 1) (v := .slice none 0 0) rfl; have y0_ := b6.frozen 0; have y1_ := b6.frozen 1; have y2_ := b6.lt)); clear hB)
              | (go_at_call 24; refine at_alloc (w := w24) ?_; intro wA hA hzA b6_; have b6 : BK wA w24.heap.size _ _ := b6_; clear b6_; replace b0 := b0.below hA b0.lt; replace b1 := b1.below hA b1.lt; replace b2 := b2.below hA b2.lt; replace b3 := b3.below hA b3.lt; replace b4 := b4.below hA b4.lt; replace b5 := b5.below hA b5.lt; replace O1 := Lib.hid (O1.out.to hA); replace O2 := Lib.hid (O2.out.to hA); replace O3 := Lib.hid (O3.out.to hA); replace O4 := Lib.hid (O4.out.to hA); replace O5 := Lib.hid (O5.out.to hA); replace O6 := Lib.hid (O6.out.to hA); replace O7 := Lib.hid (O7.out.to hA); replace O8 := Lib.hid (O8.out.to hA); replace O9 := Lib.hid (O9.out.to hA); replace hE := Lib.hid (below_to hE.out hA); replace hS := Lib.hid (below_to hS.out hA); clear hA; refine (toSet_any C1 A1 ts1 ts1.length c1 _ rfl (HA1.out.below hE.out) (by omega)).mono ?_; rintro e w25 ⟨v_, rfl, hO, hB⟩; obtain ⟨A10_, c10_, rfl, -, -⟩ := hO.reads; have O10 := Lib.hid (OW.of hO); clear hO; replace b0 := b0.below hB b0.lt; replace b1 := b1.below hB b1.lt; replace b2 := b2.below hB b2.lt; replace b3 := b3.below hB b3.lt; replace b4 := b4.below hB b4.lt; replace b5 := b5.below hB b5.lt; replace O1 := Lib.hid (O1.out.to hB); replace O2 := Lib.hid (O2.out.to hB); replace O3 := Lib.hid (O3.out.to hB); replace O4 := Lib.hid (O4.out.to hB); replace O5 := Lib.hid (O5.out.to hB); replace O6 := Lib.hid (O6.out.to hB); replace O7 := Lib.hid (O7.out.to hB); replace O8 := Lib.hid (O8.out.to hB); replace O9 := Lib.hid (O9.out.to hB); have sw25 : wA.heap.size ≤ w25.heap.size := hB.size; replace hE := Lib.hid (below_to hE.out hB); replace hS := Lib.hid (below_to hS.out hB); (try (replace b6 := b6.below hB b6.lt; have z0_ := b6.cell (k := 0) (v := .int .i64 0) rfl; have z1_ := b6.cell (k := 1) (v := .slice none 0 0) rfl; have y0_ := b6.frozen 0; have y1_ := b6.frozen 1; have y2_ := b6.lt)); clear hB)
              | (go_at_call 35; refine at_world w25 ?_; refine (implProductOfSets_any C0 A9_ ts0 ts0.length c9_ C1 A10_ ts1 ts1.length c10_ _ rfl (rt_of O9.out rfl) (le_of O9.out) (by omega) rfl (rt_of O10.out rfl) (le_of O10.out) (by omega)).mono ?_; rintro e w26 ⟨v0_, xc0_, x0_, x1_, hR_, rfl, hO0, hB⟩; obtain ⟨rfl, rfl, rfl⟩ : rc1 = xc0_ ∧ r1 = x0_ ∧ r2 = x1_ := (by have h_ := HR.out.symm.trans hR_; simpa [and_assoc] using h_); clear hR_; obtain ⟨A11_, c11_, rfl, -⟩ := hO0.form; have O11 := Lib.hid hO0; clear hO0; replace b0 := b0.below hB b0.lt; replace b1 := b1.below hB b1.lt; replace b2 := b2.below hB b2.lt; replace b3 := b3.below hB b3.lt; replace b4 := b4.below hB b4.lt; replace b5 := b5.below hB b5.lt; replace O1 := Lib.hid (O1.out.to hB); replace O2 := Lib.hid (O2.out.to hB); replace O3 := Lib.hid (O3.out.to hB); replace O4 := Lib.hid (O4.out.to hB); replace O5 := Lib.hid (O5.out.to hB); replace O6 := Lib.hid (O6.out.to hB); replace O7 := Lib.hid (O7.out.to hB); replace O8 := Lib.hid (O8.out.to hB); replace O9 := Lib.hid (O9.out.to hB); replace O10 := Lib.hid (O10.out.to hB); have sw26 : w25.heap.size ≤ w26.heap.size := hB.size; replace hE := Lib.hid (below_to hE.out hB); replace hS := Lib.hid (below_to hS.out hB); (try (replace b6 := b6.below hB b6.lt; have z0_ := b6.cell (k := 0) (v := .int .i64 0) rfl; have z1_ := b6.cell (k := 1) (v := .slice none 0 0) rfl; have y0_ := b6.frozen 0; have y1_ := b6.frozen 1; have y2_ := b6.lt)); clear hB)
              | (go_at_call 35; refine at_alloc (w := w25) ?_; intro wA hA hzA b6_; have b6 : BK wA w25.heap.size _ _ := b6_; clear b6_; replace b0 := b0.below hA b0.lt; replace b1 := b1.below hA b1.lt; replace b2 := b2.below hA b2.lt; replace b3 := b3.below hA b3.lt; replace b4 := b4.below hA b4.lt; replace b5 := b5.below hA b5.lt; replace O1 := Lib.hid (O1.out.to hA); replace O2 := Lib.hid (O2.out.to hA); replace O3 := Lib.hid (O3.out.to hA); replace O4 := Lib.hid (O4.out.to hA); replace O5 := Lib.hid (O5.out.to hA); replace O6 := Lib.hid (O6.out.to hA); replace O7 := Lib.hid (O7.out.to hA); replace O8 := Lib.hid (O8.out.to hA); replace O9 := Lib.hid (O9.out.to hA); replace O10 := Lib.hid (O10.out.to hA); replace hE := Lib.hid (below_to hE.out hA); replace hS := Lib.hid (below_to hS.out hA); clear hA; refine (implProductOfSets_any C0 A9_ ts0 ts0.length c9_ C1 A10_ ts1 ts1.length c10_ _ rfl (rt_of O9.out rfl) (le_of O9.out) (by omega) rfl (rt_of O10.out rfl) (le_of O10.out) (by omega)).mono ?_; rintro e w26 ⟨v0_, xc0_, x0_, x1_, hR_, rfl, hO0, hB⟩; obtain ⟨rfl, rfl, rfl⟩ : rc1 = xc0_ ∧ r1 = x0_ ∧ r2 = x1_ := (by have h_ := HR.out.symm.trans hR_; simpa [and_assoc] using h_); clear hR_; obtain ⟨A11_, c11_, rfl, -⟩ := hO0.form; have O11 := Lib.hid hO0; clear hO0; replace b0 := b0.below hB b0.lt; replace b1 := b1.below hB b1.lt; replace b2 := b2.below hB b2.lt; replace b3 := b3.below hB b3.lt; replace b4 := b4.below hB b4.lt; replace b5 := b5.below hB b5.lt; replace O1 := Lib.hid (O1.out.to hB); replace O2 := Lib.hid (O2.out.to hB); replace O3 := Lib.hid (O3.out.to hB); replace O4 := Lib.hid (O4.out.to hB); replace O5 := Lib.hid (O5.out.to hB); replace O6 := Lib.hid (O6.out.to hB); replace O7 := Lib.hid (O7.out.to hB); replace O8 := Lib.hid (O8.out.to hB); replace O9 := Lib.hid (O9.out.to hB); replace O10 := Lib.hid (O10.out.to hB); have sw26 : wA.heap.size ≤ w26.heap.size := hB.size; replace hE := Lib.hid (below_to hE.out hB); replace hS := Lib.hid (below_to hS.out hB); (try (replace b6 := b6.below hB b6.lt; have z0_ := b6.cell (k := 0) (v := .int .i64 0) rfl; have z1_ := b6.cell (k := 1) (v := .slice none 0 0) rfl; have y0_ := b6.frozen 0; have y1_ := b6.frozen 1; have y2_ := b6.lt)); clear hB))
          all_goals first
            | (refine ⟨_, A9_, c9_, _, _, A10_, c10_, _, _, A11_, c11_, _, _, ?_, leaf_store hS.out ?_ _ _, O9.out.store ?_ _ _, O10.out.store ?_ _ _, O11.out.store ?_ _ _, b6.store2 _ _, ?_, ?_, ?_, ?_, ?_, ?_, ?_, ?_, ?_, ?_⟩ <;> first | omega | (simp only [Act.put, List.setIfInBounds_toArray, List.set_cons_zero, List.set_cons_succ]))
            | (refine ⟨_, A9_, c9_, _, _, A10_, c10_, _, _, A11_, c11_, _, _, ?_, below_al hS.out _, O9.out.to (new_below _ _), O10.out.to (new_below _ _), O11.out.to (new_below _ _), BK.new _ _ _, ?_, ?_, ?_, ?_, ?_, ?_, ?_, ?_, ?_, ?_⟩ <;> first | omega | (simp only [Act.put, List.setIfInBounds_toArray, List.set_cons_zero, List.set_cons_succ]))
        · intro a_ w27 hR_
          obtain ⟨gv6_, A9_, c9_, loO9_, hiO9_, A10_, c10_, loO10_, hiO10_, A11_, c11_, loO11_, hiO11_, rfl, hB, hOO9, hOO10, hOO11, b6, qw27_0, qw27_1, qw27_2, qw27_3, qw27_4, qw27_5, qw27_6, qw27_7, qw27_8, qw27_9⟩ := hR_
          simp only [Act.put, List.setIfInBounds_toArray, List.set_cons_zero, List.set_cons_succ]
          have O9 := Lib.hid hOO9; have topO9 := hOO9.top; clear hOO9
          have O10 := Lib.hid hOO10; have topO10 := hOO10.top; clear hOO10
          have O11 := Lib.hid hOO11; have topO11 := hOO11.top; clear hOO11
          replace b0 := b0.below hB b0.lt
          replace b1 := b1.below hB b1.lt
          replace b2 := b2.below hB b2.lt
          replace b3 := b3.below hB b3.lt
          replace b4 := b4.below hB b4.lt
          replace b5 := b5.below hB b5.lt
          replace O1 := Lib.hid (O1.out.to hB)
          replace O2 := Lib.hid (O2.out.to hB)
          replace O3 := Lib.hid (O3.out.to hB)
          replace O4 := Lib.hid (O4.out.to hB)
          replace O5 := Lib.hid (O5.out.to hB)
          replace O6 := Lib.hid (O6.out.to hB)
          replace O7 := Lib.hid (O7.out.to hB)
          replace O8 := Lib.hid (O8.out.to hB)
          have sw27 : w23.drew.heap.size ≤ w27.heap.size := hB.size
          replace hE := Lib.hid (below_to hE.out hB)
          have kw27 := b6.lt
          clear hB
          have l0 := b0.lt
          have c0_0 : w27.cell? ⟨w.heap.size, 0, none⟩ = some (.int .i64 C0) := b0.cell rfl
          have c0_1 : w27.cell? ⟨w.heap.size, 1, none⟩ = some (.slice A0 ts0.length c0) := b0.cell rfl
          have l1 := b1.lt
          have c1_0 : w27.cell? ⟨w.heap.size + 1, 0, none⟩ = some (.int .i64 C1) := b1.cell rfl
          have c1_1 : w27.cell? ⟨w.heap.size + 1, 1, none⟩ = some (.slice A1 ts1.length c1) := b1.cell rfl
          have l2 := b2.lt
          have c2_0 : w27.cell? ⟨gv2_, 0, none⟩ = some (.int .i64 rc1) := b2.cell rfl
          have c2_1 : w27.cell? ⟨gv2_, 1, none⟩ = some (.slice A3_ r1.length c3_) := b2.cell rfl
          have l3 := b3.lt
          have c3_0 : w27.cell? ⟨w8.heap.size, 0, none⟩ = some (.int .i64 C0) := b3.cell rfl
          have c3_1 : w27.cell? ⟨w8.heap.size, 1, none⟩ = some (.slice A4_ ts0.length c4_) := b3.cell rfl
          have l4 := b4.lt
          have c4_0 : w27.cell? ⟨w10.heap.size, 0, none⟩ = some (.int .i64 C1) := b4.cell rfl
          have c4_1 : w27.cell? ⟨w10.heap.size, 1, none⟩ = some (.slice A5_ ts1.length c5_) := b4.cell rfl
          have l5 := b5.lt
          have c5_0 : w27.cell? ⟨w12.heap.size, 0, none⟩ = some (.int .i64 rc1) := b5.cell rfl
          have c5_1 : w27.cell? ⟨w12.heap.size, 1, none⟩ = some (.slice A6_ r1.length c6_) := b5.cell rfl
          have l6 := b6.lt
          have c6_0 : w27.cell? ⟨gv6_, 0, none⟩ = some (.int .i64 rc1) := b6.cell rfl
          have c6_1 : w27.cell? ⟨gv6_, 1, none⟩ = some (.slice A11_ r1.length c11_) := b6.cell rfl
          go_wp2_with fail
          clear l0 c0_0 c0_1 l1 c1_0 c1_1 l2 c2_0 c2_1 l3 c3_0 c3_1 l4 c4_0 c4_1 l5 c5_0 c5_1 l6 c6_0 c6_1
          refine (eqSet_any rc1 rc1 A11_ A3_ r1 r1 r1.length r1.length c11_ c3_ w27 rfl rfl (rt_of O11.out rfl) (rt_of O3.out rfl) (by omega) (by omega)).mono ?_
          rintro e w28 ⟨rfl, hB⟩
          simp only [decide_true, Bool.and_self]
          replace b0 := b0.below hB b0.lt
          replace b1 := b1.below hB b1.lt
          replace b2 := b2.below hB b2.lt
          replace b3 := b3.below hB b3.lt
          replace b4 := b4.below hB b4.lt
          replace b5 := b5.below hB b5.lt
          replace b6 := b6.below hB b6.lt
          replace O1 := Lib.hid (O1.out.to hB)
          replace O2 := Lib.hid (O2.out.to hB)
          replace O3 := Lib.hid (O3.out.to hB)
          replace O4 := Lib.hid (O4.out.to hB)
          replace O5 := Lib.hid (O5.out.to hB)
          replace O6 := Lib.hid (O6.out.to hB)
          replace O7 := Lib.hid (O7.out.to hB)
          replace O8 := Lib.hid (O8.out.to hB)
          replace O9 := Lib.hid (O9.out.to hB)
          replace O10 := Lib.hid (O10.out.to hB)
          replace O11 := Lib.hid (O11.out.to hB)
          have sw28 : w27.heap.size ≤ w28.heap.size := hB.size
          replace hE := Lib.hid (below_to hE.out hB)
          clear hB
          have l0 := b0.lt
          have c0_0 : w28.cell? ⟨w.heap.size, 0, none⟩ = some (.int .i64 C0) := b0.cell rfl
          have c0_1 : w28.cell? ⟨w.heap.size, 1, none⟩ = some (.slice A0 ts0.length c0) := b0.cell rfl
          have l1 := b1.lt
          have c1_0 : w28.cell? ⟨w.heap.size + 1, 0, none⟩ = some (.int .i64 C1) := b1.cell rfl
          have c1_1 : w28.cell? ⟨w.heap.size + 1, 1, none⟩ = some (.slice A1 ts1.length c1) := b1.cell rfl
          have l2 := b2.lt
          have c2_0 : w28.cell? ⟨gv2_, 0, none⟩ = some (.int .i64 rc1) := b2.cell rfl
          have c2_1 : w28.cell? ⟨gv2_, 1, none⟩ = some (.slice A3_ r1.length c3_) := b2.cell rfl
          have l3 := b3.lt
          have c3_0 : w28.cell? ⟨w8.heap.size, 0, none⟩ = some (.int .i64 C0) := b3.cell rfl
          have c3_1 : w28.cell? ⟨w8.heap.size, 1, none⟩ = some (.slice A4_ ts0.length c4_) := b3.cell rfl
          have l4 := b4.lt
          have c4_0 : w28.cell? ⟨w10.heap.size, 0, none⟩ = some (.int .i64 C1) := b4.cell rfl
          have c4_1 : w28.cell? ⟨w10.heap.size, 1, none⟩ = some (.slice A5_ ts1.length c5_) := b4.cell rfl
          have l5 := b5.lt
          have c5_0 : w28.cell? ⟨w12.heap.size, 0, none⟩ = some (.int .i64 rc1) := b5.cell rfl
          have c5_1 : w28.cell? ⟨w12.heap.size, 1, none⟩ = some (.slice A6_ r1.length c6_) := b5.cell rfl
          have l6 := b6.lt
          have c6_0 : w28.cell? ⟨gv6_, 0, none⟩ = some (.int .i64 rc1) := b6.cell rfl
          have c6_1 : w28.cell? ⟨gv6_, 1, none⟩ = some (.slice A11_ r1.length c11_) := b6.cell rfl
          go_wp2_with fail
          clear l0 c0_0 c0_1 l1 c1_0 c1_1 l2 c2_0 c2_1 l3 c3_0 c3_1 l4 c4_0 c4_1 l5 c5_0 c5_1 l6 c6_0 c6_1
          refine (heldSet_m w11.heap.size w12.heap.size rc1 (.slice A6_ r1.length c6_) r1.length m_O6 (1) w28 Hm_O6.out O6.out (by omega) (by omega) (by omega)).mono ?_
          rintro e w29 ⟨rfl, hB⟩
          replace b0 := b0.below hB b0.lt
          replace b1 := b1.below hB b1.lt
          replace b2 := b2.below hB b2.lt
          replace b3 := b3.below hB b3.lt
          replace b4 := b4.below hB b4.lt
          replace b5 := b5.below hB b5.lt
          replace b6 := b6.below hB b6.lt
          replace O1 := Lib.hid (O1.out.to hB)
          replace O2 := Lib.hid (O2.out.to hB)
          replace O3 := Lib.hid (O3.out.to hB)
          replace O4 := Lib.hid (O4.out.to hB)
          replace O5 := Lib.hid (O5.out.to hB)
          replace O6 := Lib.hid (O6.out.to hB)
          replace O7 := Lib.hid (O7.out.to hB)
          replace O8 := Lib.hid (O8.out.to hB)
          replace O9 := Lib.hid (O9.out.to hB)
          replace O10 := Lib.hid (O10.out.to hB)
          replace O11 := Lib.hid (O11.out.to hB)
          have sw29 : w28.heap.size ≤ w29.heap.size := hB.size
          replace hE := Lib.hid (below_to hE.out hB)
          clear hB
          go_wp2_with fail
          go_ret
          exact ⟨rfl, hE.out⟩
end Go.Proofs.Ytnjmgmdpkogocaa

/-
  Parts of the proof, in their order: QSpecL02Code, QSpecL02Told, QSpecCountRowsOver, QImplCounted, QImplCountRowsOver1, QImplSetCodeAtImplCountRowsOver1, QImplCountRowsOver, POver, Law1, LawCountRowsOver, Open.
-/
import Derived.Test.YtenlcakpcbmmdaaPk1
import Derived.Test.YtenlcakpcbmmdaaPk2
import Derived.Deep.RegionHeld3
import Derived.ProofKit
import Derived.OpenShut
import Derived.ShutString
import Derived.ChangeOld
import Derived.SizedLaws
import Derived.ChangeSlices
import Derived.Deep.Slices
-- Printed by a program of this session (the kit's print, turned: printpatch.py) out of Lean's print of the translation. Lean checks it.
namespace Go.Proofs.Ytenlcakpcbmmdaa.Q
open Go.RowKit Go.Proofs.YtenlcakpcbmmdaaW.PrintWords Go.Proofs.YtenlcakpcbmmdaaW.PrintLast Go.Proofs.YtenlcakpcbmmdaaW.PrintMore
attribute [local go_sem] max2_int min2_int max_two min_two max_three min_three max_four min_four   -- for this text's walks alone
set_option linter.unusedVariables false
set_option linter.unusedSimpArgs false

/-! ### spec_l02Code: function 63 -/
def spec_l02Code.f (k : Nat) (a0_0 : Int) (l0_1 : List (S77)) (l1 : List Int) : Option (Int) := (spec_l01Is.f a0_0 l0_1).bind fun t211 => (if t211 = true then (if (l1.length : Int) < 1 then (some 2) else (if (l1.length : Int) > 20 then (some 2) else ((spec_l01Word.f k a0_0 l0_1 l1).bind fun t212 => (if t212 = true then (some 0) else (some 2))))) else (some 1))
theorem spec_l02Code.mono : ∀ a0 a1 a2 k, LeO (spec_l02Code.f k a0 a1 a2) (spec_l02Code.f (k + 1) a0 a1 a2) := by
  intro a0 a1 a2 k
  unfold spec_l02Code.f
  repeat' first
      | (with_reducible exact spec_l01Word.mono _ _ _ _)
      | (with_reducible exact LeO.refl _)
      | (with_reducible exact LeO.none _)
      | (with_reducible refine LeO.ite ?_ ?_)
      | (with_reducible refine LeO.bind ?_ (fun _ => ?_))
      | exact spec_l01Word.mono _ _ _ _
      | exact LeO.none _
      | refine LeO.ite ?_ ?_
      | refine LeO.bind ?_ (fun _ => ?_)
set_option maxHeartbeats 8000000 in
set_option maxRecDepth 100000 in
theorem spec_l02Code.calls (k : Nat) (a0_0 : Int) (A0_1 : Option Addr) (c0_1 : Nat) (l0_1 : List (S77)) (A1 : Option Addr) (c1 : Nat) (l1 : List Int) (r : Int) (w : World) (hr0_1 : Kd.C k77 w A0_1 l0_1.length l0_1) (hc0_1 : l0_1.length ≤ c0_1) (hr1 : Kd.C (Kd.int .i64) w A1 l1.length l1) (hc1 : l1.length ≤ c1) (h : spec_l02Code.f k a0_0 l0_1 l1 = some r) :
    Calls Try.prog 63 #[.agg #[.int .i64 a0_0, .slice A0_1 l0_1.length c0_1], .slice A1 l1.length c1] w fun e w' => e = .returned (.int .i64 r) ∧ Below w.heap.size w w' := by
  have hu30 := Try.underlying30
  have HR0_1 := Aside0.mk hr0_1
  have HC0_1 := Aside0.mk hc0_1
  clear hr0_1 hc0_1
  have HR1 := Aside0.mk hr1
  have HC1 := Aside0.mk hc1
  clear hr1 hc1
  have HB := Aside0.mk (Below.refl w.heap.size w)
  have H : ((spec_l01Is.f a0_0 l0_1).bind fun t211 => (if t211 = true then (if (l1.length : Int) < 1 then (some 2) else (if (l1.length : Int) > 20 then (some 2) else ((spec_l01Word.f k a0_0 l0_1 l1).bind fun t212 => (if t212 = true then (some 0) else (some 2))))) else (some 1))) = some r := h
  clear h
  replace H := Option.bind_eq_some_iff.mp H
  obtain ⟨t211, A30, H⟩ := H
  replace H : (if t211 = true then (if (l1.length : Int) < 1 then (some 2) else (if (l1.length : Int) > 20 then (some 2) else ((spec_l01Word.f k a0_0 l0_1 l1).bind fun t212 => (if t212 = true then (some 0) else (some 2))))) else (some 1)) = some r := H
  have A3 := Aside0.mk A30
  clear A30
  by_cases c4 : t211 = true
  · subst c4
    have H1 : (if (l1.length : Int) < 1 then (some 2) else (if (l1.length : Int) > 20 then (some 2) else ((spec_l01Word.f k a0_0 l0_1 l1).bind fun t212 => (if t212 = true then (some 0) else (some 2))))) = some r := by rw [if_pos rfl] at H; exact H
    clear H
    have H := H1
    clear H1
    by_cases c5 : (l1.length : Int) < 1
    · rw [if_pos c5] at H
      have c5b0 : decide ((l1.length : Int) < 1) = true := decide_eq_true c5
      have c5b1 : decide (l1.length < 1) = true := decide_eq_true (by omega)
      clear c5
      obtain rfl := Option.some.inj H
      go_enter Try.func63, Try.ntmps63
      go_wp2_with (first | ((with_reducible refine gate_dst (N := 2) rfl ?_); (try (refine gate_guard (by rfl) ?_; dsimp only)); refine box_event ?hg (N := 2) ?hd (cs := #[.int .i64 a0_0, .slice A0_1 l0_1.length c0_1]) (t := 30) ?hr ?_; (case hd => rfl); (case hg => rfl); (case hr => first | (go_simp; done) | (go_simp; rfl)); intro gb210 hg w6 hbox hb; have n0_ := Aside0.mk (below_step (by repeat (first | (with_reducible first | exact HB.out | apply below_alloc | apply pw_below_drewN | apply below_drew1) | exact HB.out)) hb); have n1_ := Aside0.mk (hbox); have n2_ := Aside0.mk ((by rw [hg]; exact (below_size (by repeat (first | (with_reducible first | exact HB.out | apply below_alloc | apply pw_below_drewN | apply below_drew1) | exact HB.out))) : w.heap.size ≤ gb210)); have n3_ := Aside0.mk ((by rw [hg]; exact (below_size (by repeat (first | (with_reducible first | exact HB.out | apply below_alloc | apply pw_below_drewN | apply below_drew1) | exact HB.out))) : w.heap.size ≤ gb210)); clear HB; have HB := n0_; have BK210 := n1_; have GW210 := n2_; have GE210 := n3_; clear n0_ n1_ n2_ n3_; clear hb hbox hg; have hcz7_0 : w6.cell? ⟨gb210, 0, none⟩ = some (.int .i64 a0_0) := (blk_cell BK210.out 0).trans rfl; have hcz7_1 : w6.cell? ⟨gb210, 1, none⟩ = some (.slice A0_1 l0_1.length c0_1) := (blk_cell BK210.out 1).trans rfl; have hfz7_0 := blk_frozen BK210.out 0; have hfz7_1 := blk_frozen BK210.out 1) | ((with_reducible refine gate_callee (f := 74) rfl ?_); refine goesL_ (some 7) rfl rfl Try.func74 (by kernel_rfl) rfl #[.agg #[.int .i64 a0_0, .slice A0_1 l0_1.length c0_1]] rfl (by (try simp only [List.map_toArray, List.map_cons, List.map_nil]); first | done | rfl | (simp only [List.length_drop, List.length_take]; rfl)) ?_; (with_reducible refine (spec_l01Is.calls a0_0 _ _ l0_1 true _ ?side1 ?side2 A3.out).mono ?_); (case side1 => repeat (first | exact (Kd.C_below HR0_1.out HB.out) | (with_reducible refine Kd.C_alloc ?_ _) | (with_reducible refine Kd.C_drewN ?_ _) | (with_reducible refine Kd.C_drew ?_))); (case side2 => exact HC0_1.out); rintro e w8 ⟨rfl, hb⟩; refine ⟨_, rfl, ?_⟩; have n0_ := Aside0.mk (blk_below (g := gb210) (o := .cells #[.int .i64 a0_0, .slice A0_1 l0_1.length c0_1] 30 (0, 0)) (by (with_reducible repeat (first | refine blk_drewN ?_ _ | refine blk_drew ?_ | refine blk_alloc ?_ _)); exact BK210.out) hb); have n1_ := Aside0.mk (below_step (by repeat (first | (with_reducible first | exact HB.out | apply below_alloc | apply pw_below_drewN | apply below_drew1 | refine below_set ?_ GE210.out) | exact HB.out)) hb); clear BK210; clear HB; have BK210 := n0_; have HB := n1_; clear n0_ n1_; (try clear hb); (try clear hb2); (try clear hk); (try clear hi)))
      go_ret
      exact ⟨by first | rfl | (simp [errW_none, errW_some] <;> rfl) | (simp [*, errW_none, errW_some] <;> rfl), by repeat (first | (with_reducible first | exact HB.out | apply below_alloc | apply pw_below_drewN | apply below_drew1 | refine below_set ?_ GE210.out) | exact HB.out)⟩
    · rw [if_neg c5] at H
      have c5b0 : decide ((l1.length : Int) < 1) = false := decide_eq_false c5
      have c5b1 : decide (l1.length < 1) = false := decide_eq_false (by omega)
      clear c5
      by_cases c9 : (l1.length : Int) > 20
      · rw [if_pos c9] at H
        have c9b0 : decide (20 < (l1.length : Int)) = true := decide_eq_true c9
        have c9b1 : decide (20 < l1.length) = true := decide_eq_true (by omega)
        clear c9
        obtain rfl := Option.some.inj H
        go_enter Try.func63, Try.ntmps63
        go_wp2_with (first | ((with_reducible refine gate_dst (N := 2) rfl ?_); (try (refine gate_guard (by rfl) ?_; dsimp only)); refine box_event ?hg (N := 2) ?hd (cs := #[.int .i64 a0_0, .slice A0_1 l0_1.length c0_1]) (t := 30) ?hr ?_; (case hd => rfl); (case hg => rfl); (case hr => first | (go_simp; done) | (go_simp; rfl)); intro gb210 hg w10 hbox hb; have n0_ := Aside0.mk (below_step (by repeat (first | (with_reducible first | exact HB.out | apply below_alloc | apply pw_below_drewN | apply below_drew1) | exact HB.out)) hb); have n1_ := Aside0.mk (hbox); have n2_ := Aside0.mk ((by rw [hg]; exact (below_size (by repeat (first | (with_reducible first | exact HB.out | apply below_alloc | apply pw_below_drewN | apply below_drew1) | exact HB.out))) : w.heap.size ≤ gb210)); have n3_ := Aside0.mk ((by rw [hg]; exact (below_size (by repeat (first | (with_reducible first | exact HB.out | apply below_alloc | apply pw_below_drewN | apply below_drew1) | exact HB.out))) : w.heap.size ≤ gb210)); clear HB; have HB := n0_; have BK210 := n1_; have GW210 := n2_; have GE210 := n3_; clear n0_ n1_ n2_ n3_; clear hb hbox hg; have hcz11_0 : w10.cell? ⟨gb210, 0, none⟩ = some (.int .i64 a0_0) := (blk_cell BK210.out 0).trans rfl; have hcz11_1 : w10.cell? ⟨gb210, 1, none⟩ = some (.slice A0_1 l0_1.length c0_1) := (blk_cell BK210.out 1).trans rfl; have hfz11_0 := blk_frozen BK210.out 0; have hfz11_1 := blk_frozen BK210.out 1) | ((with_reducible refine gate_callee (f := 74) rfl ?_); refine goesL_ (some 7) rfl rfl Try.func74 (by kernel_rfl) rfl #[.agg #[.int .i64 a0_0, .slice A0_1 l0_1.length c0_1]] rfl (by (try simp only [List.map_toArray, List.map_cons, List.map_nil]); first | done | rfl | (simp only [List.length_drop, List.length_take]; rfl)) ?_; (with_reducible refine (spec_l01Is.calls a0_0 _ _ l0_1 true _ ?side1 ?side2 A3.out).mono ?_); (case side1 => repeat (first | exact (Kd.C_below HR0_1.out HB.out) | (with_reducible refine Kd.C_alloc ?_ _) | (with_reducible refine Kd.C_drewN ?_ _) | (with_reducible refine Kd.C_drew ?_))); (case side2 => exact HC0_1.out); rintro e w12 ⟨rfl, hb⟩; refine ⟨_, rfl, ?_⟩; have n0_ := Aside0.mk (blk_below (g := gb210) (o := .cells #[.int .i64 a0_0, .slice A0_1 l0_1.length c0_1] 30 (0, 0)) (by (with_reducible repeat (first | refine blk_drewN ?_ _ | refine blk_drew ?_ | refine blk_alloc ?_ _)); exact BK210.out) hb); have n1_ := Aside0.mk (below_step (by repeat (first | (with_reducible first | exact HB.out | apply below_alloc | apply pw_below_drewN | apply below_drew1 | refine below_set ?_ GE210.out) | exact HB.out)) hb); clear BK210; clear HB; have BK210 := n0_; have HB := n1_; clear n0_ n1_; (try clear hb); (try clear hb2); (try clear hk); (try clear hi)))
        go_ret
        exact ⟨by first | rfl | (simp [errW_none, errW_some] <;> rfl) | (simp [*, errW_none, errW_some] <;> rfl), by repeat (first | (with_reducible first | exact HB.out | apply below_alloc | apply pw_below_drewN | apply below_drew1 | refine below_set ?_ GE210.out) | exact HB.out)⟩
      · rw [if_neg c9] at H
        have c9b0 : decide (20 < (l1.length : Int)) = false := decide_eq_false c9
        have c9b1 : decide (20 < l1.length) = false := decide_eq_false (by omega)
        clear c9
        replace H := Option.bind_eq_some_iff.mp H
        obtain ⟨t212, A130, H⟩ := H
        replace H : (if t212 = true then (some 0) else (some 2)) = some r := H
        have A13 := Aside0.mk A130
        clear A130
        by_cases c14 : t212 = true
        · subst c14
          have H1 : (some 0) = some r := by rw [if_pos rfl] at H; exact H
          clear H
          have H := H1
          clear H1
          obtain rfl := Option.some.inj H
          go_enter Try.func63, Try.ntmps63
          go_wp2_with (first | ((with_reducible refine gate_dst (N := 2) rfl ?_); (try (refine gate_guard (by rfl) ?_; dsimp only)); refine box_event ?hg (N := 2) ?hd (cs := #[.int .i64 a0_0, .slice A0_1 l0_1.length c0_1]) (t := 30) ?hr ?_; (case hd => rfl); (case hg => rfl); (case hr => first | (go_simp; done) | (go_simp; rfl)); intro gb210 hg w15 hbox hb; have n0_ := Aside0.mk (below_step (by repeat (first | (with_reducible first | exact HB.out | apply below_alloc | apply pw_below_drewN | apply below_drew1) | exact HB.out)) hb); have n1_ := Aside0.mk (hbox); have n2_ := Aside0.mk ((by rw [hg]; exact (below_size (by repeat (first | (with_reducible first | exact HB.out | apply below_alloc | apply pw_below_drewN | apply below_drew1) | exact HB.out))) : w.heap.size ≤ gb210)); have n3_ := Aside0.mk ((by rw [hg]; exact (below_size (by repeat (first | (with_reducible first | exact HB.out | apply below_alloc | apply pw_below_drewN | apply below_drew1) | exact HB.out))) : w.heap.size ≤ gb210)); clear HB; have HB := n0_; have BK210 := n1_; have GW210 := n2_; have GE210 := n3_; clear n0_ n1_ n2_ n3_; clear hb hbox hg; have hcz16_0 : w15.cell? ⟨gb210, 0, none⟩ = some (.int .i64 a0_0) := (blk_cell BK210.out 0).trans rfl; have hcz16_1 : w15.cell? ⟨gb210, 1, none⟩ = some (.slice A0_1 l0_1.length c0_1) := (blk_cell BK210.out 1).trans rfl; have hfz16_0 := blk_frozen BK210.out 0; have hfz16_1 := blk_frozen BK210.out 1) | ((with_reducible refine gate_callee (f := 74) rfl ?_); refine goesL_ (some 7) rfl rfl Try.func74 (by kernel_rfl) rfl #[.agg #[.int .i64 a0_0, .slice A0_1 l0_1.length c0_1]] rfl (by (try simp only [List.map_toArray, List.map_cons, List.map_nil]); first | done | rfl | (simp only [List.length_drop, List.length_take]; rfl)) ?_; (with_reducible refine (spec_l01Is.calls a0_0 _ _ l0_1 true _ ?side1 ?side2 A3.out).mono ?_); (case side1 => repeat (first | exact (Kd.C_below HR0_1.out HB.out) | (with_reducible refine Kd.C_alloc ?_ _) | (with_reducible refine Kd.C_drewN ?_ _) | (with_reducible refine Kd.C_drew ?_))); (case side2 => exact HC0_1.out); rintro e w17 ⟨rfl, hb⟩; refine ⟨_, rfl, ?_⟩; have n0_ := Aside0.mk (blk_below (g := gb210) (o := .cells #[.int .i64 a0_0, .slice A0_1 l0_1.length c0_1] 30 (0, 0)) (by (with_reducible repeat (first | refine blk_drewN ?_ _ | refine blk_drew ?_ | refine blk_alloc ?_ _)); exact BK210.out) hb); have n1_ := Aside0.mk (below_step (by repeat (first | (with_reducible first | exact HB.out | apply below_alloc | apply pw_below_drewN | apply below_drew1 | refine below_set ?_ GE210.out) | exact HB.out)) hb); clear BK210; clear HB; have BK210 := n0_; have HB := n1_; clear n0_ n1_; (try clear hb); (try clear hb2); (try clear hk); (try clear hi); have hcz18_0 : w17.cell? ⟨gb210, 0, none⟩ = some (.int .i64 a0_0) := (blk_cell BK210.out 0).trans rfl; have hcz18_1 : w17.cell? ⟨gb210, 1, none⟩ = some (.slice A0_1 l0_1.length c0_1) := (blk_cell BK210.out 1).trans rfl; have hfz18_0 := blk_frozen BK210.out 0; have hfz18_1 := blk_frozen BK210.out 1) | (go_at_call 94; (with_reducible refine (spec_l01Word.calls k a0_0 _ _ l0_1 _ _ l1 true _ ?side1 ?side2 ?side3 ?side4 A13.out).mono ?_); (case side1 => repeat (first | exact (Kd.C_below HR0_1.out HB.out) | (with_reducible refine Kd.C_alloc ?_ _) | (with_reducible refine Kd.C_drewN ?_ _) | (with_reducible refine Kd.C_drew ?_))); (case side2 => exact HC0_1.out); (case side3 => repeat (first | exact (Kd.C_below HR1.out HB.out) | (with_reducible refine Kd.C_alloc ?_ _) | (with_reducible refine Kd.C_drewN ?_ _) | (with_reducible refine Kd.C_drew ?_))); (case side4 => exact HC1.out); rintro e w19 ⟨rfl, hb⟩; have n0_ := Aside0.mk (blk_below (g := gb210) (o := .cells #[.int .i64 a0_0, .slice A0_1 l0_1.length c0_1] 30 (0, 0)) (by (with_reducible repeat (first | refine blk_drewN ?_ _ | refine blk_drew ?_ | refine blk_alloc ?_ _)); exact BK210.out) hb); have n1_ := Aside0.mk (below_step (by repeat (first | (with_reducible first | exact HB.out | apply below_alloc | apply pw_below_drewN | apply below_drew1 | refine below_set ?_ GE210.out) | exact HB.out)) hb); clear BK210; clear HB; have BK210 := n0_; have HB := n1_; clear n0_ n1_; (try clear hb); (try clear hb2); (try clear hk); (try clear hi)))
          go_ret
          exact ⟨by first | rfl | (simp [errW_none, errW_some] <;> rfl) | (simp [*, errW_none, errW_some] <;> rfl), by repeat (first | (with_reducible first | exact HB.out | apply below_alloc | apply pw_below_drewN | apply below_drew1 | refine below_set ?_ GE210.out) | exact HB.out)⟩
        · replace c14 := Bool.eq_false_iff.mpr c14
          subst c14
          have H1 : (some 2) = some r := by rw [if_neg (show ¬ (false = true) by decide)] at H; exact H
          clear H
          have H := H1
          clear H1
          obtain rfl := Option.some.inj H
          go_enter Try.func63, Try.ntmps63
          go_wp2_with (first | ((with_reducible refine gate_dst (N := 2) rfl ?_); (try (refine gate_guard (by rfl) ?_; dsimp only)); refine box_event ?hg (N := 2) ?hd (cs := #[.int .i64 a0_0, .slice A0_1 l0_1.length c0_1]) (t := 30) ?hr ?_; (case hd => rfl); (case hg => rfl); (case hr => first | (go_simp; done) | (go_simp; rfl)); intro gb210 hg w20 hbox hb; have n0_ := Aside0.mk (below_step (by repeat (first | (with_reducible first | exact HB.out | apply below_alloc | apply pw_below_drewN | apply below_drew1) | exact HB.out)) hb); have n1_ := Aside0.mk (hbox); have n2_ := Aside0.mk ((by rw [hg]; exact (below_size (by repeat (first | (with_reducible first | exact HB.out | apply below_alloc | apply pw_below_drewN | apply below_drew1) | exact HB.out))) : w.heap.size ≤ gb210)); have n3_ := Aside0.mk ((by rw [hg]; exact (below_size (by repeat (first | (with_reducible first | exact HB.out | apply below_alloc | apply pw_below_drewN | apply below_drew1) | exact HB.out))) : w.heap.size ≤ gb210)); clear HB; have HB := n0_; have BK210 := n1_; have GW210 := n2_; have GE210 := n3_; clear n0_ n1_ n2_ n3_; clear hb hbox hg; have hcz21_0 : w20.cell? ⟨gb210, 0, none⟩ = some (.int .i64 a0_0) := (blk_cell BK210.out 0).trans rfl; have hcz21_1 : w20.cell? ⟨gb210, 1, none⟩ = some (.slice A0_1 l0_1.length c0_1) := (blk_cell BK210.out 1).trans rfl; have hfz21_0 := blk_frozen BK210.out 0; have hfz21_1 := blk_frozen BK210.out 1) | ((with_reducible refine gate_callee (f := 74) rfl ?_); refine goesL_ (some 7) rfl rfl Try.func74 (by kernel_rfl) rfl #[.agg #[.int .i64 a0_0, .slice A0_1 l0_1.length c0_1]] rfl (by (try simp only [List.map_toArray, List.map_cons, List.map_nil]); first | done | rfl | (simp only [List.length_drop, List.length_take]; rfl)) ?_; (with_reducible refine (spec_l01Is.calls a0_0 _ _ l0_1 true _ ?side1 ?side2 A3.out).mono ?_); (case side1 => repeat (first | exact (Kd.C_below HR0_1.out HB.out) | (with_reducible refine Kd.C_alloc ?_ _) | (with_reducible refine Kd.C_drewN ?_ _) | (with_reducible refine Kd.C_drew ?_))); (case side2 => exact HC0_1.out); rintro e w22 ⟨rfl, hb⟩; refine ⟨_, rfl, ?_⟩; have n0_ := Aside0.mk (blk_below (g := gb210) (o := .cells #[.int .i64 a0_0, .slice A0_1 l0_1.length c0_1] 30 (0, 0)) (by (with_reducible repeat (first | refine blk_drewN ?_ _ | refine blk_drew ?_ | refine blk_alloc ?_ _)); exact BK210.out) hb); have n1_ := Aside0.mk (below_step (by repeat (first | (with_reducible first | exact HB.out | apply below_alloc | apply pw_below_drewN | apply below_drew1 | refine below_set ?_ GE210.out) | exact HB.out)) hb); clear BK210; clear HB; have BK210 := n0_; have HB := n1_; clear n0_ n1_; (try clear hb); (try clear hb2); (try clear hk); (try clear hi); have hcz23_0 : w22.cell? ⟨gb210, 0, none⟩ = some (.int .i64 a0_0) := (blk_cell BK210.out 0).trans rfl; have hcz23_1 : w22.cell? ⟨gb210, 1, none⟩ = some (.slice A0_1 l0_1.length c0_1) := (blk_cell BK210.out 1).trans rfl; have hfz23_0 := blk_frozen BK210.out 0; have hfz23_1 := blk_frozen BK210.out 1) | (go_at_call 94; (with_reducible refine (spec_l01Word.calls k a0_0 _ _ l0_1 _ _ l1 false _ ?side1 ?side2 ?side3 ?side4 A13.out).mono ?_); (case side1 => repeat (first | exact (Kd.C_below HR0_1.out HB.out) | (with_reducible refine Kd.C_alloc ?_ _) | (with_reducible refine Kd.C_drewN ?_ _) | (with_reducible refine Kd.C_drew ?_))); (case side2 => exact HC0_1.out); (case side3 => repeat (first | exact (Kd.C_below HR1.out HB.out) | (with_reducible refine Kd.C_alloc ?_ _) | (with_reducible refine Kd.C_drewN ?_ _) | (with_reducible refine Kd.C_drew ?_))); (case side4 => exact HC1.out); rintro e w24 ⟨rfl, hb⟩; have n0_ := Aside0.mk (blk_below (g := gb210) (o := .cells #[.int .i64 a0_0, .slice A0_1 l0_1.length c0_1] 30 (0, 0)) (by (with_reducible repeat (first | refine blk_drewN ?_ _ | refine blk_drew ?_ | refine blk_alloc ?_ _)); exact BK210.out) hb); have n1_ := Aside0.mk (below_step (by repeat (first | (with_reducible first | exact HB.out | apply below_alloc | apply pw_below_drewN | apply below_drew1 | refine below_set ?_ GE210.out) | exact HB.out)) hb); clear BK210; clear HB; have BK210 := n0_; have HB := n1_; clear n0_ n1_; (try clear hb); (try clear hb2); (try clear hk); (try clear hi)))
          go_ret
          exact ⟨by first | rfl | (simp [errW_none, errW_some] <;> rfl) | (simp [*, errW_none, errW_some] <;> rfl), by repeat (first | (with_reducible first | exact HB.out | apply below_alloc | apply pw_below_drewN | apply below_drew1 | refine below_set ?_ GE210.out) | exact HB.out)⟩
  · replace c4 := Bool.eq_false_iff.mpr c4
    subst c4
    have H1 : (some 1) = some r := by rw [if_neg (show ¬ (false = true) by decide)] at H; exact H
    clear H
    have H := H1
    clear H1
    obtain rfl := Option.some.inj H
    go_enter Try.func63, Try.ntmps63
    go_wp2_with (first | ((with_reducible refine gate_dst (N := 2) rfl ?_); (try (refine gate_guard (by rfl) ?_; dsimp only)); refine box_event ?hg (N := 2) ?hd (cs := #[.int .i64 a0_0, .slice A0_1 l0_1.length c0_1]) (t := 30) ?hr ?_; (case hd => rfl); (case hg => rfl); (case hr => first | (go_simp; done) | (go_simp; rfl)); intro gb210 hg w25 hbox hb; have n0_ := Aside0.mk (below_step (by repeat (first | (with_reducible first | exact HB.out | apply below_alloc | apply pw_below_drewN | apply below_drew1) | exact HB.out)) hb); have n1_ := Aside0.mk (hbox); have n2_ := Aside0.mk ((by rw [hg]; exact (below_size (by repeat (first | (with_reducible first | exact HB.out | apply below_alloc | apply pw_below_drewN | apply below_drew1) | exact HB.out))) : w.heap.size ≤ gb210)); have n3_ := Aside0.mk ((by rw [hg]; exact (below_size (by repeat (first | (with_reducible first | exact HB.out | apply below_alloc | apply pw_below_drewN | apply below_drew1) | exact HB.out))) : w.heap.size ≤ gb210)); clear HB; have HB := n0_; have BK210 := n1_; have GW210 := n2_; have GE210 := n3_; clear n0_ n1_ n2_ n3_; clear hb hbox hg; have hcz26_0 : w25.cell? ⟨gb210, 0, none⟩ = some (.int .i64 a0_0) := (blk_cell BK210.out 0).trans rfl; have hcz26_1 : w25.cell? ⟨gb210, 1, none⟩ = some (.slice A0_1 l0_1.length c0_1) := (blk_cell BK210.out 1).trans rfl; have hfz26_0 := blk_frozen BK210.out 0; have hfz26_1 := blk_frozen BK210.out 1) | ((with_reducible refine gate_callee (f := 74) rfl ?_); refine goesL_ (some 7) rfl rfl Try.func74 (by kernel_rfl) rfl #[.agg #[.int .i64 a0_0, .slice A0_1 l0_1.length c0_1]] rfl (by (try simp only [List.map_toArray, List.map_cons, List.map_nil]); first | done | rfl | (simp only [List.length_drop, List.length_take]; rfl)) ?_; (with_reducible refine (spec_l01Is.calls a0_0 _ _ l0_1 false _ ?side1 ?side2 A3.out).mono ?_); (case side1 => repeat (first | exact (Kd.C_below HR0_1.out HB.out) | (with_reducible refine Kd.C_alloc ?_ _) | (with_reducible refine Kd.C_drewN ?_ _) | (with_reducible refine Kd.C_drew ?_))); (case side2 => exact HC0_1.out); rintro e w27 ⟨rfl, hb⟩; refine ⟨_, rfl, ?_⟩; have n0_ := Aside0.mk (blk_below (g := gb210) (o := .cells #[.int .i64 a0_0, .slice A0_1 l0_1.length c0_1] 30 (0, 0)) (by (with_reducible repeat (first | refine blk_drewN ?_ _ | refine blk_drew ?_ | refine blk_alloc ?_ _)); exact BK210.out) hb); have n1_ := Aside0.mk (below_step (by repeat (first | (with_reducible first | exact HB.out | apply below_alloc | apply pw_below_drewN | apply below_drew1 | refine below_set ?_ GE210.out) | exact HB.out)) hb); clear BK210; clear HB; have BK210 := n0_; have HB := n1_; clear n0_ n1_; (try clear hb); (try clear hb2); (try clear hk); (try clear hi)))
    go_ret
    exact ⟨by first | rfl | (simp [errW_none, errW_some] <;> rfl) | (simp [*, errW_none, errW_some] <;> rfl), by repeat (first | (with_reducible first | exact HB.out | apply below_alloc | apply pw_below_drewN | apply below_drew1 | refine below_set ?_ GE210.out) | exact HB.out)⟩

end Go.Proofs.Ytenlcakpcbmmdaa.Q

-- Printed by a program of this session (the kit's print, turned: printpatch.py) out of Lean's print of the translation. Lean checks it.
namespace Go.Proofs.Ytenlcakpcbmmdaa.Q
open Go.RowKit Go.Proofs.YtenlcakpcbmmdaaW.PrintWords Go.Proofs.YtenlcakpcbmmdaaW.PrintLast Go.Proofs.YtenlcakpcbmmdaaW.PrintMore
attribute [local go_sem] max2_int min2_int max_two min_two max_three min_three max_four min_four   -- for this text's walks alone
set_option linter.unusedVariables false
set_option linter.unusedSimpArgs false

/-! ### spec_l02Told: function 52 -/
def spec_l02Told.f (a0 : Int) : Option (Int × Int) := if a0 > 1000000000000000 then (some (0, 3)) else (some (a0, 0))
set_option maxHeartbeats 8000000 in
set_option maxRecDepth 100000 in
theorem spec_l02Told.calls (a0 : Int) (r1 : Int) (r2 : Int) (w : World) (h : spec_l02Told.f a0 = some (r1, r2)) :
    Calls Try.prog 52 #[.int .i64 a0] w fun e w' => e = .returned (.tuple #[.int .i64 r1, .int .i64 r2]) ∧ Drawn0 w w' := by
  have H : (if a0 > 1000000000000000 then (some (0, 3)) else (some (a0, 0))) = some (r1, r2) := h
  clear h
  by_cases c2 : a0 > 1000000000000000
  · rw [if_pos c2] at H
    have c2b0 : decide (1000000000000000 < a0) = true := decide_eq_true c2
    clear c2
    simp only [Option.some.injEq, Prod.mk.injEq] at H
    obtain ⟨rfl, rfl⟩ := H
    go_enter Try.func52, Try.ntmps52
    go_wp2
    go_ret2
    exact ⟨by first | rfl | (simp; done) | (simp [*]; done), by repeat (first | exact Drawn0.refl _ | apply Drawn0.step)⟩
  · rw [if_neg c2] at H
    have c2b0 : decide (1000000000000000 < a0) = false := decide_eq_false c2
    clear c2
    simp only [Option.some.injEq, Prod.mk.injEq] at H
    obtain ⟨rfl, rfl⟩ := H
    go_enter Try.func52, Try.ntmps52
    go_wp2
    go_ret2
    exact ⟨by first | rfl | (simp; done) | (simp [*]; done), by repeat (first | exact Drawn0.refl _ | apply Drawn0.step)⟩

end Go.Proofs.Ytenlcakpcbmmdaa.Q

-- Printed by a program of this session (the kit's print, turned: printpatch.py) out of Lean's print of the translation. Lean checks it.
namespace Go.Proofs.Ytenlcakpcbmmdaa.Q
open Go.RowKit Go.Proofs.YtenlcakpcbmmdaaW.PrintWords Go.Proofs.YtenlcakpcbmmdaaW.PrintLast Go.Proofs.YtenlcakpcbmmdaaW.PrintMore
attribute [local go_sem] max2_int min2_int max_two min_two max_three min_three max_four min_four   -- for this text's walks alone
set_option linter.unusedVariables false
set_option linter.unusedSimpArgs false

/-! ### spec_CountRowsOver: function 19 -/
def spec_CountRowsOver.f (k : Nat) (a0_0 : Int) (l0_1 : List (S77)) (l1 : List Int) : Option (Int × Int) := (spec_l02Code.f k a0_0 l0_1 l1).bind fun t214 => (if t214 = 0 then ((spec_l02Each.f k a0_0).bind fun t215 => ((spec_l02Ways.f k a0_0 l0_1 t215 (l1.length : Int) l1).bind fun t218 => ((spec_l02Total.f k t218).bind fun t221 => ((spec_l02Told.f t221).bind fun bt222 => (some (bt222.1, bt222.2)))))) else (some (0, t214)))
theorem spec_CountRowsOver.mono : ∀ a0 a1 a2 k, LeO (spec_CountRowsOver.f k a0 a1 a2) (spec_CountRowsOver.f (k + 1) a0 a1 a2) := by
  intro a0 a1 a2 k
  unfold spec_CountRowsOver.f
  repeat' first
      | (with_reducible exact spec_l02Code.mono _ _ _ _)
      | (with_reducible exact spec_l02Each.mono _ _)
      | (with_reducible exact spec_l02Total.mono _ _)
      | (with_reducible exact spec_l02Ways.mono _ _ _ _ _ _)
      | (with_reducible exact LeO.refl _)
      | (with_reducible exact LeO.none _)
      | (with_reducible refine LeO.ite ?_ ?_)
      | (with_reducible refine LeO.bind ?_ (fun _ => ?_))
      | exact spec_l02Code.mono _ _ _ _
      | exact spec_l02Each.mono _ _
      | exact spec_l02Total.mono _ _
      | exact spec_l02Ways.mono _ _ _ _ _ _
      | exact LeO.none _
      | refine LeO.ite ?_ ?_
      | refine LeO.bind ?_ (fun _ => ?_)
def spec_CountRowsOver.T4 : Bool × List (List Nat × List Nat) := (true, [([], []), ([], []), ([1], [1]), ([2], [2]), ([], []), ([4], [4]), ([], []), ([0, 3, 5, 6, 3], [0, 3, 5, 6]), ([7, 7], [7]), ([8, 8], [8]), ([9], [9]), ([10], [10]), ([10], [10]), ([11, 9, 0, 1, 2, 3, 4, 5, 6, 7, 8, 9, 10, 11], [11]), ([12, 13, 0, 1, 2, 3, 4, 5, 6, 7, 8, 9, 10, 11, 12, 13], [12])])
def spec_CountRowsOver.B4 : List Nat := [0, 0, 2, 6, 0, 16, 0, 127, 255, 511, 1023, 2047, 2047, 4095, 16383]
theorem spec_CountRowsOver.tab4 : rtab .any (opsOf Try.f19 4) = spec_CountRowsOver.T4 := by kernel_rfl
theorem spec_CountRowsOver.bits4 : waitsOk spec_CountRowsOver.T4.2 spec_CountRowsOver.B4 = true := by kernel_rfl
set_option maxHeartbeats 8000000 in
set_option maxRecDepth 100000 in
theorem spec_CountRowsOver.calls (k : Nat) (a0_0 : Int) (A0_1 : Option Addr) (c0_1 : Nat) (l0_1 : List (S77)) (A1 : Option Addr) (c1 : Nat) (l1 : List Int) (r1 : Int) (r2 : Int) (w : World) (hr0_1 : Kd.C k77 w A0_1 l0_1.length l0_1) (hc0_1 : l0_1.length ≤ c0_1) (hr1 : Kd.C (Kd.int .i64) w A1 l1.length l1) (hc1 : l1.length ≤ c1) (h : spec_CountRowsOver.f k a0_0 l0_1 l1 = some (r1, r2)) :
    Calls Try.prog 19 #[.agg #[.int .i64 a0_0, .slice A0_1 l0_1.length c0_1], .slice A1 l1.length c1] w fun e w' => e = .returned (.tuple #[.int .i64 r1, .int .i64 r2]) ∧ Below w.heap.size w w' := by
  have hu30 := Try.underlying30
  have HR0_1 := Aside0.mk hr0_1
  have HC0_1 := Aside0.mk hc0_1
  clear hr0_1 hc0_1
  have HR1 := Aside0.mk hr1
  have HC1 := Aside0.mk hc1
  clear hr1 hc1
  have HB := Aside0.mk (Below.refl w.heap.size w)
  have H : ((spec_l02Code.f k a0_0 l0_1 l1).bind fun t214 => (if t214 = 0 then ((spec_l02Each.f k a0_0).bind fun t215 => ((spec_l02Ways.f k a0_0 l0_1 t215 (l1.length : Int) l1).bind fun t218 => ((spec_l02Total.f k t218).bind fun t221 => ((spec_l02Told.f t221).bind fun bt222 => (some (bt222.1, bt222.2)))))) else (some (0, t214)))) = some (r1, r2) := h
  clear h
  replace H := Option.bind_eq_some_iff.mp H
  obtain ⟨t214, A30, H⟩ := H
  replace H : (if t214 = 0 then ((spec_l02Each.f k a0_0).bind fun t215 => ((spec_l02Ways.f k a0_0 l0_1 t215 (l1.length : Int) l1).bind fun t218 => ((spec_l02Total.f k t218).bind fun t221 => ((spec_l02Told.f t221).bind fun bt222 => (some (bt222.1, bt222.2)))))) else (some (0, t214))) = some (r1, r2) := H
  have A3 := Aside0.mk A30
  clear A30
  by_cases c4 : t214 = 0
  · rw [if_pos c4] at H
    have c4b0 : (t214 == 0) = true := beq_iff_eq.mpr c4
    have c4b1 : (t214 != 0) = false := bne_eq_false_iff_eq.mpr c4
    clear c4
    replace H := Option.bind_eq_some_iff.mp H
    obtain ⟨t215, A50, H⟩ := H
    replace H : ((spec_l02Ways.f k a0_0 l0_1 t215 (l1.length : Int) l1).bind fun t218 => ((spec_l02Total.f k t218).bind fun t221 => ((spec_l02Told.f t221).bind fun bt222 => (some (bt222.1, bt222.2))))) = some (r1, r2) := H
    have A5 := Aside0.mk A50
    clear A50
    replace H := Option.bind_eq_some_iff.mp H
    obtain ⟨t218, A60, H⟩ := H
    replace H : ((spec_l02Total.f k t218).bind fun t221 => ((spec_l02Told.f t221).bind fun bt222 => (some (bt222.1, bt222.2)))) = some (r1, r2) := H
    have A6 := Aside0.mk A60
    clear A60
    replace H := Option.bind_eq_some_iff.mp H
    obtain ⟨t221, A70, H⟩ := H
    replace H : ((spec_l02Told.f t221).bind fun bt222 => (some (bt222.1, bt222.2))) = some (r1, r2) := H
    have A7 := Aside0.mk A70
    clear A70
    replace H := Option.bind_eq_some_iff.mp H
    obtain ⟨⟨t222, t223⟩, A80, H⟩ := H
    replace H : (some (t222, t223)) = some (r1, r2) := H
    have A8 := Aside0.mk A80
    clear A80
    simp only [Option.some.injEq, Prod.mk.injEq] at H
    obtain ⟨rfl, rfl⟩ := H
    go_enter Try.func19, Try.ntmps19
    try go_wp2_with (first | ((with_reducible refine gate_dst (N := 2) rfl ?_); refine box_event ?hg (N := 2) ?hd (cs := #[.int .i64 a0_0, .slice A0_1 l0_1.length c0_1]) (t := 30) ?hr ?_; (case hd => rfl); (case hg => rfl); (case hr => first | (go_simp; done) | (go_simp; rfl)); intro gb213 hg w9 hbox hb; have n0_ := Aside0.mk (below_step (by repeat (first | (with_reducible first | exact HB.out | apply below_alloc | apply pw_below_drewN | apply below_drew1) | exact HB.out)) hb); have n1_ := Aside0.mk (hbox); have n2_ := Aside0.mk ((by rw [hg]; exact (below_size (by repeat (first | (with_reducible first | exact HB.out | apply below_alloc | apply pw_below_drewN | apply below_drew1) | exact HB.out))) : w.heap.size ≤ gb213)); have n3_ := Aside0.mk ((by rw [hg]; exact (below_size (by repeat (first | (with_reducible first | exact HB.out | apply below_alloc | apply pw_below_drewN | apply below_drew1) | exact HB.out))) : w.heap.size ≤ gb213)); clear HB; have HB := n0_; have BK213 := n1_; have GW213 := n2_; have GE213 := n3_; clear n0_ n1_ n2_ n3_; clear hb hbox hg; have hcz10_0 : w9.cell? ⟨gb213, 0, none⟩ = some (.int .i64 a0_0) := (blk_cell BK213.out 0).trans rfl; have hcz10_1 : w9.cell? ⟨gb213, 1, none⟩ = some (.slice A0_1 l0_1.length c0_1) := (blk_cell BK213.out 1).trans rfl; have hfz10_0 := blk_frozen BK213.out 0; have hfz10_1 := blk_frozen BK213.out 1) | ((with_reducible refine gate_callee (f := 63) rfl ?_); refine goesL_ (some 11) rfl rfl Try.func63 (by kernel_rfl) rfl #[.agg #[.int .i64 a0_0, .slice A0_1 l0_1.length c0_1], .slice A1 l1.length c1] rfl (by (try simp only [List.map_toArray, List.map_cons, List.map_nil]); first | done | rfl | (simp only [List.length_drop, List.length_take]; rfl)) ?_; (with_reducible refine (spec_l02Code.calls k a0_0 _ _ l0_1 _ _ l1 t214 _ ?side1 ?side2 ?side3 ?side4 A3.out).mono ?_); (case side1 => repeat (first | exact (Kd.C_below HR0_1.out HB.out) | (with_reducible refine Kd.C_alloc ?_ _) | (with_reducible refine Kd.C_drewN ?_ _) | (with_reducible refine Kd.C_drew ?_))); (case side2 => exact HC0_1.out); (case side3 => repeat (first | exact (Kd.C_below HR1.out HB.out) | (with_reducible refine Kd.C_alloc ?_ _) | (with_reducible refine Kd.C_drewN ?_ _) | (with_reducible refine Kd.C_drew ?_))); (case side4 => exact HC1.out); rintro e w11 ⟨rfl, hb⟩; refine ⟨_, rfl, ?_⟩; have n0_ := Aside0.mk (blk_below (g := gb213) (o := .cells #[.int .i64 a0_0, .slice A0_1 l0_1.length c0_1] 30 (0, 0)) (by (with_reducible repeat (first | refine blk_drewN ?_ _ | refine blk_drew ?_ | refine blk_alloc ?_ _)); exact BK213.out) hb); have n1_ := Aside0.mk (below_step (by repeat (first | (with_reducible first | exact HB.out | apply below_alloc | apply pw_below_drewN | apply below_drew1 | refine below_set ?_ GE213.out) | exact HB.out)) hb); clear BK213; clear HB; have BK213 := n0_; have HB := n1_; clear n0_ n1_; (try clear hb); (try clear hb2); (try clear hk); (try clear hi)))
    have n0_ := Aside0.mk (blk_drew BK213.out)
    have n1_ := Aside0.mk (below_drew1 HB.out)
    clear BK213
    clear HB
    have BK213 := n0_
    have HB := n1_
    clear n0_ n1_
    refine start_ (n := 15) (S := fun w' => w'.cell? ⟨gb213, 0, none⟩ = some (.int .i64 a0_0) ∧ w'.cell? ⟨gb213, 1, none⟩ = some (.slice A0_1 l0_1.length c0_1)) (ds := []) #[false, false, false, false, false, false, false, false, false, false, false, false, false, false, false] (by kernel_rfl) rfl rfl ⟨(blk_cell BK213.out 0).trans rfl, (blk_cell BK213.out 1).trans rfl⟩ (fun hHeld => ?_); refine with_tabW spec_CountRowsOver.tab4 spec_CountRowsOver.bits4 (fun HT_ HW_ => ?_)
    generalize w11.drew = w12 at BK213 HB hHeld ⊢
    refine pure_ (i := 1) (N := some 17) (v := ?_) (a' := ?_) #[false, true, false, false, false, false, false, false, false, false, false, false, false, false, false] rfl rfl (any_of HT_.out (by kernel_rfl)) (fun _ _ _ h => h) (Or.inl ⟨by rfl, ?_⟩) ?_ ?_
    rotate_left
    · intro w'
      go_simp
      with_reducible rfl
    rotate_left
    · simp only [Act.put, List.setIfInBounds_toArray, List.set_cons_zero, List.set_cons_succ, i64_w, i32_w]
      rfl
    refine pure_ (i := 4) (N := some 20) (v := ?_) (a' := ?_) #[false, true, false, false, true, false, false, false, false, false, false, false, false, false, false] rfl rfl (any_of HT_.out (by kernel_rfl)) (fun _ _ _ h => h) (Or.inl ⟨by rfl, ?_⟩) ?_ ?_
    rotate_left
    · intro w'
      go_simp
      with_reducible rfl
    rotate_left
    · simp only [Act.put, List.setIfInBounds_toArray, List.set_cons_zero, List.set_cons_succ, i64_w, i32_w]
      rfl
    refine pure_ (i := 5) (N := some 21) (v := ?_) (a' := ?_) #[false, true, false, false, true, true, false, false, false, false, false, false, false, false, false] rfl rfl (any_of HT_.out (by kernel_rfl)) (fun _ _ _ h => h) (Or.inl ⟨by rfl, ?_⟩) ?_ ?_
    rotate_left
    · intro w'
      go_simp
      with_reducible rfl
    rotate_left
    · simp only [Act.put, List.setIfInBounds_toArray, List.set_cons_zero, List.set_cons_succ, i64_w, i32_w]
      rfl
    refine pure_ (i := 6) (N := some 22) (v := ?_) (a' := ?_) #[false, true, false, false, true, true, true, false, false, false, false, false, false, false, false] rfl rfl (any_of HT_.out (by kernel_rfl)) (fun _ _ _ h => h) (Or.inl ⟨by rfl, ?_⟩) ?_ ?_
    rotate_left
    · intro w'
      go_simp
      with_reducible rfl
    rotate_left
    · simp only [Act.put, List.setIfInBounds_toArray, List.set_cons_zero, List.set_cons_succ, i64_w, i32_w]
      rfl
    refine take_ (i := 0) (N := some 16) (v := ?_) (a' := ?_) #[true, true, false, false, true, true, true, false, false, false, false, false, false, false, false] rfl rfl (take_ofW HT_.out HW_.out (by kernel_rfl)) (fun _ _ _ h => h) (Or.inl ⟨by rfl, ?_⟩) hHeld ?_ ?_
    rotate_left
    · rintro w' ⟨s0, s1⟩
      go_simp
      with_reducible rfl
    rotate_left
    · simp only [Act.put, List.setIfInBounds_toArray, List.set_cons_zero, List.set_cons_succ, i64_w, i32_w]
      rfl
    refine take_ (i := 2) (N := some 18) (v := ?_) (a' := ?_) #[true, true, true, false, true, true, true, false, false, false, false, false, false, false, false] rfl rfl (take_ofW HT_.out HW_.out (by kernel_rfl)) (fun _ _ _ h => h) (Or.inl ⟨by rfl, ?_⟩) hHeld ?_ ?_
    rotate_left
    · rintro w' ⟨s0, s1⟩
      go_simp
      with_reducible rfl
    rotate_left
    · simp only [Act.put, List.setIfInBounds_toArray, List.set_cons_zero, List.set_cons_succ, i64_w, i32_w]
      rfl
    refine one_ (i := 3) (N := some 19) #[true, true, true, true, true, true, true, false, false, false, false, false, false, false, false] rfl rfl (one_of HT_.out (by kernel_rfl)) (by decide) (fun K hK => ?_)
    refine goes_ Try.func61 (by kernel_rfl) rfl #[.int .i64 a0_0] (by rfl) rfl rfl (by (try simp only [List.map_toArray, List.map_cons, List.map_nil]); first | done | rfl | (simp only [List.length_drop, List.length_take]; rfl)) ?_
    with_reducible refine (spec_l02Each.calls k a0_0 t215 _ A5.out).mono ?_
    rintro e w13 ⟨v216, rfl, ho0, hb⟩
    refine ⟨_, rfl, ?_⟩
    have n0_ := Aside0.mk (Kd.R_lower ho0 (below_size (by repeat (first | (with_reducible first | exact HB.out | apply below_alloc | apply pw_below_drewN | apply below_drew1 | refine below_set ?_ GE213.out) | exact HB.out))))
    have n1_ := Aside0.mk (blk_below (g := gb213) (o := .cells #[.int .i64 a0_0, .slice A0_1 l0_1.length c0_1] 30 (0, 0)) (by (with_reducible repeat (first | refine blk_drewN ?_ _ | refine blk_drew ?_ | refine blk_alloc ?_ _)); exact BK213.out) hb)
    have n2_ := Aside0.mk (below_step (by repeat (first | (with_reducible first | exact HB.out | apply below_alloc | apply pw_below_drewN | apply below_drew1 | refine below_set ?_ GE213.out) | exact HB.out)) hb)
    clear BK213
    clear HB
    have HO217 := n0_
    have BK213 := n1_
    have HB := n2_
    clear n0_ n1_ n2_
    (try clear hb)
    (try clear hb2)
    (try clear hk)
    (try clear hi)
    (try clear ho0)
    obtain ⟨Ao14, co14, eo14⟩ := Kd.R_slice HO217.out
    (first | subst eo14 | (injection eo14 with f1_ f2_ f3_; have f4_ := f1_.symm; have f5_ := f3_.symm; clear f1_ f2_ f3_; subst f4_; subst f5_))
    refine hK.out _ _ ⟨(blk_cell BK213.out 0).trans rfl, (blk_cell BK213.out 1).trans rfl⟩ (fun hHeld => ?_)
    clear hK K
    refine norm_ (a' := ?_) ?_ ?_
    rotate_left
    · show Act.put _ (some 19) _ = _
      simp only [Act.put, List.setIfInBounds_toArray, List.set_cons_zero, List.set_cons_succ, i64_w, i32_w]
      rfl
    refine one_ (i := 7) (N := some 23) #[true, true, true, true, true, true, true, true, false, false, false, false, false, false, false] rfl rfl (one_of HT_.out (by kernel_rfl)) (by decide) (fun K hK => ?_)
    refine goes_ Try.func51 (by kernel_rfl) rfl #[.agg #[.int .i64 a0_0, .slice A0_1 l0_1.length c0_1], .slice Ao14 t215.length co14, .int .i64 (l1.length : Int), .slice A1 l1.length c1] (by rfl) rfl rfl (by (try simp only [List.map_toArray, List.map_cons, List.map_nil]); first | done | rfl | (simp only [List.length_drop, List.length_take]; rfl)) ?_
    with_reducible refine (spec_l02Ways.calls k a0_0 _ _ l0_1 _ _ t215 (l1.length : Int) _ _ l1 t218 _ ?side1 ?side2 ?side3 ?side4 ?side5 ?side6 A6.out).mono ?_
    (case side1 => repeat (first | exact (Kd.C_below HR0_1.out HB.out) | (with_reducible refine Kd.C_alloc ?_ _) | (with_reducible refine Kd.C_drewN ?_ _) | (with_reducible refine Kd.C_drew ?_)))
    (case side2 => exact HC0_1.out)
    (case side3 => repeat (first | exact (Kd.R_reads' HO217.out).2.2 | (with_reducible refine Kd.C_alloc ?_ _) | (with_reducible refine Kd.C_drewN ?_ _) | (with_reducible refine Kd.C_drew ?_)))
    (case side4 => exact (Kd.R_reads' HO217.out).2.1)
    (case side5 => repeat (first | exact (Kd.C_below HR1.out HB.out) | (with_reducible refine Kd.C_alloc ?_ _) | (with_reducible refine Kd.C_drewN ?_ _) | (with_reducible refine Kd.C_drew ?_)))
    (case side6 => exact HC1.out)
    rintro e w15 ⟨v219, rfl, ho0, hb⟩
    refine ⟨_, rfl, ?_⟩
    have n0_ := Aside0.mk (Kd.R_elder' (by (with_reducible repeat (first | apply Kd.R_alloc | apply Kd.R_drewN | apply Kd.R_drew)); exact HO217.out) (Kd.R_base ho0) hb)
    have n1_ := Aside0.mk (Kd.R_lower (Kd.R_new' ho0 (Kd.R_lt (by (with_reducible repeat (first | apply Kd.R_alloc | apply Kd.R_drewN | apply Kd.R_drew)); exact HO217.out))) (below_size (by repeat (first | (with_reducible first | exact HB.out | apply below_alloc | apply pw_below_drewN | apply below_drew1 | refine below_set ?_ GE213.out) | exact HB.out))))
    have n2_ := Aside0.mk (blk_below (g := gb213) (o := .cells #[.int .i64 a0_0, .slice A0_1 l0_1.length c0_1] 30 (0, 0)) (by (with_reducible repeat (first | refine blk_drewN ?_ _ | refine blk_drew ?_ | refine blk_alloc ?_ _)); exact BK213.out) hb)
    have n3_ := Aside0.mk (below_step (by repeat (first | (with_reducible first | exact HB.out | apply below_alloc | apply pw_below_drewN | apply below_drew1 | refine below_set ?_ GE213.out) | exact HB.out)) hb)
    clear HO217
    clear BK213
    clear HB
    have HO217 := n0_
    have HO220 := n1_
    have BK213 := n2_
    have HB := n3_
    clear n0_ n1_ n2_ n3_
    (try clear hb)
    (try clear hb2)
    (try clear hk)
    (try clear hi)
    (try clear ho0)
    obtain ⟨Ao16, co16, eo16⟩ := Kd.R_slice HO220.out
    (first | subst eo16 | (injection eo16 with f1_ f2_ f3_; have f4_ := f1_.symm; have f5_ := f3_.symm; clear f1_ f2_ f3_; subst f4_; subst f5_))
    refine hK.out _ _ ⟨(blk_cell BK213.out 0).trans rfl, (blk_cell BK213.out 1).trans rfl⟩ (fun hHeld => ?_)
    clear hK K
    refine norm_ (a' := ?_) ?_ ?_
    rotate_left
    · show Act.put _ (some 23) _ = _
      simp only [Act.put, List.setIfInBounds_toArray, List.set_cons_zero, List.set_cons_succ, i64_w, i32_w]
      rfl
    refine one_ (i := 8) (N := some 24) #[true, true, true, true, true, true, true, true, true, false, false, false, false, false, false] rfl rfl (one_of HT_.out (by kernel_rfl)) (by decide) (fun K hK => ?_)
    refine goes_ Try.func60 (by kernel_rfl) rfl #[.slice Ao16 t218.length co16] (by rfl) rfl rfl (by (try simp only [List.map_toArray, List.map_cons, List.map_nil]); first | done | rfl | (simp only [List.length_drop, List.length_take]; rfl)) ?_
    with_reducible refine (spec_l02Total.calls k _ _ t218 t221 _ ?side1 ?side2 A7.out).mono ?_
    (case side1 => repeat (first | exact (Kd.R_reads' HO220.out).2.2 | (with_reducible refine Kd.C_alloc ?_ _) | (with_reducible refine Kd.C_drewN ?_ _) | (with_reducible refine Kd.C_drew ?_)))
    (case side2 => exact (Kd.R_reads' HO220.out).2.1)
    rintro e w17 ⟨rfl, hb⟩
    refine ⟨_, rfl, ?_⟩
    have n0_ := Aside0.mk (Kd.R_below (by (with_reducible repeat (first | apply Kd.R_alloc | apply Kd.R_drewN | apply Kd.R_drew)); exact HO217.out) hb)
    have n1_ := Aside0.mk (Kd.R_below (by (with_reducible repeat (first | apply Kd.R_alloc | apply Kd.R_drewN | apply Kd.R_drew)); exact HO220.out) hb)
    have n2_ := Aside0.mk (blk_below (g := gb213) (o := .cells #[.int .i64 a0_0, .slice A0_1 l0_1.length c0_1] 30 (0, 0)) (by (with_reducible repeat (first | refine blk_drewN ?_ _ | refine blk_drew ?_ | refine blk_alloc ?_ _)); exact BK213.out) hb)
    have n3_ := Aside0.mk (below_step (by repeat (first | (with_reducible first | exact HB.out | apply below_alloc | apply pw_below_drewN | apply below_drew1 | refine below_set ?_ GE213.out) | exact HB.out)) hb)
    clear HO217
    clear HO220
    clear BK213
    clear HB
    have HO217 := n0_
    have HO220 := n1_
    have BK213 := n2_
    have HB := n3_
    clear n0_ n1_ n2_ n3_
    (try clear hb)
    (try clear hb2)
    (try clear hk)
    (try clear hi)
    refine hK.out _ _ ⟨(blk_cell BK213.out 0).trans rfl, (blk_cell BK213.out 1).trans rfl⟩ (fun hHeld => ?_)
    clear hK K
    refine norm_ (a' := ?_) ?_ ?_
    rotate_left
    · show Act.put _ (some 24) _ = _
      simp only [Act.put, List.setIfInBounds_toArray, List.set_cons_zero, List.set_cons_succ, i64_w, i32_w]
      rfl
    refine one_ (i := 9) (N := some 25) #[true, true, true, true, true, true, true, true, true, true, false, false, false, false, false] rfl rfl (one_of HT_.out (by kernel_rfl)) (by decide) (fun K hK => ?_)
    refine goes_ Try.func52 (by kernel_rfl) rfl #[.int .i64 t221] (by rfl) rfl rfl (by (try simp only [List.map_toArray, List.map_cons, List.map_nil]); first | done | rfl | (simp only [List.length_drop, List.length_take]; rfl)) ?_
    with_reducible refine (spec_l02Told.calls t221 t222 t223 _ A8.out).mono ?_
    rintro e w' ⟨rfl, ⟨nd, rfl⟩⟩
    refine ⟨_, rfl, ?_⟩
    refine hK.out _ _ ⟨(blk_cell BK213.out 0).trans rfl, (blk_cell BK213.out 1).trans rfl⟩ (fun hHeld => ?_)
    clear hK K
    refine norm_ (a' := ?_) ?_ ?_
    rotate_left
    · show Act.put _ (some 25) _ = _
      simp only [Act.put, List.setIfInBounds_toArray, List.set_cons_zero, List.set_cons_succ, i64_w, i32_w]
      rfl
    refine pure_ (i := 10) (N := some 15) (v := ?_) (a' := ?_) #[true, true, true, true, true, true, true, true, true, true, true, false, false, false, false] rfl rfl (any_of HT_.out (by kernel_rfl)) (fun _ _ _ h => h) (Or.inl ⟨by rfl, ?_⟩) ?_ ?_
    rotate_left
    · intro w'
      go_simp
      with_reducible rfl
    rotate_left
    · simp only [Act.put, List.setIfInBounds_toArray, List.set_cons_zero, List.set_cons_succ, i64_w, i32_w]
      rfl
    refine pure_ (i := 11) (N := some 26) (v := ?_) (a' := ?_) #[true, true, true, true, true, true, true, true, true, true, true, true, false, false, false] rfl rfl (any_of HT_.out (by kernel_rfl)) (fun _ _ _ h => h) (Or.inl ⟨by rfl, ?_⟩) ?_ ?_
    rotate_left
    · intro w'
      go_simp
      with_reducible rfl
    rotate_left
    · simp only [Act.put, List.setIfInBounds_toArray, List.set_cons_zero, List.set_cons_succ, i64_w, i32_w]
      rfl
    refine pure_ (i := 12) (N := some 27) (v := ?_) (a' := ?_) #[true, true, true, true, true, true, true, true, true, true, true, true, true, false, false] rfl rfl (any_of HT_.out (by kernel_rfl)) (fun _ _ _ h => h) (Or.inl ⟨by rfl, ?_⟩) ?_ ?_
    rotate_left
    · intro w'
      go_simp
      with_reducible rfl
    rotate_left
    · simp only [Act.put, List.setIfInBounds_toArray, List.set_cons_zero, List.set_cons_succ, i64_w, i32_w]
      rfl
    refine pure_ (i := 13) (N := some 7) (v := ?_) (a' := ?_) #[true, true, true, true, true, true, true, true, true, true, true, true, true, true, false] rfl rfl (any_of HT_.out (by kernel_rfl)) (fun _ _ _ h => h) (Or.inl ⟨by rfl, ?_⟩) ?_ ?_
    rotate_left
    · intro w'
      go_simp
      with_reducible rfl
    rotate_left
    · simp only [Act.put, List.setIfInBounds_toArray, List.set_cons_zero, List.set_cons_succ, i64_w, i32_w]
      rfl
    refine pure_ (i := 14) (N := some 8) (v := ?_) (a' := ?_) #[true, true, true, true, true, true, true, true, true, true, true, true, true, true, true] rfl rfl (any_of HT_.out (by kernel_rfl)) (fun _ _ _ h => h) (Or.inl ⟨by rfl, ?_⟩) ?_ ?_
    rotate_left
    · intro w'
      go_simp
      with_reducible rfl
    rotate_left
    · simp only [Act.put, List.setIfInBounds_toArray, List.set_cons_zero, List.set_cons_succ, i64_w, i32_w]
      rfl
    refine done_ (done_of HT_.out (by kernel_rfl)) ?_
    try go_wp2
    go_ret2
    exact ⟨by first | rfl | (simp [errW_none, errW_some] <;> rfl) | (simp [*, errW_none, errW_some] <;> rfl), by repeat (first | (with_reducible first | exact HB.out | apply below_alloc | apply pw_below_drewN | apply below_drew1 | refine below_set ?_ GE213.out) | exact HB.out)⟩
  · rw [if_neg c4] at H
    have c4b0 : (t214 == 0) = false := beq_eq_false_iff_ne.mpr c4
    have c4b1 : (t214 != 0) = true := bne_iff_ne.mpr c4
    simp only [Option.some.injEq, Prod.mk.injEq] at H
    obtain ⟨rfl, rfl⟩ := H
    go_enter Try.func19, Try.ntmps19
    go_wp2_with (first | ((with_reducible refine gate_dst (N := 2) rfl ?_); refine box_event ?hg (N := 2) ?hd (cs := #[.int .i64 a0_0, .slice A0_1 l0_1.length c0_1]) (t := 30) ?hr ?_; (case hd => rfl); (case hg => rfl); (case hr => first | (go_simp; done) | (go_simp; rfl)); intro gb213 hg w18 hbox hb; have n0_ := Aside0.mk (below_step (by repeat (first | (with_reducible first | exact HB.out | apply below_alloc | apply pw_below_drewN | apply below_drew1) | exact HB.out)) hb); have n1_ := Aside0.mk (hbox); have n2_ := Aside0.mk ((by rw [hg]; exact (below_size (by repeat (first | (with_reducible first | exact HB.out | apply below_alloc | apply pw_below_drewN | apply below_drew1) | exact HB.out))) : w.heap.size ≤ gb213)); have n3_ := Aside0.mk ((by rw [hg]; exact (below_size (by repeat (first | (with_reducible first | exact HB.out | apply below_alloc | apply pw_below_drewN | apply below_drew1) | exact HB.out))) : w.heap.size ≤ gb213)); clear HB; have HB := n0_; have BK213 := n1_; have GW213 := n2_; have GE213 := n3_; clear n0_ n1_ n2_ n3_; clear hb hbox hg; have hcz19_0 : w18.cell? ⟨gb213, 0, none⟩ = some (.int .i64 a0_0) := (blk_cell BK213.out 0).trans rfl; have hcz19_1 : w18.cell? ⟨gb213, 1, none⟩ = some (.slice A0_1 l0_1.length c0_1) := (blk_cell BK213.out 1).trans rfl; have hfz19_0 := blk_frozen BK213.out 0; have hfz19_1 := blk_frozen BK213.out 1) | ((with_reducible refine gate_callee (f := 63) rfl ?_); refine goesL_ (some 11) rfl rfl Try.func63 (by kernel_rfl) rfl #[.agg #[.int .i64 a0_0, .slice A0_1 l0_1.length c0_1], .slice A1 l1.length c1] rfl (by (try simp only [List.map_toArray, List.map_cons, List.map_nil]); first | done | rfl | (simp only [List.length_drop, List.length_take]; rfl)) ?_; (with_reducible refine (spec_l02Code.calls k a0_0 _ _ l0_1 _ _ l1 t214 _ ?side1 ?side2 ?side3 ?side4 A3.out).mono ?_); (case side1 => repeat (first | exact (Kd.C_below HR0_1.out HB.out) | (with_reducible refine Kd.C_alloc ?_ _) | (with_reducible refine Kd.C_drewN ?_ _) | (with_reducible refine Kd.C_drew ?_))); (case side2 => exact HC0_1.out); (case side3 => repeat (first | exact (Kd.C_below HR1.out HB.out) | (with_reducible refine Kd.C_alloc ?_ _) | (with_reducible refine Kd.C_drewN ?_ _) | (with_reducible refine Kd.C_drew ?_))); (case side4 => exact HC1.out); rintro e w20 ⟨rfl, hb⟩; refine ⟨_, rfl, ?_⟩; have n0_ := Aside0.mk (blk_below (g := gb213) (o := .cells #[.int .i64 a0_0, .slice A0_1 l0_1.length c0_1] 30 (0, 0)) (by (with_reducible repeat (first | refine blk_drewN ?_ _ | refine blk_drew ?_ | refine blk_alloc ?_ _)); exact BK213.out) hb); have n1_ := Aside0.mk (below_step (by repeat (first | (with_reducible first | exact HB.out | apply below_alloc | apply pw_below_drewN | apply below_drew1 | refine below_set ?_ GE213.out) | exact HB.out)) hb); clear BK213; clear HB; have BK213 := n0_; have HB := n1_; clear n0_ n1_; (try clear hb); (try clear hb2); (try clear hk); (try clear hi)))
    go_ret2
    exact ⟨by first | rfl | (simp [errW_none, errW_some] <;> rfl) | (simp [*, errW_none, errW_some] <;> rfl), by repeat (first | (with_reducible first | exact HB.out | apply below_alloc | apply pw_below_drewN | apply below_drew1 | refine below_set ?_ GE213.out) | exact HB.out)⟩

end Go.Proofs.Ytenlcakpcbmmdaa.Q

-- Printed by a program of this session (the kit's print, turned: printpatch.py) out of Lean's print of the translation. Lean checks it.
namespace Go.Proofs.Ytenlcakpcbmmdaa.Q
open Go.RowKit Go.Proofs.YtenlcakpcbmmdaaW.PrintWords Go.Proofs.YtenlcakpcbmmdaaW.PrintLast Go.Proofs.YtenlcakpcbmmdaaW.PrintMore
attribute [local go_sem] max2_int min2_int max_two min_two max_three min_three max_four min_four   -- for this text's walks alone
set_option linter.unusedVariables false
set_option linter.unusedSimpArgs false

/-! ### impl_counted: function 58 -/
def impl_counted.f (a0 : Int) : Option (Int × Int) := if a0 > 1000000000000000 then (some (0, 3)) else (some (a0, 0))
set_option maxHeartbeats 8000000 in
set_option maxRecDepth 100000 in
theorem impl_counted.calls (a0 : Int) (r1 : Int) (r2 : Int) (w : World) (h : impl_counted.f a0 = some (r1, r2)) :
    Calls Try.prog 58 #[.int .i64 a0] w fun e w' => e = .returned (.tuple #[.int .i64 r1, .int .i64 r2]) ∧ Drawn0 w w' := by
  have H : (if a0 > 1000000000000000 then (some (0, 3)) else (some (a0, 0))) = some (r1, r2) := h
  clear h
  by_cases c2 : a0 > 1000000000000000
  · rw [if_pos c2] at H
    have c2b0 : decide (1000000000000000 < a0) = true := decide_eq_true c2
    clear c2
    simp only [Option.some.injEq, Prod.mk.injEq] at H
    obtain ⟨rfl, rfl⟩ := H
    go_enter Try.func58, Try.ntmps58
    go_wp2
    go_ret2
    exact ⟨by first | rfl | (simp; done) | (simp [*]; done), by repeat (first | exact Drawn0.refl _ | apply Drawn0.step)⟩
  · rw [if_neg c2] at H
    have c2b0 : decide (1000000000000000 < a0) = false := decide_eq_false c2
    clear c2
    simp only [Option.some.injEq, Prod.mk.injEq] at H
    obtain ⟨rfl, rfl⟩ := H
    go_enter Try.func58, Try.ntmps58
    go_wp2
    go_ret2
    exact ⟨by first | rfl | (simp; done) | (simp [*]; done), by repeat (first | exact Drawn0.refl _ | apply Drawn0.step)⟩

end Go.Proofs.Ytenlcakpcbmmdaa.Q

-- Printed by a program of this session (the kit's print, turned: printpatch.py) out of Lean's print of the translation. Lean checks it.
namespace Go.Proofs.Ytenlcakpcbmmdaa.Q
open Go.RowKit Go.Proofs.YtenlcakpcbmmdaaW.PrintWords Go.Proofs.YtenlcakpcbmmdaaW.PrintLast Go.Proofs.YtenlcakpcbmmdaaW.PrintMore
attribute [local go_sem] max2_int min2_int max_two min_two max_three min_three max_four min_four   -- for this text's walks alone
set_option linter.unusedVariables false
set_option linter.unusedSimpArgs false

/-! ### impl_CountRowsOver_1: function 64 -/
def impl_CountRowsOver_1.f (k : Nat) (a0_0 : Int) (l0_1 : List (S77)) (l1_0 : List Int) : Option (Bool) := (impl_Set_isWord.f k a0_0 l0_1 l1_0).bind fun t231 => (some t231)
theorem impl_CountRowsOver_1.mono : ∀ a0 a1 a2 k, LeO (impl_CountRowsOver_1.f k a0 a1 a2) (impl_CountRowsOver_1.f (k + 1) a0 a1 a2) := by
  intro a0 a1 a2 k
  unfold impl_CountRowsOver_1.f
  repeat' first
      | (with_reducible exact impl_Set_isWord.mono _ _ _ _)
      | (with_reducible exact LeO.refl _)
      | (with_reducible exact LeO.none _)
      | (with_reducible refine LeO.ite ?_ ?_)
      | (with_reducible refine LeO.bind ?_ (fun _ => ?_))
      | exact impl_Set_isWord.mono _ _ _ _
      | exact LeO.none _
      | refine LeO.ite ?_ ?_
      | refine LeO.bind ?_ (fun _ => ?_)
set_option maxHeartbeats 8000000 in
set_option maxRecDepth 100000 in
theorem impl_CountRowsOver_1.calls (k : Nat) (g0_ : Nat) (a0_0 : Int) (A0_1 : Option Addr) (c0_1 : Nat) (l0_1 : List (S77)) (g1_ : Nat) (A1_0 : Option Addr) (c1_0 : Nat) (l1_0 : List Int) (r : Bool) (w : World) (hr0_1 : Kd.C k77 w A0_1 l0_1.length l0_1) (hc0_1 : l0_1.length ≤ c0_1) (hr1_0 : Kd.C (Kd.int .i64) w A1_0 l1_0.length l1_0) (hc1_0 : l1_0.length ≤ c1_0) (hb0_ : w.heap[g0_]? = some (.cells #[.int .i64 a0_0, .slice A0_1 l0_1.length c0_1] 30 (0, 0))) (hb1_ : w.heap[g1_]? = some (.cells #[.slice A1_0 l1_0.length c1_0] 34 (0, 0))) (h : impl_CountRowsOver_1.f k a0_0 l0_1 l1_0 = some r) :
    Calls Try.prog 64 #[.pointer (some ⟨g0_, 0, none⟩), .pointer (some ⟨g1_, 0, none⟩)] w fun e w' => e = .returned (.bool r) ∧ Below w.heap.size w w' := by
  have hu30 := Try.underlying30
  have HR0_1 := Aside0.mk hr0_1
  have HC0_1 := Aside0.mk hc0_1
  clear hr0_1 hc0_1
  have HR1_0 := Aside0.mk hr1_0
  have HC1_0 := Aside0.mk hc1_0
  clear hr1_0 hc1_0
  have BK0 := Aside0.mk hb0_
  clear hb0_
  have BK1 := Aside0.mk hb1_
  clear hb1_
  have HB := Aside0.mk (Below.refl w.heap.size w)
  have H : ((impl_Set_isWord.f k a0_0 l0_1 l1_0).bind fun t231 => (some t231)) = some r := h
  clear h
  replace H := Option.bind_eq_some_iff.mp H
  obtain ⟨t231, A30, H⟩ := H
  replace H : (some t231) = some r := H
  have A3 := Aside0.mk A30
  clear A30
  obtain rfl := Option.some.inj H
  have hcz4_0 : w.cell? ⟨g0_, 0, none⟩ = some (.int .i64 a0_0) := (blk_cell BK0.out 0).trans rfl
  have hcz4_1 : w.cell? ⟨g0_, 1, none⟩ = some (.slice A0_1 l0_1.length c0_1) := (blk_cell BK0.out 1).trans rfl
  have hfz4_0 := blk_frozen BK0.out 0
  have hfz4_1 := blk_frozen BK0.out 1
  have hcz5_0 : w.cell? ⟨g1_, 0, none⟩ = some (.slice A1_0 l1_0.length c1_0) := (blk_cell BK1.out 0).trans rfl
  have hfz5_0 := blk_frozen BK1.out 0
  go_enter Try.func64, Try.ntmps64
  go_wp2_with (first | ((with_reducible refine gate_callee (f := 65) rfl ?_); refine goesL_ (some 5) rfl rfl Try.func65 (by kernel_rfl) rfl #[.agg #[.int .i64 a0_0, .slice A0_1 l0_1.length c0_1], .slice A1_0 l1_0.length c1_0] rfl (by (try simp only [List.map_toArray, List.map_cons, List.map_nil]); first | done | rfl | (simp only [List.length_drop, List.length_take]; rfl)) ?_; (with_reducible refine (impl_Set_isWord.calls k a0_0 _ _ l0_1 _ _ l1_0 t231 _ ?side1 ?side2 ?side3 ?side4 A3.out).mono ?_); (case side1 => repeat (first | exact HR0_1.out | (with_reducible refine Kd.C_alloc ?_ _) | (with_reducible refine Kd.C_drewN ?_ _) | (with_reducible refine Kd.C_drew ?_))); (case side2 => exact HC0_1.out); (case side3 => repeat (first | exact HR1_0.out | (with_reducible refine Kd.C_alloc ?_ _) | (with_reducible refine Kd.C_drewN ?_ _) | (with_reducible refine Kd.C_drew ?_))); (case side4 => exact HC1_0.out); rintro e w6 ⟨rfl, hb⟩; refine ⟨_, rfl, ?_⟩; have n0_ := Aside0.mk (blk_below (g := g0_) (o := .cells #[.int .i64 a0_0, .slice A0_1 l0_1.length c0_1] 30 (0, 0)) (by (with_reducible repeat (first | refine blk_drewN ?_ _ | refine blk_drew ?_ | refine blk_alloc ?_ _)); exact BK0.out) hb); have n1_ := Aside0.mk (blk_below (g := g1_) (o := .cells #[.slice A1_0 l1_0.length c1_0] 34 (0, 0)) (by (with_reducible repeat (first | refine blk_drewN ?_ _ | refine blk_drew ?_ | refine blk_alloc ?_ _)); exact BK1.out) hb); have n2_ := Aside0.mk (below_step (by repeat (first | (with_reducible first | exact HB.out | apply below_alloc | apply pw_below_drewN | apply below_drew1) | exact HB.out)) hb); clear BK0; clear BK1; clear HB; have BK0 := n0_; have BK1 := n1_; have HB := n2_; clear n0_ n1_ n2_; (try clear hb); (try clear hb2); (try clear hk); (try clear hi)))
  go_ret
  exact ⟨by first | rfl | (simp [errW_none, errW_some] <;> rfl) | (simp [*, errW_none, errW_some] <;> rfl), by repeat (first | (with_reducible first | exact HB.out | apply below_alloc | apply pw_below_drewN | apply below_drew1) | exact HB.out)⟩

end Go.Proofs.Ytenlcakpcbmmdaa.Q

-- Printed by a program of this session (the kit's print, turned: printpatch.py) out of Lean's print of the translation. Lean checks it.
namespace Go.Proofs.Ytenlcakpcbmmdaa.Q
open Go.RowKit Go.Proofs.YtenlcakpcbmmdaaW.PrintWords Go.Proofs.YtenlcakpcbmmdaaW.PrintLast Go.Proofs.YtenlcakpcbmmdaaW.PrintMore
attribute [local go_sem] max2_int min2_int max_two min_two max_three min_three max_four min_four   -- for this text's walks alone
set_option linter.unusedVariables false
set_option linter.unusedSimpArgs false

/-! ### impl_setCode_at_impl_CountRowsOver_1: function 154 -/
def impl_setCode_at_impl_CountRowsOver_1.f (k : Nat) (a0_0 : Int) (l0_1 : List (S77)) (a1_0_0 : Int) (l1_0_1 : List (S77)) (l1_1_0 : List Int) : Option (Int) := (impl_IsSet.f a0_0 l0_1).bind fun t233 => (if t233 = true then ((impl_CountRowsOver_1.f k a1_0_0 l1_0_1 l1_1_0).bind fun t234 => (if t234 = true then (some 0) else (some 2))) else (some 1))
theorem impl_setCode_at_impl_CountRowsOver_1.mono : ∀ a0 a1 a2 a3 a4 k, LeO (impl_setCode_at_impl_CountRowsOver_1.f k a0 a1 a2 a3 a4) (impl_setCode_at_impl_CountRowsOver_1.f (k + 1) a0 a1 a2 a3 a4) := by
  intro a0 a1 a2 a3 a4 k
  unfold impl_setCode_at_impl_CountRowsOver_1.f
  repeat' first
      | (with_reducible exact impl_CountRowsOver_1.mono _ _ _ _)
      | (with_reducible exact LeO.refl _)
      | (with_reducible exact LeO.none _)
      | (with_reducible refine LeO.ite ?_ ?_)
      | (with_reducible refine LeO.bind ?_ (fun _ => ?_))
      | exact impl_CountRowsOver_1.mono _ _ _ _
      | exact LeO.none _
      | refine LeO.ite ?_ ?_
      | refine LeO.bind ?_ (fun _ => ?_)
set_option maxHeartbeats 8000000 in
set_option maxRecDepth 100000 in
theorem impl_setCode_at_impl_CountRowsOver_1.calls (k : Nat) (a0_0 : Int) (A0_1 : Option Addr) (c0_1 : Nat) (l0_1 : List (S77)) (g1_0_ : Nat) (a1_0_0 : Int) (A1_0_1 : Option Addr) (c1_0_1 : Nat) (l1_0_1 : List (S77)) (g1_1_ : Nat) (A1_1_0 : Option Addr) (c1_1_0 : Nat) (l1_1_0 : List Int) (r : Int) (w : World) (hr0_1 : Kd.C k77 w A0_1 l0_1.length l0_1) (hc0_1 : l0_1.length ≤ c0_1) (hr1_0_1 : Kd.C k77 w A1_0_1 l1_0_1.length l1_0_1) (hc1_0_1 : l1_0_1.length ≤ c1_0_1) (hr1_1_0 : Kd.C (Kd.int .i64) w A1_1_0 l1_1_0.length l1_1_0) (hc1_1_0 : l1_1_0.length ≤ c1_1_0) (hb1_0_ : w.heap[g1_0_]? = some (.cells #[.int .i64 a1_0_0, .slice A1_0_1 l1_0_1.length c1_0_1] 30 (0, 0))) (hb1_1_ : w.heap[g1_1_]? = some (.cells #[.slice A1_1_0 l1_1_0.length c1_1_0] 34 (0, 0))) (h : impl_setCode_at_impl_CountRowsOver_1.f k a0_0 l0_1 a1_0_0 l1_0_1 l1_1_0 = some r) :
    Calls Try.prog 54 #[.agg #[.int .i64 a0_0, .slice A0_1 l0_1.length c0_1], .func (.func 64) #[] #[.pointer (some ⟨g1_0_, 0, none⟩), .pointer (some ⟨g1_1_, 0, none⟩)]] w fun e w' => e = .returned (.int .i64 r) ∧ Below w.heap.size w w' := by
  have hu30 := Try.underlying30
  have HR0_1 := Aside0.mk hr0_1
  have HC0_1 := Aside0.mk hc0_1
  clear hr0_1 hc0_1
  have HR1_0_1 := Aside0.mk hr1_0_1
  have HC1_0_1 := Aside0.mk hc1_0_1
  clear hr1_0_1 hc1_0_1
  have HR1_1_0 := Aside0.mk hr1_1_0
  have HC1_1_0 := Aside0.mk hc1_1_0
  clear hr1_1_0 hc1_1_0
  have BK90020 := Aside0.mk hb1_0_
  clear hb1_0_
  have BK90021 := Aside0.mk hb1_1_
  clear hb1_1_
  have HB := Aside0.mk (Below.refl w.heap.size w)
  have H : ((impl_IsSet.f a0_0 l0_1).bind fun t233 => (if t233 = true then ((impl_CountRowsOver_1.f k a1_0_0 l1_0_1 l1_1_0).bind fun t234 => (if t234 = true then (some 0) else (some 2))) else (some 1))) = some r := h
  clear h
  replace H := Option.bind_eq_some_iff.mp H
  obtain ⟨t233, A30, H⟩ := H
  replace H : (if t233 = true then ((impl_CountRowsOver_1.f k a1_0_0 l1_0_1 l1_1_0).bind fun t234 => (if t234 = true then (some 0) else (some 2))) else (some 1)) = some r := H
  have A3 := Aside0.mk A30
  clear A30
  by_cases c4 : t233 = true
  · subst c4
    have H1 : ((impl_CountRowsOver_1.f k a1_0_0 l1_0_1 l1_1_0).bind fun t234 => (if t234 = true then (some 0) else (some 2))) = some r := by rw [if_pos rfl] at H; exact H
    clear H
    have H := H1
    clear H1
    replace H := Option.bind_eq_some_iff.mp H
    obtain ⟨t234, A50, H⟩ := H
    replace H : (if t234 = true then (some 0) else (some 2)) = some r := H
    have A5 := Aside0.mk A50
    clear A50
    by_cases c6 : t234 = true
    · subst c6
      have H1 : (some 0) = some r := by rw [if_pos rfl] at H; exact H
      clear H
      have H := H1
      clear H1
      obtain rfl := Option.some.inj H
      go_enter Try.func54, Try.ntmps54
      go_wp2_with (first | ((with_reducible refine gate_dst (N := 2) rfl ?_); refine box_event ?hg (N := 2) ?hd (cs := #[.int .i64 a0_0, .slice A0_1 l0_1.length c0_1]) (t := 30) ?hr ?_; (case hd => rfl); (case hg => rfl); (case hr => first | (go_simp; done) | (go_simp; rfl)); intro gb232 hg w7 hbox hb; have n0_ := Aside0.mk (blk_below (g := g1_0_) (o := .cells #[.int .i64 a1_0_0, .slice A1_0_1 l1_0_1.length c1_0_1] 30 (0, 0)) (by (with_reducible repeat (first | refine blk_drewN ?_ _ | refine blk_drew ?_ | refine blk_alloc ?_ _)); exact BK90020.out) hb); have n1_ := Aside0.mk (blk_below (g := g1_1_) (o := .cells #[.slice A1_1_0 l1_1_0.length c1_1_0] 34 (0, 0)) (by (with_reducible repeat (first | refine blk_drewN ?_ _ | refine blk_drew ?_ | refine blk_alloc ?_ _)); exact BK90021.out) hb); have n2_ := Aside0.mk (below_step (by repeat (first | (with_reducible first | exact HB.out | apply below_alloc | apply pw_below_drewN | apply below_drew1) | exact HB.out)) hb); have n3_ := Aside0.mk (hbox); have n4_ := Aside0.mk ((by rw [hg]; exact (below_size (by repeat (first | (with_reducible first | exact HB.out | apply below_alloc | apply pw_below_drewN | apply below_drew1) | exact HB.out))) : w.heap.size ≤ gb232)); have n5_ := Aside0.mk ((by rw [hg]; exact (below_size (by repeat (first | (with_reducible first | exact HB.out | apply below_alloc | apply pw_below_drewN | apply below_drew1) | exact HB.out))) : w.heap.size ≤ gb232)); have n6_ := Aside0.mk ((by rw [hg]; exact Nat.ne_of_lt (blk_lt (g := g1_0_) (o := .cells #[.int .i64 a1_0_0, .slice A1_0_1 l1_0_1.length c1_0_1] 30 (0, 0)) (by (with_reducible repeat (first | refine blk_drewN ?_ _ | refine blk_drew ?_ | refine blk_alloc ?_ _)); exact BK90020.out)) : g1_0_ ≠ gb232)); have n7_ := Aside0.mk ((by rw [hg]; exact Nat.ne_of_gt (blk_lt (g := g1_0_) (o := .cells #[.int .i64 a1_0_0, .slice A1_0_1 l1_0_1.length c1_0_1] 30 (0, 0)) (by (with_reducible repeat (first | refine blk_drewN ?_ _ | refine blk_drew ?_ | refine blk_alloc ?_ _)); exact BK90020.out)) : gb232 ≠ g1_0_)); have n8_ := Aside0.mk ((by rw [hg]; exact Nat.ne_of_lt (blk_lt (g := g1_1_) (o := .cells #[.slice A1_1_0 l1_1_0.length c1_1_0] 34 (0, 0)) (by (with_reducible repeat (first | refine blk_drewN ?_ _ | refine blk_drew ?_ | refine blk_alloc ?_ _)); exact BK90021.out)) : g1_1_ ≠ gb232)); have n9_ := Aside0.mk ((by rw [hg]; exact Nat.ne_of_gt (blk_lt (g := g1_1_) (o := .cells #[.slice A1_1_0 l1_1_0.length c1_1_0] 34 (0, 0)) (by (with_reducible repeat (first | refine blk_drewN ?_ _ | refine blk_drew ?_ | refine blk_alloc ?_ _)); exact BK90021.out)) : gb232 ≠ g1_1_)); clear BK90020; clear BK90021; clear HB; have BK90020 := n0_; have BK90021 := n1_; have HB := n2_; have BK232 := n3_; have GW232 := n4_; have GE232 := n5_; have NB90020_232 := n6_; have NB232_90020 := n7_; have NB90021_232 := n8_; have NB232_90021 := n9_; clear n0_ n1_ n2_ n3_ n4_ n5_ n6_ n7_ n8_ n9_; clear hb hbox hg; have hnb8 := NB232_90020.out; have hnc8 := NB90020_232.out; have hnb9 := NB232_90021.out; have hnc9 := NB90021_232.out; have hcz10_0 : w7.cell? ⟨gb232, 0, none⟩ = some (.int .i64 a0_0) := (blk_cell BK232.out 0).trans rfl; have hcz10_1 : w7.cell? ⟨gb232, 1, none⟩ = some (.slice A0_1 l0_1.length c0_1) := (blk_cell BK232.out 1).trans rfl; have hfz10_0 := blk_frozen BK232.out 0; have hfz10_1 := blk_frozen BK232.out 1) | ((with_reducible refine gate_callee (f := 76) rfl ?_); refine goesL_ (some 7) rfl rfl Try.func76 (by kernel_rfl) rfl #[.agg #[.int .i64 a0_0, .slice A0_1 l0_1.length c0_1]] rfl (by (try simp only [List.map_toArray, List.map_cons, List.map_nil]); first | done | rfl | (simp only [List.length_drop, List.length_take]; rfl)) ?_; (with_reducible refine (impl_IsSet.calls a0_0 _ _ l0_1 true _ ?side1 ?side2 A3.out).mono ?_); (case side1 => repeat (first | exact (Kd.C_below HR0_1.out HB.out) | (with_reducible refine Kd.C_alloc ?_ _) | (with_reducible refine Kd.C_drewN ?_ _) | (with_reducible refine Kd.C_drew ?_))); (case side2 => exact HC0_1.out); rintro e w11 ⟨rfl, hb⟩; refine ⟨_, rfl, ?_⟩; have n0_ := Aside0.mk (blk_below (g := g1_0_) (o := .cells #[.int .i64 a1_0_0, .slice A1_0_1 l1_0_1.length c1_0_1] 30 (0, 0)) (by (with_reducible repeat (first | refine blk_drewN ?_ _ | refine blk_drew ?_ | refine blk_alloc ?_ _)); exact BK90020.out) hb); have n1_ := Aside0.mk (blk_below (g := g1_1_) (o := .cells #[.slice A1_1_0 l1_1_0.length c1_1_0] 34 (0, 0)) (by (with_reducible repeat (first | refine blk_drewN ?_ _ | refine blk_drew ?_ | refine blk_alloc ?_ _)); exact BK90021.out) hb); have n2_ := Aside0.mk (blk_below (g := gb232) (o := .cells #[.int .i64 a0_0, .slice A0_1 l0_1.length c0_1] 30 (0, 0)) (by (with_reducible repeat (first | refine blk_drewN ?_ _ | refine blk_drew ?_ | refine blk_alloc ?_ _)); exact BK232.out) hb); have n3_ := Aside0.mk (below_step (by repeat (first | (with_reducible first | exact HB.out | apply below_alloc | apply pw_below_drewN | apply below_drew1 | refine below_set ?_ GE232.out) | exact HB.out)) hb); clear BK90020; clear BK90021; clear BK232; clear HB; have BK90020 := n0_; have BK90021 := n1_; have BK232 := n2_; have HB := n3_; clear n0_ n1_ n2_ n3_; (try clear hb); (try clear hb2); (try clear hk); (try clear hi)))
      (with_reducible refine (impl_CountRowsOver_1.calls k g1_0_ a1_0_0 A1_0_1 c1_0_1 l1_0_1 g1_1_ A1_1_0 c1_1_0 l1_1_0 true _ ?side1_q13 ?side2_q13 ?side3_q13 ?side4_q13 ?side5_q13 ?side6_q13 A5.out).mono ?_); (case side1_q13 => repeat (first | exact (Kd.C_below HR1_0_1.out HB.out) | (with_reducible refine Kd.C_alloc ?_ _) | (with_reducible refine Kd.C_drewN ?_ _) | (with_reducible refine Kd.C_drew ?_))); (case side2_q13 => exact HC1_0_1.out); (case side3_q13 => repeat (first | exact (Kd.C_below HR1_1_0.out HB.out) | (with_reducible refine Kd.C_alloc ?_ _) | (with_reducible refine Kd.C_drewN ?_ _) | (with_reducible refine Kd.C_drew ?_))); (case side4_q13 => exact HC1_1_0.out); (case side5_q13 => exact (by (with_reducible repeat (first | refine blk_drewN ?_ _ | refine blk_drew ?_ | refine blk_alloc ?_ _)); exact BK90020.out)); (case side6_q13 => exact (by (with_reducible repeat (first | refine blk_drewN ?_ _ | refine blk_drew ?_ | refine blk_alloc ?_ _)); exact BK90021.out))
      rintro e w12 ⟨rfl, hb⟩
      have n0_ := Aside0.mk (blk_below (g := g1_0_) (o := .cells #[.int .i64 a1_0_0, .slice A1_0_1 l1_0_1.length c1_0_1] 30 (0, 0)) (by (with_reducible repeat (first | refine blk_drewN ?_ _ | refine blk_drew ?_ | refine blk_alloc ?_ _)); exact BK90020.out) hb)
      have n1_ := Aside0.mk (blk_below (g := g1_1_) (o := .cells #[.slice A1_1_0 l1_1_0.length c1_1_0] 34 (0, 0)) (by (with_reducible repeat (first | refine blk_drewN ?_ _ | refine blk_drew ?_ | refine blk_alloc ?_ _)); exact BK90021.out) hb)
      have n2_ := Aside0.mk (blk_below (g := gb232) (o := .cells #[.int .i64 a0_0, .slice A0_1 l0_1.length c0_1] 30 (0, 0)) (by (with_reducible repeat (first | refine blk_drewN ?_ _ | refine blk_drew ?_ | refine blk_alloc ?_ _)); exact BK232.out) hb)
      have n3_ := Aside0.mk (below_step (by repeat (first | (with_reducible first | exact HB.out | apply below_alloc | apply pw_below_drewN | apply below_drew1 | refine below_set ?_ GE232.out) | exact HB.out)) hb)
      clear BK90020
      clear BK90021
      clear BK232
      clear HB
      have BK90020 := n0_
      have BK90021 := n1_
      have BK232 := n2_
      have HB := n3_
      clear n0_ n1_ n2_ n3_
      (try clear hb)
      (try clear hb2)
      (try clear hk)
      (try clear hi)
      go_wp2_with fail
      go_ret
      exact ⟨by first | rfl | (simp [errW_none, errW_some] <;> rfl) | (simp [*, errW_none, errW_some] <;> rfl), by repeat (first | (with_reducible first | exact HB.out | apply below_alloc | apply pw_below_drewN | apply below_drew1 | refine below_set ?_ GE232.out) | exact HB.out)⟩
    · replace c6 := Bool.eq_false_iff.mpr c6
      subst c6
      have H1 : (some 2) = some r := by rw [if_neg (show ¬ (false = true) by decide)] at H; exact H
      clear H
      have H := H1
      clear H1
      obtain rfl := Option.some.inj H
      go_enter Try.func54, Try.ntmps54
      go_wp2_with (first | ((with_reducible refine gate_dst (N := 2) rfl ?_); refine box_event ?hg (N := 2) ?hd (cs := #[.int .i64 a0_0, .slice A0_1 l0_1.length c0_1]) (t := 30) ?hr ?_; (case hd => rfl); (case hg => rfl); (case hr => first | (go_simp; done) | (go_simp; rfl)); intro gb232 hg w14 hbox hb; have n0_ := Aside0.mk (blk_below (g := g1_0_) (o := .cells #[.int .i64 a1_0_0, .slice A1_0_1 l1_0_1.length c1_0_1] 30 (0, 0)) (by (with_reducible repeat (first | refine blk_drewN ?_ _ | refine blk_drew ?_ | refine blk_alloc ?_ _)); exact BK90020.out) hb); have n1_ := Aside0.mk (blk_below (g := g1_1_) (o := .cells #[.slice A1_1_0 l1_1_0.length c1_1_0] 34 (0, 0)) (by (with_reducible repeat (first | refine blk_drewN ?_ _ | refine blk_drew ?_ | refine blk_alloc ?_ _)); exact BK90021.out) hb); have n2_ := Aside0.mk (below_step (by repeat (first | (with_reducible first | exact HB.out | apply below_alloc | apply pw_below_drewN | apply below_drew1) | exact HB.out)) hb); have n3_ := Aside0.mk (hbox); have n4_ := Aside0.mk ((by rw [hg]; exact (below_size (by repeat (first | (with_reducible first | exact HB.out | apply below_alloc | apply pw_below_drewN | apply below_drew1) | exact HB.out))) : w.heap.size ≤ gb232)); have n5_ := Aside0.mk ((by rw [hg]; exact (below_size (by repeat (first | (with_reducible first | exact HB.out | apply below_alloc | apply pw_below_drewN | apply below_drew1) | exact HB.out))) : w.heap.size ≤ gb232)); have n6_ := Aside0.mk ((by rw [hg]; exact Nat.ne_of_lt (blk_lt (g := g1_0_) (o := .cells #[.int .i64 a1_0_0, .slice A1_0_1 l1_0_1.length c1_0_1] 30 (0, 0)) (by (with_reducible repeat (first | refine blk_drewN ?_ _ | refine blk_drew ?_ | refine blk_alloc ?_ _)); exact BK90020.out)) : g1_0_ ≠ gb232)); have n7_ := Aside0.mk ((by rw [hg]; exact Nat.ne_of_gt (blk_lt (g := g1_0_) (o := .cells #[.int .i64 a1_0_0, .slice A1_0_1 l1_0_1.length c1_0_1] 30 (0, 0)) (by (with_reducible repeat (first | refine blk_drewN ?_ _ | refine blk_drew ?_ | refine blk_alloc ?_ _)); exact BK90020.out)) : gb232 ≠ g1_0_)); have n8_ := Aside0.mk ((by rw [hg]; exact Nat.ne_of_lt (blk_lt (g := g1_1_) (o := .cells #[.slice A1_1_0 l1_1_0.length c1_1_0] 34 (0, 0)) (by (with_reducible repeat (first | refine blk_drewN ?_ _ | refine blk_drew ?_ | refine blk_alloc ?_ _)); exact BK90021.out)) : g1_1_ ≠ gb232)); have n9_ := Aside0.mk ((by rw [hg]; exact Nat.ne_of_gt (blk_lt (g := g1_1_) (o := .cells #[.slice A1_1_0 l1_1_0.length c1_1_0] 34 (0, 0)) (by (with_reducible repeat (first | refine blk_drewN ?_ _ | refine blk_drew ?_ | refine blk_alloc ?_ _)); exact BK90021.out)) : gb232 ≠ g1_1_)); clear BK90020; clear BK90021; clear HB; have BK90020 := n0_; have BK90021 := n1_; have HB := n2_; have BK232 := n3_; have GW232 := n4_; have GE232 := n5_; have NB90020_232 := n6_; have NB232_90020 := n7_; have NB90021_232 := n8_; have NB232_90021 := n9_; clear n0_ n1_ n2_ n3_ n4_ n5_ n6_ n7_ n8_ n9_; clear hb hbox hg; have hnb15 := NB232_90020.out; have hnc15 := NB90020_232.out; have hnb16 := NB232_90021.out; have hnc16 := NB90021_232.out; have hcz17_0 : w14.cell? ⟨gb232, 0, none⟩ = some (.int .i64 a0_0) := (blk_cell BK232.out 0).trans rfl; have hcz17_1 : w14.cell? ⟨gb232, 1, none⟩ = some (.slice A0_1 l0_1.length c0_1) := (blk_cell BK232.out 1).trans rfl; have hfz17_0 := blk_frozen BK232.out 0; have hfz17_1 := blk_frozen BK232.out 1) | ((with_reducible refine gate_callee (f := 76) rfl ?_); refine goesL_ (some 7) rfl rfl Try.func76 (by kernel_rfl) rfl #[.agg #[.int .i64 a0_0, .slice A0_1 l0_1.length c0_1]] rfl (by (try simp only [List.map_toArray, List.map_cons, List.map_nil]); first | done | rfl | (simp only [List.length_drop, List.length_take]; rfl)) ?_; (with_reducible refine (impl_IsSet.calls a0_0 _ _ l0_1 true _ ?side1 ?side2 A3.out).mono ?_); (case side1 => repeat (first | exact (Kd.C_below HR0_1.out HB.out) | (with_reducible refine Kd.C_alloc ?_ _) | (with_reducible refine Kd.C_drewN ?_ _) | (with_reducible refine Kd.C_drew ?_))); (case side2 => exact HC0_1.out); rintro e w18 ⟨rfl, hb⟩; refine ⟨_, rfl, ?_⟩; have n0_ := Aside0.mk (blk_below (g := g1_0_) (o := .cells #[.int .i64 a1_0_0, .slice A1_0_1 l1_0_1.length c1_0_1] 30 (0, 0)) (by (with_reducible repeat (first | refine blk_drewN ?_ _ | refine blk_drew ?_ | refine blk_alloc ?_ _)); exact BK90020.out) hb); have n1_ := Aside0.mk (blk_below (g := g1_1_) (o := .cells #[.slice A1_1_0 l1_1_0.length c1_1_0] 34 (0, 0)) (by (with_reducible repeat (first | refine blk_drewN ?_ _ | refine blk_drew ?_ | refine blk_alloc ?_ _)); exact BK90021.out) hb); have n2_ := Aside0.mk (blk_below (g := gb232) (o := .cells #[.int .i64 a0_0, .slice A0_1 l0_1.length c0_1] 30 (0, 0)) (by (with_reducible repeat (first | refine blk_drewN ?_ _ | refine blk_drew ?_ | refine blk_alloc ?_ _)); exact BK232.out) hb); have n3_ := Aside0.mk (below_step (by repeat (first | (with_reducible first | exact HB.out | apply below_alloc | apply pw_below_drewN | apply below_drew1 | refine below_set ?_ GE232.out) | exact HB.out)) hb); clear BK90020; clear BK90021; clear BK232; clear HB; have BK90020 := n0_; have BK90021 := n1_; have BK232 := n2_; have HB := n3_; clear n0_ n1_ n2_ n3_; (try clear hb); (try clear hb2); (try clear hk); (try clear hi)))
      (with_reducible refine (impl_CountRowsOver_1.calls k g1_0_ a1_0_0 A1_0_1 c1_0_1 l1_0_1 g1_1_ A1_1_0 c1_1_0 l1_1_0 false _ ?side1_q20 ?side2_q20 ?side3_q20 ?side4_q20 ?side5_q20 ?side6_q20 A5.out).mono ?_); (case side1_q20 => repeat (first | exact (Kd.C_below HR1_0_1.out HB.out) | (with_reducible refine Kd.C_alloc ?_ _) | (with_reducible refine Kd.C_drewN ?_ _) | (with_reducible refine Kd.C_drew ?_))); (case side2_q20 => exact HC1_0_1.out); (case side3_q20 => repeat (first | exact (Kd.C_below HR1_1_0.out HB.out) | (with_reducible refine Kd.C_alloc ?_ _) | (with_reducible refine Kd.C_drewN ?_ _) | (with_reducible refine Kd.C_drew ?_))); (case side4_q20 => exact HC1_1_0.out); (case side5_q20 => exact (by (with_reducible repeat (first | refine blk_drewN ?_ _ | refine blk_drew ?_ | refine blk_alloc ?_ _)); exact BK90020.out)); (case side6_q20 => exact (by (with_reducible repeat (first | refine blk_drewN ?_ _ | refine blk_drew ?_ | refine blk_alloc ?_ _)); exact BK90021.out))
      rintro e w19 ⟨rfl, hb⟩
      have n0_ := Aside0.mk (blk_below (g := g1_0_) (o := .cells #[.int .i64 a1_0_0, .slice A1_0_1 l1_0_1.length c1_0_1] 30 (0, 0)) (by (with_reducible repeat (first | refine blk_drewN ?_ _ | refine blk_drew ?_ | refine blk_alloc ?_ _)); exact BK90020.out) hb)
      have n1_ := Aside0.mk (blk_below (g := g1_1_) (o := .cells #[.slice A1_1_0 l1_1_0.length c1_1_0] 34 (0, 0)) (by (with_reducible repeat (first | refine blk_drewN ?_ _ | refine blk_drew ?_ | refine blk_alloc ?_ _)); exact BK90021.out) hb)
      have n2_ := Aside0.mk (blk_below (g := gb232) (o := .cells #[.int .i64 a0_0, .slice A0_1 l0_1.length c0_1] 30 (0, 0)) (by (with_reducible repeat (first | refine blk_drewN ?_ _ | refine blk_drew ?_ | refine blk_alloc ?_ _)); exact BK232.out) hb)
      have n3_ := Aside0.mk (below_step (by repeat (first | (with_reducible first | exact HB.out | apply below_alloc | apply pw_below_drewN | apply below_drew1 | refine below_set ?_ GE232.out) | exact HB.out)) hb)
      clear BK90020
      clear BK90021
      clear BK232
      clear HB
      have BK90020 := n0_
      have BK90021 := n1_
      have BK232 := n2_
      have HB := n3_
      clear n0_ n1_ n2_ n3_
      (try clear hb)
      (try clear hb2)
      (try clear hk)
      (try clear hi)
      go_wp2_with fail
      go_ret
      exact ⟨by first | rfl | (simp [errW_none, errW_some] <;> rfl) | (simp [*, errW_none, errW_some] <;> rfl), by repeat (first | (with_reducible first | exact HB.out | apply below_alloc | apply pw_below_drewN | apply below_drew1 | refine below_set ?_ GE232.out) | exact HB.out)⟩
  · replace c4 := Bool.eq_false_iff.mpr c4
    subst c4
    have H1 : (some 1) = some r := by rw [if_neg (show ¬ (false = true) by decide)] at H; exact H
    clear H
    have H := H1
    clear H1
    obtain rfl := Option.some.inj H
    go_enter Try.func54, Try.ntmps54
    go_wp2_with (first | ((with_reducible refine gate_dst (N := 2) rfl ?_); refine box_event ?hg (N := 2) ?hd (cs := #[.int .i64 a0_0, .slice A0_1 l0_1.length c0_1]) (t := 30) ?hr ?_; (case hd => rfl); (case hg => rfl); (case hr => first | (go_simp; done) | (go_simp; rfl)); intro gb232 hg w21 hbox hb; have n0_ := Aside0.mk (blk_below (g := g1_0_) (o := .cells #[.int .i64 a1_0_0, .slice A1_0_1 l1_0_1.length c1_0_1] 30 (0, 0)) (by (with_reducible repeat (first | refine blk_drewN ?_ _ | refine blk_drew ?_ | refine blk_alloc ?_ _)); exact BK90020.out) hb); have n1_ := Aside0.mk (blk_below (g := g1_1_) (o := .cells #[.slice A1_1_0 l1_1_0.length c1_1_0] 34 (0, 0)) (by (with_reducible repeat (first | refine blk_drewN ?_ _ | refine blk_drew ?_ | refine blk_alloc ?_ _)); exact BK90021.out) hb); have n2_ := Aside0.mk (below_step (by repeat (first | (with_reducible first | exact HB.out | apply below_alloc | apply pw_below_drewN | apply below_drew1) | exact HB.out)) hb); have n3_ := Aside0.mk (hbox); have n4_ := Aside0.mk ((by rw [hg]; exact (below_size (by repeat (first | (with_reducible first | exact HB.out | apply below_alloc | apply pw_below_drewN | apply below_drew1) | exact HB.out))) : w.heap.size ≤ gb232)); have n5_ := Aside0.mk ((by rw [hg]; exact (below_size (by repeat (first | (with_reducible first | exact HB.out | apply below_alloc | apply pw_below_drewN | apply below_drew1) | exact HB.out))) : w.heap.size ≤ gb232)); have n6_ := Aside0.mk ((by rw [hg]; exact Nat.ne_of_lt (blk_lt (g := g1_0_) (o := .cells #[.int .i64 a1_0_0, .slice A1_0_1 l1_0_1.length c1_0_1] 30 (0, 0)) (by (with_reducible repeat (first | refine blk_drewN ?_ _ | refine blk_drew ?_ | refine blk_alloc ?_ _)); exact BK90020.out)) : g1_0_ ≠ gb232)); have n7_ := Aside0.mk ((by rw [hg]; exact Nat.ne_of_gt (blk_lt (g := g1_0_) (o := .cells #[.int .i64 a1_0_0, .slice A1_0_1 l1_0_1.length c1_0_1] 30 (0, 0)) (by (with_reducible repeat (first | refine blk_drewN ?_ _ | refine blk_drew ?_ | refine blk_alloc ?_ _)); exact BK90020.out)) : gb232 ≠ g1_0_)); have n8_ := Aside0.mk ((by rw [hg]; exact Nat.ne_of_lt (blk_lt (g := g1_1_) (o := .cells #[.slice A1_1_0 l1_1_0.length c1_1_0] 34 (0, 0)) (by (with_reducible repeat (first | refine blk_drewN ?_ _ | refine blk_drew ?_ | refine blk_alloc ?_ _)); exact BK90021.out)) : g1_1_ ≠ gb232)); have n9_ := Aside0.mk ((by rw [hg]; exact Nat.ne_of_gt (blk_lt (g := g1_1_) (o := .cells #[.slice A1_1_0 l1_1_0.length c1_1_0] 34 (0, 0)) (by (with_reducible repeat (first | refine blk_drewN ?_ _ | refine blk_drew ?_ | refine blk_alloc ?_ _)); exact BK90021.out)) : gb232 ≠ g1_1_)); clear BK90020; clear BK90021; clear HB; have BK90020 := n0_; have BK90021 := n1_; have HB := n2_; have BK232 := n3_; have GW232 := n4_; have GE232 := n5_; have NB90020_232 := n6_; have NB232_90020 := n7_; have NB90021_232 := n8_; have NB232_90021 := n9_; clear n0_ n1_ n2_ n3_ n4_ n5_ n6_ n7_ n8_ n9_; clear hb hbox hg; have hnb22 := NB232_90020.out; have hnc22 := NB90020_232.out; have hnb23 := NB232_90021.out; have hnc23 := NB90021_232.out; have hcz24_0 : w21.cell? ⟨gb232, 0, none⟩ = some (.int .i64 a0_0) := (blk_cell BK232.out 0).trans rfl; have hcz24_1 : w21.cell? ⟨gb232, 1, none⟩ = some (.slice A0_1 l0_1.length c0_1) := (blk_cell BK232.out 1).trans rfl; have hfz24_0 := blk_frozen BK232.out 0; have hfz24_1 := blk_frozen BK232.out 1) | ((with_reducible refine gate_callee (f := 76) rfl ?_); refine goesL_ (some 7) rfl rfl Try.func76 (by kernel_rfl) rfl #[.agg #[.int .i64 a0_0, .slice A0_1 l0_1.length c0_1]] rfl (by (try simp only [List.map_toArray, List.map_cons, List.map_nil]); first | done | rfl | (simp only [List.length_drop, List.length_take]; rfl)) ?_; (with_reducible refine (impl_IsSet.calls a0_0 _ _ l0_1 false _ ?side1 ?side2 A3.out).mono ?_); (case side1 => repeat (first | exact (Kd.C_below HR0_1.out HB.out) | (with_reducible refine Kd.C_alloc ?_ _) | (with_reducible refine Kd.C_drewN ?_ _) | (with_reducible refine Kd.C_drew ?_))); (case side2 => exact HC0_1.out); rintro e w25 ⟨rfl, hb⟩; refine ⟨_, rfl, ?_⟩; have n0_ := Aside0.mk (blk_below (g := g1_0_) (o := .cells #[.int .i64 a1_0_0, .slice A1_0_1 l1_0_1.length c1_0_1] 30 (0, 0)) (by (with_reducible repeat (first | refine blk_drewN ?_ _ | refine blk_drew ?_ | refine blk_alloc ?_ _)); exact BK90020.out) hb); have n1_ := Aside0.mk (blk_below (g := g1_1_) (o := .cells #[.slice A1_1_0 l1_1_0.length c1_1_0] 34 (0, 0)) (by (with_reducible repeat (first | refine blk_drewN ?_ _ | refine blk_drew ?_ | refine blk_alloc ?_ _)); exact BK90021.out) hb); have n2_ := Aside0.mk (blk_below (g := gb232) (o := .cells #[.int .i64 a0_0, .slice A0_1 l0_1.length c0_1] 30 (0, 0)) (by (with_reducible repeat (first | refine blk_drewN ?_ _ | refine blk_drew ?_ | refine blk_alloc ?_ _)); exact BK232.out) hb); have n3_ := Aside0.mk (below_step (by repeat (first | (with_reducible first | exact HB.out | apply below_alloc | apply pw_below_drewN | apply below_drew1 | refine below_set ?_ GE232.out) | exact HB.out)) hb); clear BK90020; clear BK90021; clear BK232; clear HB; have BK90020 := n0_; have BK90021 := n1_; have BK232 := n2_; have HB := n3_; clear n0_ n1_ n2_ n3_; (try clear hb); (try clear hb2); (try clear hk); (try clear hi)))
    go_ret
    exact ⟨by first | rfl | (simp [errW_none, errW_some] <;> rfl) | (simp [*, errW_none, errW_some] <;> rfl), by repeat (first | (with_reducible first | exact HB.out | apply below_alloc | apply pw_below_drewN | apply below_drew1 | refine below_set ?_ GE232.out) | exact HB.out)⟩

end Go.Proofs.Ytenlcakpcbmmdaa.Q

-- Printed by a program of this session (the kit's print, turned: printpatch.py) out of Lean's print of the translation. Lean checks it.
namespace Go.Proofs.Ytenlcakpcbmmdaa.Q
open Go.RowKit Go.Proofs.YtenlcakpcbmmdaaW.PrintWords Go.Proofs.YtenlcakpcbmmdaaW.PrintLast Go.Proofs.YtenlcakpcbmmdaaW.PrintMore
attribute [local go_sem] max2_int min2_int max_two min_two max_three min_three max_four min_four   -- for this text's walks alone
set_option linter.unusedVariables false
set_option linter.unusedSimpArgs false

/-! ### impl_CountRowsOver: function 21 -/
def impl_CountRowsOver.l0 : Nat → Int → List Int → Int → Int → Option (Int × Int)
  | 0, _, _, _, _ => none
  | k + 1, x7, x20, x21, x22 => if x22 < x21 then (if 0 ≤ x22 then (if x22 < (x20.length : Int) then (impl_CountRowsOver.l0 k (wrap64 (x7 + (rd x20 x22))) x20 x21 (wrap64 (x22 + 1))) else (none)) else (none)) else ((impl_counted.f x7).bind fun bt257 => (some (bt257.1, bt257.2)))
def impl_CountRowsOver.f (k : Nat) (a0_0 : Int) (l0_1 : List (S77)) (l1 : List Int) : Option (Int × Int) := (impl_setCode_at_impl_CountRowsOver_1.f k a0_0 l0_1 a0_0 l0_1 l1).bind fun t251 => (if t251 = 0 then ((impl_Set_left_at_impl_anyColour.f k a0_0 l0_1 l1).bind fun t252 => (if 0 < (t252.length : Int) then (impl_CountRowsOver.l0 k 0 (rd_L5 t252 0) ((rd_L5 t252 0).length : Int) 0) else (none))) else (some (0, t251)))
theorem impl_CountRowsOver.mono_l : ∀ k, (∀ y0 y1 y2 y3, LeO (impl_CountRowsOver.l0 k y0 y1 y2 y3) (impl_CountRowsOver.l0 (k + 1) y0 y1 y2 y3))
  | 0 => fun _ _ _ _ r h => by simp [impl_CountRowsOver.l0] at h
  | k + 1 => by
    have ih0 := impl_CountRowsOver.mono_l k
    · intro y0 y1 y2 y3
      unfold impl_CountRowsOver.l0
      repeat' first
      | (with_reducible exact ih0 _ _ _ _)
      | (with_reducible exact impl_Set_left_at_impl_anyColour.mono _ _ _ _)
      | (with_reducible exact impl_setCode_at_impl_CountRowsOver_1.mono _ _ _ _ _ _)
      | (with_reducible exact LeO.refl _)
      | (with_reducible exact LeO.none _)
      | (with_reducible refine LeO.ite ?_ ?_)
      | (with_reducible refine LeO.bind ?_ (fun _ => ?_))
      | exact ih0 _ _ _ _
      | exact impl_Set_left_at_impl_anyColour.mono _ _ _ _
      | exact impl_setCode_at_impl_CountRowsOver_1.mono _ _ _ _ _ _
      | exact LeO.none _
      | refine LeO.ite ?_ ?_
      | refine LeO.bind ?_ (fun _ => ?_)
theorem impl_CountRowsOver.mono : ∀ a0 a1 a2 k, LeO (impl_CountRowsOver.f k a0 a1 a2) (impl_CountRowsOver.f (k + 1) a0 a1 a2) := by
  intro a0 a1 a2 k
  have ih0 := impl_CountRowsOver.mono_l k
  unfold impl_CountRowsOver.f
  repeat' first
      | (with_reducible exact ih0 _ _ _ _)
      | (with_reducible exact impl_Set_left_at_impl_anyColour.mono _ _ _ _)
      | (with_reducible exact impl_setCode_at_impl_CountRowsOver_1.mono _ _ _ _ _ _)
      | (with_reducible exact LeO.refl _)
      | (with_reducible exact LeO.none _)
      | (with_reducible refine LeO.ite ?_ ?_)
      | (with_reducible refine LeO.bind ?_ (fun _ => ?_))
      | exact ih0 _ _ _ _
      | exact impl_Set_left_at_impl_anyColour.mono _ _ _ _
      | exact impl_setCode_at_impl_CountRowsOver_1.mono _ _ _ _ _ _
      | exact LeO.none _
      | refine LeO.ite ?_ ?_
      | refine LeO.bind ?_ (fun _ => ?_)
set_option maxHeartbeats 8000000 in
set_option maxRecDepth 100000 in
theorem impl_CountRowsOver.calls (k : Nat) (a0_0 : Int) (A0_1 : Option Addr) (c0_1 : Nat) (l0_1 : List (S77)) (A1 : Option Addr) (c1 : Nat) (l1 : List Int) (r1 : Int) (r2 : Int) (w : World) (hr0_1 : Kd.C k77 w A0_1 l0_1.length l0_1) (hc0_1 : l0_1.length ≤ c0_1) (hr1 : Kd.C (Kd.int .i64) w A1 l1.length l1) (hc1 : l1.length ≤ c1) (h : impl_CountRowsOver.f k a0_0 l0_1 l1 = some (r1, r2)) :
    Calls Try.prog 21 #[.agg #[.int .i64 a0_0, .slice A0_1 l0_1.length c0_1], .slice A1 l1.length c1] w fun e w' => e = .returned (.tuple #[.int .i64 r1, .int .i64 r2]) ∧ Below w.heap.size w w' := by
  have hu30 := Try.underlying30
  have HR0_1 := Aside0.mk hr0_1
  have HC0_1 := Aside0.mk hc0_1
  clear hr0_1 hc0_1
  have HR1 := Aside0.mk hr1
  have HC1 := Aside0.mk hc1
  clear hr1 hc1
  have HB := Aside0.mk (Below.refl w.heap.size w)
  have H : ((impl_setCode_at_impl_CountRowsOver_1.f k a0_0 l0_1 a0_0 l0_1 l1).bind fun t251 => (if t251 = 0 then ((impl_Set_left_at_impl_anyColour.f k a0_0 l0_1 l1).bind fun t252 => (if 0 < (t252.length : Int) then (impl_CountRowsOver.l0 k 0 (rd_L5 t252 0) ((rd_L5 t252 0).length : Int) 0) else (none))) else (some (0, t251)))) = some (r1, r2) := h
  clear h
  replace H := Option.bind_eq_some_iff.mp H
  obtain ⟨t251, A30, H⟩ := H
  replace H : (if t251 = 0 then ((impl_Set_left_at_impl_anyColour.f k a0_0 l0_1 l1).bind fun t252 => (if 0 < (t252.length : Int) then (impl_CountRowsOver.l0 k 0 (rd_L5 t252 0) ((rd_L5 t252 0).length : Int) 0) else (none))) else (some (0, t251))) = some (r1, r2) := H
  have A3 := Aside0.mk A30
  clear A30
  by_cases c4 : t251 = 0
  · rw [if_pos c4] at H
    have c4b0 : (t251 == 0) = true := beq_iff_eq.mpr c4
    have c4b1 : (t251 != 0) = false := bne_eq_false_iff_eq.mpr c4
    clear c4
    replace H := Option.bind_eq_some_iff.mp H
    obtain ⟨t252, A50, H⟩ := H
    replace H : (if 0 < (t252.length : Int) then (impl_CountRowsOver.l0 k 0 (rd_L5 t252 0) ((rd_L5 t252 0).length : Int) 0) else (none)) = some (r1, r2) := H
    have A5 := Aside0.mk A50
    clear A50
    by_cases c6 : 0 < (t252.length : Int)
    · rw [if_pos c6] at H
      have c6b0 : decide (0 < (t252.length : Int)) = true := decide_eq_true c6
      have c6b1 : decide (0 < t252.length) = true := decide_eq_true (by omega)
      clear c6
      have H' := Aside0.mk H
      clear H
      go_enter Try.func21, Try.ntmps21
      go_wp2_with (first | ((with_reducible refine gate_dst (N := 2) rfl ?_); refine box_event ?hg (N := 2) ?hd (cs := #[.int .i64 a0_0, .slice A0_1 l0_1.length c0_1]) (t := 30) ?hr ?_; (case hd => rfl); (case hg => rfl); (case hr => first | (go_simp; done) | (go_simp; rfl)); intro gb249 hg w7 hbox hb; have n0_ := Aside0.mk (below_step (by repeat (first | (with_reducible first | exact HB.out | apply below_alloc | apply pw_below_drewN | apply below_drew1) | exact HB.out)) hb); have n1_ := Aside0.mk (hbox); have n2_ := Aside0.mk ((by rw [hg]; exact (below_size (by repeat (first | (with_reducible first | exact HB.out | apply below_alloc | apply pw_below_drewN | apply below_drew1) | exact HB.out))) : w.heap.size ≤ gb249)); have n3_ := Aside0.mk ((by rw [hg]; exact (below_size (by repeat (first | (with_reducible first | exact HB.out | apply below_alloc | apply pw_below_drewN | apply below_drew1) | exact HB.out))) : w.heap.size ≤ gb249)); clear HB; have HB := n0_; have BK249 := n1_; have GW249 := n2_; have GE249 := n3_; clear n0_ n1_ n2_ n3_; clear hb hbox hg) | ((with_reducible refine gate_dst (N := 3) rfl ?_); refine box_event ?hg (N := 3) ?hd (cs := #[.slice A1 l1.length c1]) (t := 34) ?hr ?_; (case hd => rfl); (case hg => rfl); (case hr => first | (go_simp; done) | (go_simp; rfl)); intro gb250 hg w8 hbox hb; have n0_ := Aside0.mk (blk_below (g := gb249) (o := .cells #[.int .i64 a0_0, .slice A0_1 l0_1.length c0_1] 30 (0, 0)) (by (with_reducible repeat (first | refine blk_drewN ?_ _ | refine blk_drew ?_ | refine blk_alloc ?_ _)); exact BK249.out) hb); have n1_ := Aside0.mk (below_step (by repeat (first | (with_reducible first | exact HB.out | apply below_alloc | apply pw_below_drewN | apply below_drew1 | refine below_set ?_ GE249.out) | exact HB.out)) hb); have n2_ := Aside0.mk (hbox); have n3_ := Aside0.mk ((by rw [hg]; exact (below_size (by repeat (first | (with_reducible first | exact HB.out | apply below_alloc | apply pw_below_drewN | apply below_drew1 | refine below_set ?_ GE249.out) | exact HB.out))) : w.heap.size ≤ gb250)); have n4_ := Aside0.mk ((by rw [hg]; exact (below_size (by repeat (first | (with_reducible first | exact HB.out | apply below_alloc | apply pw_below_drewN | apply below_drew1 | refine below_set ?_ GE249.out) | exact HB.out))) : w.heap.size ≤ gb250)); have n5_ := Aside0.mk ((by rw [hg]; exact Nat.ne_of_lt (blk_lt (g := gb249) (o := .cells #[.int .i64 a0_0, .slice A0_1 l0_1.length c0_1] 30 (0, 0)) (by (with_reducible repeat (first | refine blk_drewN ?_ _ | refine blk_drew ?_ | refine blk_alloc ?_ _)); exact BK249.out)) : gb249 ≠ gb250)); have n6_ := Aside0.mk ((by rw [hg]; exact Nat.ne_of_gt (blk_lt (g := gb249) (o := .cells #[.int .i64 a0_0, .slice A0_1 l0_1.length c0_1] 30 (0, 0)) (by (with_reducible repeat (first | refine blk_drewN ?_ _ | refine blk_drew ?_ | refine blk_alloc ?_ _)); exact BK249.out)) : gb250 ≠ gb249)); clear BK249; clear HB; have BK249 := n0_; have HB := n1_; have BK250 := n2_; have GW250 := n3_; have GE250 := n4_; have NB249_250 := n5_; have NB250_249 := n6_; clear n0_ n1_ n2_ n3_ n4_ n5_ n6_; clear hb hbox hg; have hnb9 := NB249_250.out; have hnc9 := NB250_249.out; have hcz10_0 : w8.cell? ⟨gb249, 0, none⟩ = some (.int .i64 a0_0) := (blk_cell BK249.out 0).trans rfl; have hcz10_1 : w8.cell? ⟨gb249, 1, none⟩ = some (.slice A0_1 l0_1.length c0_1) := (blk_cell BK249.out 1).trans rfl; have hfz10_0 := blk_frozen BK249.out 0; have hfz10_1 := blk_frozen BK249.out 1) | ((with_reducible refine gate_callee (f := 54) rfl ?_); refine goesL_ (some 12) rfl rfl Try.func54 (by kernel_rfl) rfl #[.agg #[.int .i64 a0_0, .slice A0_1 l0_1.length c0_1], .func (.func 64) #[] #[.pointer (some ⟨gb249, 0, none⟩), .pointer (some ⟨gb250, 0, none⟩)]] rfl (by (try simp only [List.map_toArray, List.map_cons, List.map_nil]); first | done | rfl | (simp only [List.length_drop, List.length_take]; rfl)) ?_; (with_reducible refine (impl_setCode_at_impl_CountRowsOver_1.calls k a0_0 _ _ l0_1 gb249 a0_0 A0_1 c0_1 l0_1 gb250 A1 c1 l1 t251 _ ?side1 ?side2 ?side3 ?side4 ?side5 ?side6 ?side7 ?side8 A3.out).mono ?_); (case side1 => repeat (first | exact (Kd.C_below HR0_1.out HB.out) | (with_reducible refine Kd.C_alloc ?_ _) | (with_reducible refine Kd.C_drewN ?_ _) | (with_reducible refine Kd.C_drew ?_))); (case side2 => exact HC0_1.out); (case side3 => repeat (first | exact (Kd.C_below HR0_1.out HB.out) | (with_reducible refine Kd.C_alloc ?_ _) | (with_reducible refine Kd.C_drewN ?_ _) | (with_reducible refine Kd.C_drew ?_))); (case side4 => exact HC0_1.out); (case side5 => repeat (first | exact (Kd.C_below HR1.out HB.out) | (with_reducible refine Kd.C_alloc ?_ _) | (with_reducible refine Kd.C_drewN ?_ _) | (with_reducible refine Kd.C_drew ?_))); (case side6 => exact HC1.out); (case side7 => exact (by (with_reducible repeat (first | refine blk_drewN ?_ _ | refine blk_drew ?_ | refine blk_alloc ?_ _)); exact BK249.out)); (case side8 => exact (by (with_reducible repeat (first | refine blk_drewN ?_ _ | refine blk_drew ?_ | refine blk_alloc ?_ _)); exact BK250.out)); rintro e w11 ⟨rfl, hb⟩; refine ⟨_, rfl, ?_⟩; have n0_ := Aside0.mk (blk_below (g := gb249) (o := .cells #[.int .i64 a0_0, .slice A0_1 l0_1.length c0_1] 30 (0, 0)) (by (with_reducible repeat (first | refine blk_drewN ?_ _ | refine blk_drew ?_ | refine blk_alloc ?_ _)); exact BK249.out) hb); have n1_ := Aside0.mk (blk_below (g := gb250) (o := .cells #[.slice A1 l1.length c1] 34 (0, 0)) (by (with_reducible repeat (first | refine blk_drewN ?_ _ | refine blk_drew ?_ | refine blk_alloc ?_ _)); exact BK250.out) hb); have n2_ := Aside0.mk (below_step (by repeat (first | (with_reducible first | exact HB.out | apply below_alloc | apply pw_below_drewN | apply below_drew1 | refine below_set ?_ GE249.out | refine below_set ?_ GE250.out) | exact HB.out)) hb); clear BK249; clear BK250; clear HB; have BK249 := n0_; have BK250 := n1_; have HB := n2_; clear n0_ n1_ n2_; (try clear hb); (try clear hb2); (try clear hk); (try clear hi); have hcz12_0 : w11.cell? ⟨gb249, 0, none⟩ = some (.int .i64 a0_0) := (blk_cell BK249.out 0).trans rfl; have hcz12_1 : w11.cell? ⟨gb249, 1, none⟩ = some (.slice A0_1 l0_1.length c0_1) := (blk_cell BK249.out 1).trans rfl; have hfz12_0 := blk_frozen BK249.out 0; have hfz12_1 := blk_frozen BK249.out 1; have hcz13_0 : w11.cell? ⟨gb250, 0, none⟩ = some (.slice A1 l1.length c1) := (blk_cell BK250.out 0).trans rfl; have hfz13_0 := blk_frozen BK250.out 0) | ((with_reducible refine gate_callee (f := 66) rfl ?_); refine goesL_ (some 18) rfl rfl Try.func66 (by kernel_rfl) rfl #[.agg #[.int .i64 a0_0, .slice A0_1 l0_1.length c0_1], .slice A1 l1.length c1, .func (.func 67) #[] #[]] rfl (by (try simp only [List.map_toArray, List.map_cons, List.map_nil]); first | done | rfl | (simp only [List.length_drop, List.length_take]; rfl)) ?_; (with_reducible refine (impl_Set_left_at_impl_anyColour.calls k a0_0 _ _ l0_1 _ _ l1  t252 _ ?side1 ?side2 ?side3 ?side4 A5.out).mono ?_); (case side1 => repeat (first | exact (Kd.C_below HR0_1.out HB.out) | (with_reducible refine Kd.C_alloc ?_ _) | (with_reducible refine Kd.C_drewN ?_ _) | (with_reducible refine Kd.C_drew ?_))); (case side2 => exact HC0_1.out); (case side3 => repeat (first | exact (Kd.C_below HR1.out HB.out) | (with_reducible refine Kd.C_alloc ?_ _) | (with_reducible refine Kd.C_drewN ?_ _) | (with_reducible refine Kd.C_drew ?_))); (case side4 => exact HC1.out); rintro e w14 ⟨v253, rfl, ho0, hb⟩; refine ⟨_, rfl, ?_⟩; have n0_ := Aside0.mk (Kd.S_lower (Kd.S_newB ho0 (g := gb250) (o := .cells #[.slice A1 l1.length c1] 34 (0, 0)) (by (with_reducible repeat (first | refine blk_drewN ?_ _ | refine blk_drew ?_ | refine blk_alloc ?_ _)); exact BK250.out)) (below_size (by repeat (first | (with_reducible first | exact HB.out | apply below_alloc | apply pw_below_drewN | apply below_drew1 | refine below_set ?_ GE249.out | refine below_set ?_ GE250.out) | exact HB.out)))); have n1_ := Aside0.mk (blk_below (g := gb249) (o := .cells #[.int .i64 a0_0, .slice A0_1 l0_1.length c0_1] 30 (0, 0)) (by (with_reducible repeat (first | refine blk_drewN ?_ _ | refine blk_drew ?_ | refine blk_alloc ?_ _)); exact BK249.out) hb); have n2_ := Aside0.mk (blk_below (g := gb250) (o := .cells #[.slice A1 l1.length c1] 34 (0, 0)) (by (with_reducible repeat (first | refine blk_drewN ?_ _ | refine blk_drew ?_ | refine blk_alloc ?_ _)); exact BK250.out) hb); have n3_ := Aside0.mk (below_step (by repeat (first | (with_reducible first | exact HB.out | apply below_alloc | apply pw_below_drewN | apply below_drew1 | refine below_set ?_ GE249.out | refine below_set ?_ GE250.out) | exact HB.out)) hb); clear BK249; clear BK250; clear HB; have HO254 := n0_; have BK249 := n1_; have BK250 := n2_; have HB := n3_; clear n0_ n1_ n2_ n3_; (try clear hb); (try clear hb2); (try clear hk); (try clear hi); (try clear ho0); obtain ⟨Ao15, co15, eo15⟩ := Kd.S_slice HO254.out; subst eo15; have p255 : 0 ≤ (0 : Int) := (by omega); have q255 : 0 < (t252.length : Int) := of_decide_eq_true (by first | (with_reducible assumption) | assumption); obtain ⟨ad255, A255_0, c255_0, e255, hx255_0, hl255_0, hi255_0⟩ := at_L5 (Kd.S_reads' HO254.out).2.2 0 p255 q255; cases e255; obtain ⟨ce255, hce255, hMe255, hcc255⟩ := Kd.S_get HO254.out [] 0 p255 (by first | exact q255 | exact of_decide_eq_true (by first | (with_reducible assumption) | assumption) | (have e_ := (Kd.S_reads' HO254.out).1; omega)); obtain ⟨ve255_0, rfl, ge255_0⟩ := hMe255; have hv255_0 := hcc255 0 _ rfl; rw [Nat.add_zero, show ((Kd.slice 2 (Kd.int .i64))).sz = 1 from rfl, Nat.mul_one] at hv255_0; replace hv255_0 := Option.some.inj (hv255_0.symm.trans hx255_0); rw [hv255_0] at ge255_0; have HL255_0 := Aside0.mk (show Kd.R (Kd.int .i64) 2 _ _ _ _ (rd_L5 t252 0) from ge255_0); clear hv255_0 ge255_0; clear hcc255 hce255; have qi255 : (0 < t252.length) = True := eq_true (by omega); (try rw [show ((0 : Int)).toNat = 0 from rfl] at hx255_0); (try rw [Addr.add_zero'] at hx255_0); have HR255_0 := Aside0.mk hi255_0; have HC255_0 := Aside0.mk hl255_0; clear hi255_0 hl255_0; replace p255 := eq_true p255; replace q255 := eq_true q255))
      go_loopg [7, 22] k (fun kq v7 v22 w' => ∃ (x7_1 : Int) (x22_1 : Int), v7 = .int .i64 x7_1 ∧ v22 = .int .i64 x22_1 ∧ Aside0 (impl_CountRowsOver.l0 kq x7_1 (rd_L5 t252 0) ((rd_L5 t252 0).length : Int) x22_1 = some (r1, r2)) ∧ Aside0 (kq ≤ k) ∧ Aside0 (w'.heap[gb249]? = some (.cells #[.int .i64 a0_0, (.slice A0_1 l0_1.length c0_1)] 30 (0, 0))) ∧ Aside0 (w'.heap[gb250]? = some (.cells #[(.slice A1 l1.length c1)] 34 (0, 0))) ∧ Aside0 (Kd.C (Kd.int .i64) w' A255_0 (rd_L5 t252 0).length (rd_L5 t252 0)) ∧ Aside0 (Below w.heap.size w w'))
      case atStart => exact ⟨(0), (0), (by first | rfl | (simp; done) | (simp [*]; done)), (by first | rfl | (simp; done) | (simp [*]; done)), H', ⟨Nat.le_refl _⟩, ⟨by (with_reducible repeat (first | refine blk_drewN ?_ _ | refine blk_drew ?_ | refine blk_alloc ?_ _)); exact BK249.out⟩, ⟨by (with_reducible repeat (first | refine blk_drewN ?_ _ | refine blk_drew ?_ | refine blk_alloc ?_ _)); exact BK250.out⟩, ⟨by repeat (first | (with_reducible exact HR255_0.out) | (with_reducible refine Kd.C_alloc ?_ _) | (with_reducible refine Kd.C_drewN ?_ _) | (with_reducible refine Kd.C_drew ?_) | exact HR255_0.out)⟩, ⟨by repeat (first | (with_reducible first | exact HB.out | apply below_alloc | apply pw_below_drewN | apply below_drew1 | refine below_set ?_ GE249.out | refine below_set ?_ GE250.out) | exact HB.out)⟩⟩
      case round =>
        clear H'
        try clear c1
        try clear c2
        try clear p2
        try clear q2
        try clear hx2
        try clear qi2
        try clear c4
        try clear c4b0
        try clear c4b1
        try clear c5
        try clear c6
        try clear c6b0
        try clear c6b1
        try clear c9
        try clear hcz10_0
        try clear hcz10_1
        try clear hcz12_0
        try clear hcz12_1
        try clear hcz13_0
        try clear hfz10_0
        try clear hfz10_1
        try clear hfz12_0
        try clear hfz12_1
        try clear hfz13_0
        try clear hx255_0
        try clear p255
        try clear q255
        obtain ⟨x7_1, x22_1, rfl, rfl, HA, HK1, BK249, BK250, HR255_0, HB⟩ := hrel
        cases gk with
        | zero => exact absurd HA.out (by simp [impl_CountRowsOver.l0])
        | succ k1 =>
          have H := HA.out
          clear HA
          simp only [impl_CountRowsOver.l0] at H
          by_cases c16 : x22_1 < ((rd_L5 t252 0).length : Int)
          · rw [if_pos c16] at H
            have c16b0 : decide (x22_1 < ((rd_L5 t252 0).length : Int)) = true := decide_eq_true c16
            clear c16
            by_cases c17 : 0 ≤ x22_1
            · rw [if_pos c17] at H
              have c17b0 : decide (0 ≤ x22_1) = true := decide_eq_true c17
              clear c17
              by_cases c18 : x22_1 < ((rd_L5 t252 0).length : Int)
              · rw [if_pos c18] at H
                have c18b0 : decide (x22_1 < ((rd_L5 t252 0).length : Int)) = true := decide_eq_true c18
                clear c18
                have H' := Aside0.mk H
                clear H
                have p256 : 0 ≤ (x22_1 : Int) := of_decide_eq_true (by first | (with_reducible assumption) | assumption)
                have q256 : x22_1 < ((rd_L5 t252 0).length : Int) := of_decide_eq_true (by first | (with_reducible assumption) | assumption)
                obtain ⟨ad256, e256, hx256_0⟩ := Kd.at_int (by repeat (first | (with_reducible exact HR255_0.out) | (with_reducible refine Kd.C_alloc ?_ _) | (with_reducible refine Kd.C_drewN ?_ _) | (with_reducible refine Kd.C_drew ?_) | exact HR255_0.out)) x22_1 p256 q256
                cases e256
                replace p256 := eq_true p256
                replace q256 := eq_true q256
                go_wp2
                go_roundg k1
                case measure => have := HK1.out; omega
                case rel => exact ⟨(wrap64 (x7_1 + (rd (rd_L5 t252 0) x22_1))), (wrap64 (x22_1 + 1)), (by first | rfl | (simp; done) | (simp [*]; done)), (by first | rfl | (simp; done) | (simp [*]; done)), H', ⟨by have := HK1.out; omega⟩, ⟨by (with_reducible repeat (first | refine blk_drewN ?_ _ | refine blk_drew ?_ | refine blk_alloc ?_ _)); exact BK249.out⟩, ⟨by (with_reducible repeat (first | refine blk_drewN ?_ _ | refine blk_drew ?_ | refine blk_alloc ?_ _)); exact BK250.out⟩, ⟨by repeat (first | (with_reducible exact HR255_0.out) | (with_reducible refine Kd.C_alloc ?_ _) | (with_reducible refine Kd.C_drewN ?_ _) | (with_reducible refine Kd.C_drew ?_) | exact HR255_0.out)⟩, ⟨by repeat (first | (with_reducible first | exact HB.out | apply below_alloc | apply pw_below_drewN | apply below_drew1 | refine below_set ?_ GE249.out | refine below_set ?_ GE250.out) | exact HB.out)⟩⟩
              · rw [if_neg c18] at H
                exact absurd H (by simp)
            · rw [if_neg c17] at H
              exact absurd H (by simp)
          · rw [if_neg c16] at H
            have c16b0 : decide (x22_1 < ((rd_L5 t252 0).length : Int)) = false := decide_eq_false c16
            clear c16
            replace H := Option.bind_eq_some_iff.mp H
            obtain ⟨⟨t257, t258⟩, A190, H⟩ := H
            replace H : (some (t257, t258)) = some (r1, r2) := H
            have A19 := Aside0.mk A190
            clear A190
            simp only [Option.some.injEq, Prod.mk.injEq] at H
            obtain ⟨rfl, rfl⟩ := H
            go_wp2_with (first | ((with_reducible refine gate_callee (f := 58) rfl ?_); refine goesL_ (some 31) rfl rfl Try.func58 (by kernel_rfl) rfl #[.int .i64 x7_1] rfl (by (try simp only [List.map_toArray, List.map_cons, List.map_nil]); first | done | rfl | (simp only [List.length_drop, List.length_take]; rfl)) ?_; (with_reducible refine (impl_counted.calls x7_1 t257 t258 _ A19.out).mono ?_); rintro e w' ⟨rfl, ⟨nd, rfl⟩⟩; refine ⟨_, rfl, ?_⟩))
            go_ret2
            exact ⟨by first | rfl | (simp [errW_none, errW_some] <;> rfl) | (simp [*, errW_none, errW_some] <;> rfl), by repeat (first | (with_reducible first | exact HB.out | apply below_alloc | apply pw_below_drewN | apply below_drew1 | refine below_set ?_ GE249.out | refine below_set ?_ GE250.out) | exact HB.out)⟩
    · rw [if_neg c6] at H
      exact absurd H (by simp)
  · rw [if_neg c4] at H
    have c4b0 : (t251 == 0) = false := beq_eq_false_iff_ne.mpr c4
    have c4b1 : (t251 != 0) = true := bne_iff_ne.mpr c4
    simp only [Option.some.injEq, Prod.mk.injEq] at H
    obtain ⟨rfl, rfl⟩ := H
    go_enter Try.func21, Try.ntmps21
    go_wp2_with (first | ((with_reducible refine gate_dst (N := 2) rfl ?_); refine box_event ?hg (N := 2) ?hd (cs := #[.int .i64 a0_0, .slice A0_1 l0_1.length c0_1]) (t := 30) ?hr ?_; (case hd => rfl); (case hg => rfl); (case hr => first | (go_simp; done) | (go_simp; rfl)); intro gb249 hg w20 hbox hb; have n0_ := Aside0.mk (below_step (by repeat (first | (with_reducible first | exact HB.out | apply below_alloc | apply pw_below_drewN | apply below_drew1) | exact HB.out)) hb); have n1_ := Aside0.mk (hbox); have n2_ := Aside0.mk ((by rw [hg]; exact (below_size (by repeat (first | (with_reducible first | exact HB.out | apply below_alloc | apply pw_below_drewN | apply below_drew1) | exact HB.out))) : w.heap.size ≤ gb249)); have n3_ := Aside0.mk ((by rw [hg]; exact (below_size (by repeat (first | (with_reducible first | exact HB.out | apply below_alloc | apply pw_below_drewN | apply below_drew1) | exact HB.out))) : w.heap.size ≤ gb249)); clear HB; have HB := n0_; have BK249 := n1_; have GW249 := n2_; have GE249 := n3_; clear n0_ n1_ n2_ n3_; clear hb hbox hg) | ((with_reducible refine gate_dst (N := 3) rfl ?_); refine box_event ?hg (N := 3) ?hd (cs := #[.slice A1 l1.length c1]) (t := 34) ?hr ?_; (case hd => rfl); (case hg => rfl); (case hr => first | (go_simp; done) | (go_simp; rfl)); intro gb250 hg w21 hbox hb; have n0_ := Aside0.mk (blk_below (g := gb249) (o := .cells #[.int .i64 a0_0, .slice A0_1 l0_1.length c0_1] 30 (0, 0)) (by (with_reducible repeat (first | refine blk_drewN ?_ _ | refine blk_drew ?_ | refine blk_alloc ?_ _)); exact BK249.out) hb); have n1_ := Aside0.mk (below_step (by repeat (first | (with_reducible first | exact HB.out | apply below_alloc | apply pw_below_drewN | apply below_drew1 | refine below_set ?_ GE249.out) | exact HB.out)) hb); have n2_ := Aside0.mk (hbox); have n3_ := Aside0.mk ((by rw [hg]; exact (below_size (by repeat (first | (with_reducible first | exact HB.out | apply below_alloc | apply pw_below_drewN | apply below_drew1 | refine below_set ?_ GE249.out) | exact HB.out))) : w.heap.size ≤ gb250)); have n4_ := Aside0.mk ((by rw [hg]; exact (below_size (by repeat (first | (with_reducible first | exact HB.out | apply below_alloc | apply pw_below_drewN | apply below_drew1 | refine below_set ?_ GE249.out) | exact HB.out))) : w.heap.size ≤ gb250)); have n5_ := Aside0.mk ((by rw [hg]; exact Nat.ne_of_lt (blk_lt (g := gb249) (o := .cells #[.int .i64 a0_0, .slice A0_1 l0_1.length c0_1] 30 (0, 0)) (by (with_reducible repeat (first | refine blk_drewN ?_ _ | refine blk_drew ?_ | refine blk_alloc ?_ _)); exact BK249.out)) : gb249 ≠ gb250)); have n6_ := Aside0.mk ((by rw [hg]; exact Nat.ne_of_gt (blk_lt (g := gb249) (o := .cells #[.int .i64 a0_0, .slice A0_1 l0_1.length c0_1] 30 (0, 0)) (by (with_reducible repeat (first | refine blk_drewN ?_ _ | refine blk_drew ?_ | refine blk_alloc ?_ _)); exact BK249.out)) : gb250 ≠ gb249)); clear BK249; clear HB; have BK249 := n0_; have HB := n1_; have BK250 := n2_; have GW250 := n3_; have GE250 := n4_; have NB249_250 := n5_; have NB250_249 := n6_; clear n0_ n1_ n2_ n3_ n4_ n5_ n6_; clear hb hbox hg; have hnb22 := NB249_250.out; have hnc22 := NB250_249.out; have hcz23_0 : w21.cell? ⟨gb249, 0, none⟩ = some (.int .i64 a0_0) := (blk_cell BK249.out 0).trans rfl; have hcz23_1 : w21.cell? ⟨gb249, 1, none⟩ = some (.slice A0_1 l0_1.length c0_1) := (blk_cell BK249.out 1).trans rfl; have hfz23_0 := blk_frozen BK249.out 0; have hfz23_1 := blk_frozen BK249.out 1) | ((with_reducible refine gate_callee (f := 54) rfl ?_); refine goesL_ (some 12) rfl rfl Try.func54 (by kernel_rfl) rfl #[.agg #[.int .i64 a0_0, .slice A0_1 l0_1.length c0_1], .func (.func 64) #[] #[.pointer (some ⟨gb249, 0, none⟩), .pointer (some ⟨gb250, 0, none⟩)]] rfl (by (try simp only [List.map_toArray, List.map_cons, List.map_nil]); first | done | rfl | (simp only [List.length_drop, List.length_take]; rfl)) ?_; (with_reducible refine (impl_setCode_at_impl_CountRowsOver_1.calls k a0_0 _ _ l0_1 gb249 a0_0 A0_1 c0_1 l0_1 gb250 A1 c1 l1 t251 _ ?side1 ?side2 ?side3 ?side4 ?side5 ?side6 ?side7 ?side8 A3.out).mono ?_); (case side1 => repeat (first | exact (Kd.C_below HR0_1.out HB.out) | (with_reducible refine Kd.C_alloc ?_ _) | (with_reducible refine Kd.C_drewN ?_ _) | (with_reducible refine Kd.C_drew ?_))); (case side2 => exact HC0_1.out); (case side3 => repeat (first | exact (Kd.C_below HR0_1.out HB.out) | (with_reducible refine Kd.C_alloc ?_ _) | (with_reducible refine Kd.C_drewN ?_ _) | (with_reducible refine Kd.C_drew ?_))); (case side4 => exact HC0_1.out); (case side5 => repeat (first | exact (Kd.C_below HR1.out HB.out) | (with_reducible refine Kd.C_alloc ?_ _) | (with_reducible refine Kd.C_drewN ?_ _) | (with_reducible refine Kd.C_drew ?_))); (case side6 => exact HC1.out); (case side7 => exact (by (with_reducible repeat (first | refine blk_drewN ?_ _ | refine blk_drew ?_ | refine blk_alloc ?_ _)); exact BK249.out)); (case side8 => exact (by (with_reducible repeat (first | refine blk_drewN ?_ _ | refine blk_drew ?_ | refine blk_alloc ?_ _)); exact BK250.out)); rintro e w24 ⟨rfl, hb⟩; refine ⟨_, rfl, ?_⟩; have n0_ := Aside0.mk (blk_below (g := gb249) (o := .cells #[.int .i64 a0_0, .slice A0_1 l0_1.length c0_1] 30 (0, 0)) (by (with_reducible repeat (first | refine blk_drewN ?_ _ | refine blk_drew ?_ | refine blk_alloc ?_ _)); exact BK249.out) hb); have n1_ := Aside0.mk (blk_below (g := gb250) (o := .cells #[.slice A1 l1.length c1] 34 (0, 0)) (by (with_reducible repeat (first | refine blk_drewN ?_ _ | refine blk_drew ?_ | refine blk_alloc ?_ _)); exact BK250.out) hb); have n2_ := Aside0.mk (below_step (by repeat (first | (with_reducible first | exact HB.out | apply below_alloc | apply pw_below_drewN | apply below_drew1 | refine below_set ?_ GE249.out | refine below_set ?_ GE250.out) | exact HB.out)) hb); clear BK249; clear BK250; clear HB; have BK249 := n0_; have BK250 := n1_; have HB := n2_; clear n0_ n1_ n2_; (try clear hb); (try clear hb2); (try clear hk); (try clear hi)))
    go_ret2
    exact ⟨by first | rfl | (simp [errW_none, errW_some] <;> rfl) | (simp [*, errW_none, errW_some] <;> rfl), by repeat (first | (with_reducible first | exact HB.out | apply below_alloc | apply pw_below_drewN | apply below_drew1 | refine below_set ?_ GE249.out | refine below_set ?_ GE250.out) | exact HB.out)⟩

end Go.Proofs.Ytenlcakpcbmmdaa.Q

/-
  CountRowsOver: both count the rows over a word with the bound.
-/
namespace Go.Proofs.Ytenlcakpcbmmdaa
open Go Go.RowKit Go.Proofs Go.Proofs.YtenlcakpcbmmdaaW.PrintWords Go.Proofs.YtenlcakpcbmmdaaW.PrintMore Go.Proofs.Ytenlcakpcbmmdaa.Q
set_option linter.unusedVariables false
set_option linter.unusedSimpArgs false

/-- what CountRowsOver returns -/
def overR (C : Int) (ts : List T4) (word : List Int) : Int × Int :=
  if isS C ts = true then if isWordB C word = true then toldI (total C.toNat (layers (ts.map toS) word 0 word.length)) else (0, 2) else (0, 1)
theorem capRow_bd (c : Nat) (q : Nat → Int) (hq : ∀ a, 0 ≤ q a) : Bd (capRow c q) := by
  intro i
  by_cases h : i < c
  · rw [capRow_get h]; exact ⟨cap_nn (hq _), cap_le _⟩
  · rw [List.getD_eq_getElem?_getD, List.getElem?_eq_none (by rw [capRow_len]; omega)]; simp
theorem over_l0 (row : List Int) (hb : Bd row) (hl : row.length ≤ 6) (d : Nat) : ∀ (i : Nat) (s : Int), i + d = row.length → 0 ≤ s → s ≤ 100000000000000000 - 1000000000000001 * d →
    Ev (fun k => impl_CountRowsOver.l0 k s row (row.length : Int) (i : Int)) (toldI (s + (row.drop i).sum)) := by
  induction d with
  | zero =>
    intro i s hi h0 h1
    have b1 : ¬ (i : Int) < (row.length : Int) := by omega
    refine Ev.step (fun k => ?_) (Ev.now _)
    rw [impl_CountRowsOver.l0, if_neg b1, impl_counted.f, List.drop_of_length_le (by omega), List.sum_nil, Int.add_zero, toldI]
    split <;> rfl
  | succ d ih =>
    intro i s hi h0 h1
    have b1 : (i : Int) < (row.length : Int) := by omega
    have b2 : (0 : Int) ≤ (i : Int) := Int.natCast_nonneg i
    have hi9 : i < 1000000000 := by omega
    have hx := hb i
    rw [← rd_nat] at hx
    have e : wrap64 (s + rd row (i : Int)) = s + rd row (i : Int) := wrap_id (by omega) (by omega)
    have h2 := ih (i + 1) (s + rd row (i : Int)) (by omega) (by omega) (by omega)
    rw [drop_rd row i (by omega), List.sum_cons, ← Int.add_assoc]
    refine Ev.step (fun k => ?_) h2
    rw [impl_CountRowsOver.l0, if_pos b1, if_pos b2, if_pos b1, e, succ_wrap i hi9]
theorem capRow_sum (c : Nat) (q : Nat → Int) (hq : ∀ a, 0 ≤ q a) : toldI (capRow c q).sum = toldI ((List.range c).map q).sum := by
  have e : capRow c q = ((List.range c).map q).map cap := by simp [capRow]
  rw [← toldI_cap, e, cap_sum _ (fun x hx => by obtain ⟨y, -, rfl⟩ := List.mem_map.1 hx; exact hq _), toldI_cap]
def codeW (s f : Bool) : Int := if s then if f then 0 else 2 else 1
theorem implOverCode_ev (C : Int) (l : List STile) (word : List Int) (hl : l.length ≤ 35184372088832) (hw : word.length ≤ 35184372088832) :
    Ev (fun k => impl_setCode_at_impl_CountRowsOver_1.f k C l C l word) (codeW (isS C (l.map toT)) (isWordB C word)) := by
  have hin : inLim l.length = true := by simpa [inLim] using hl
  cases hs : isS C (l.map toT)
  · refine Ev.congr (fun k => ?_) (Ev.now _)
    rw [impl_setCode_at_impl_CountRowsOver_1.f, impl_IsSet.f, if_pos hin, hs]; rfl
  · obtain ⟨hC, hlen, -⟩ := isS_fine hs
    have hword := implWord_ev C l word ⟨by omega, by omega⟩ hw
    refine Ev.congr (f := fun k => (impl_Set_isWord.f k C l word).bind fun b => if b = true then some 0 else some 2) (fun k => ?_) (Ev.bind hword ?_)
    · rw [impl_setCode_at_impl_CountRowsOver_1.f, impl_IsSet.f, if_pos hin, hs]
      simp only [Option.bind_some, if_true]
      rw [impl_CountRowsOver_1.f]
      cases impl_Set_isWord.f k C l word with
      | none => rfl
      | some b => rfl
    · refine Ev.congr (fun k => ?_) (Ev.now _)
      cases isWordB C word <;> rfl
theorem implOver_rest (C : Int) (l : List STile) (word : List Int) (hs : isS C (l.map toT) = true) (hn : isWordB C word = true) :
    Ev (fun k => (impl_Set_left_at_impl_anyColour.f k C l word).bind fun u => if 0 < (u.length : Int) then impl_CountRowsOver.l0 k 0 (rd_L5 u 0) ((rd_L5 u 0).length : Int) 0 else none) (toldI (total C.toNat (layers l word 0 word.length))) := by
  obtain ⟨hC, hlen, -⟩ := isS_fine hs
  have hf := isS_Fine hs
  have hwl : inB (word.length : Int) 1 20 = true := by
    have := hn; rw [isWordB, Bool.and_eq_true] at this; exact this.1
  have hwl' := inB_iff.1 hwl
  have hleft := left_ev C l word C.toNat (by omega) (by omega) hf (by omega) (by omega)
  have hrow : rd_L5 (leftTab C.toNat l word) 0 = capRow C.toNat (onward l word 0) := by
    rw [show (0 : Int) = ((0 : Nat) : Int) from rfl, rdL_nat]
    simp [leftTab, List.getD_eq_getElem?_getD]
  have hpos : (0 : Int) < ((leftTab C.toNat l word).length : Int) := by simp [leftTab]
  have hrl : (capRow C.toNat (onward l word 0)).length ≤ 6 := by rw [capRow_len]; omega
  have hsum := over_l0 (capRow C.toNat (onward l word 0)) (capRow_bd _ _ (onward_nn _ _ _)) hrl (capRow C.toNat (onward l word 0)).length 0 0 (by omega) (by omega) (by omega)
  rw [List.drop_zero, Int.zero_add, capRow_sum _ _ (onward_nn _ _ _)] at hsum
  refine Ev.bind hleft ?_
  rw [hrow]
  refine Ev.congr (fun k => if_pos hpos) ?_
  exact hsum
theorem implOver_ev (C : Int) (l : List STile) (word : List Int) (hl : l.length ≤ 35184372088832) (hw : word.length ≤ 35184372088832) : Ev (fun k => impl_CountRowsOver.f k C l word) (overR C (l.map toT) word) := by
  have hcode := implOverCode_ev C l word hl hw
  refine Ev.congr (f := fun k => (impl_setCode_at_impl_CountRowsOver_1.f k C l C l word).bind fun t => if t = 0 then ((impl_Set_left_at_impl_anyColour.f k C l word).bind fun u => if 0 < (u.length : Int) then impl_CountRowsOver.l0 k 0 (rd_L5 u 0) ((rd_L5 u 0).length : Int) 0 else none) else some (0, t)) (fun k => by rw [impl_CountRowsOver.f]) ?_
  refine Ev.bind hcode ?_
  unfold overR
  cases hs : isS C (l.map toT)
  · exact Ev.now _
  · cases hn : isWordB C word
    · exact Ev.now _
    · rw [if_pos rfl, if_pos rfl, map_toST]
      exact Ev.congr (fun k => if_pos rfl) (implOver_rest C l word hs hn)
theorem specCode_ev (C : Int) (l : List STile) (word : List Int) (hl : l.length ≤ 35184372088832) (hw : word.length ≤ 35184372088832) :
    Ev (fun k => spec_l02Code.f k C l word) (codeW (isS C (l.map toT)) (isWordB C word)) := by
  have hin : inLim l.length = true := by simpa [inLim] using hl
  cases hs : isS C (l.map toT)
  · refine Ev.congr (fun k => ?_) (Ev.now _)
    rw [spec_l02Code.f, spec_l01Is.f, if_pos hin, hs]; rfl
  · obtain ⟨hC, hlen, -⟩ := isS_fine hs
    by_cases h1 : (word.length : Int) < 1
    · have e : isWordB C word = false := by
        have : inB (word.length : Int) 1 20 = false := by rw [← Bool.not_eq_true, inB_iff]; omega
        simp [isWordB, this]
      refine Ev.congr (fun k => ?_) (Ev.now _)
      rw [spec_l02Code.f, spec_l01Is.f, if_pos hin, hs]
      simp only [Option.bind_some, if_true]
      rw [if_pos h1, e]; rfl
    · by_cases h2 : (word.length : Int) > 20
      · have e : isWordB C word = false := by
          have : inB (word.length : Int) 1 20 = false := by rw [← Bool.not_eq_true, inB_iff]; omega
          simp [isWordB, this]
        refine Ev.congr (fun k => ?_) (Ev.now _)
        rw [spec_l02Code.f, spec_l01Is.f, if_pos hin, hs]
        simp only [Option.bind_some, if_true]
        rw [if_neg h1, if_pos h2, e]; rfl
      · have e : isWordB C word = wordB C word := by
          have : inB (word.length : Int) 1 20 = true := by rw [inB_iff]; omega
          simp [isWordB, this]
        have hword := specWord_ev C l word ⟨by omega, by omega⟩ hw
        refine Ev.congr (f := fun k => (spec_l01Word.f k C l word).bind fun t => if t = true then some 0 else some 2) (fun k => ?_) (Ev.bind hword ?_)
        · rw [spec_l02Code.f, spec_l01Is.f, if_pos hin, hs]
          simp only [Option.bind_some, if_true]
          rw [if_neg h1, if_neg h2]
        · rw [e]
          refine Ev.congr (fun k => ?_) (Ev.now _)
          cases wordB C word <;> rfl
theorem specOver_ev (C : Int) (l : List STile) (word : List Int) (hl : l.length ≤ 35184372088832) (hw : word.length ≤ 35184372088832) : Ev (fun k => spec_CountRowsOver.f k C l word) (overR C (l.map toT) word) := by
  have hcode := specCode_ev C l word hl hw
  unfold overR
  by_cases hs : isS C (l.map toT) = true
  · rw [if_pos hs, map_toST]
    rw [hs] at hcode
    obtain ⟨hC, hlen, -⟩ := isS_fine hs
    have hf := isS_Fine hs
    by_cases hn : isWordB C word = true
    · rw [if_pos hn]
      rw [hn] at hcode
      have hwl : inB (word.length : Int) 1 20 = true := by
        have := hn; rw [isWordB, Bool.and_eq_true] at this; exact this.1
      have hwl' := inB_iff.1 hwl
      have hways := specWays_ev C l (List.replicate C.toNat 1) word (word.length : Int) C.toNat (by omega) (by omega) hf (by omega) (by omega) (by omega) (fun _ => by omega) (by simp) (bd_ones _)
      rw [Int.toNat_natCast] at hways
      have hlay := fine_layers hf word 0 word.length
      have htot := specTotal_ev (waysC C.toNat (List.replicate C.toNat 1) (layers l word 0 word.length)) (bd_ways _ hlay _ (bd_ones _) (by simp)) (by rw [waysC_len _ _ _ (by simp)]; omega)
      rw [capSum_ones _ _ hlay] at htot
      refine Ev.bind (f := fun k t => if t = 0 then ((spec_l02Each.f k C).bind fun t => (spec_l02Ways.f k C l t (word.length : Int) word).bind fun u => (spec_l02Total.f k u).bind fun v => (spec_l02Told.f v).bind fun b => some (b.1, b.2)) else some (0, t)) hcode ?_
      refine Ev.bind (f := fun k t => (spec_l02Ways.f k C l t (word.length : Int) word).bind fun u => (spec_l02Total.f k u).bind fun v => (spec_l02Told.f v).bind fun b => some (b.1, b.2)) (specEach_ev C C.toNat (by omega) (by omega)) (Ev.bind hways (Ev.bind htot (Ev.congr (fun k => ?_) (Ev.now _))))
      rw [← toldI_cap, toldI, spec_l02Told.f]
      split <;> rfl
    · rw [if_neg hn]
      have hn' : isWordB C word = false := by simpa using hn
      rw [hn'] at hcode
      exact Ev.bind (f := fun k t => if t = 0 then ((spec_l02Each.f k C).bind fun t => (spec_l02Ways.f k C l t (word.length : Int) word).bind fun u => (spec_l02Total.f k u).bind fun v => (spec_l02Told.f v).bind fun b => some (b.1, b.2)) else some (0, t)) hcode (Ev.now _)
  · rw [if_neg hs]
    have hs' : isS C (l.map toT) = false := by simpa using hs
    rw [hs'] at hcode
    exact Ev.bind (f := fun k t => if t = 0 then ((spec_l02Each.f k C).bind fun t => (spec_l02Ways.f k C l t (word.length : Int) word).bind fun u => (spec_l02Total.f k u).bind fun v => (spec_l02Told.f v).bind fun b => some (b.1, b.2)) else some (0, t)) hcode (Ev.now _)

theorem specCountRowsOver_any (C : Int) (A : Option Addr) (ts : List T4) (n c : Nat) (A' : Option Addr) (word : List Int) (n' c' : Nat) (w : World) (hn : n = ts.length) (hA : RT w A ts) (hnc : n ≤ c) (hl : n ≤ 35184372088832) (hn' : n' = word.length) (hA' : RI w A' word) (hnc' : n' ≤ c') (hl' : n' ≤ 35184372088832) :
    Calls Try.prog 19 #[.agg #[.int .i64 C, .slice A n c], .slice A' n' c'] w fun e w' => e = .returned (pairI (overR C ts word)) ∧ Below w.heap.size w w' := by
  subst hn hn'
  obtain ⟨k, hk⟩ := (specOver_ev C (ts.map toS) word (by simpa using hl) hl').rounds
  rw [map_toTS] at hk
  have h := spec_CountRowsOver.calls k C A c (ts.map toS) A' c' word (overR C ts word).1 (overR C ts word).2 w (C_of_rt hA (by omega)) (by simpa using hnc) (C_of_ri hA' (by omega)) hnc' hk
  rw [List.length_map] at h
  exact h
theorem implCountRowsOver_any (C : Int) (A : Option Addr) (ts : List T4) (n c : Nat) (A' : Option Addr) (word : List Int) (n' c' : Nat) (w : World) (hn : n = ts.length) (hA : RT w A ts) (hnc : n ≤ c) (hl : n ≤ 35184372088832) (hn' : n' = word.length) (hA' : RI w A' word) (hnc' : n' ≤ c') (hl' : n' ≤ 35184372088832) :
    Calls Try.prog 21 #[.agg #[.int .i64 C, .slice A n c], .slice A' n' c'] w fun e w' => e = .returned (pairI (overR C ts word)) ∧ Below w.heap.size w w' := by
  subst hn hn'
  obtain ⟨k, hk⟩ := (implOver_ev C (ts.map toS) word (by simpa using hl) hl').rounds
  rw [map_toTS] at hk
  have h := impl_CountRowsOver.calls k C A c (ts.map toS) A' c' word (overR C ts word).1 (overR C ts word).2 w (C_of_rt hA (by omega)) (by simpa using hnc) (C_of_ri hA' (by omega)) hnc' hk
  rw [List.length_map] at h
  exact h
end Go.Proofs.Ytenlcakpcbmmdaa

/-
  Contracts of the laws' own helpers: numbers copied, compared; rows marked and looked at again.
-/
namespace Go.Proofs.Ytenlcakpcbmmdaa
open Go Go.RowKit Go.Proofs
set_option linter.unusedVariables false
set_option linter.unusedSimpArgs false

theorem info2 : (Try.prog.info? 2).map (fun i => (i.zero, i.size, i.bytes)) = some (some (.int .i64 0), 1, 8) := by kernel_rfl
set_option maxHeartbeats 1000000 in
theorem toInt64S_any (A : Option Addr) (xs : List Int) (n c : Nat) (w : World) (hn : n = xs.length) (hA : RI w A xs) (hl : xs.length ≤ 1048576) :
    Calls Try.prog 20 #[.slice A n c] w fun e w' => ∃ v, e = .returned v ∧ OI w' w.heap.size 2 v xs ∧ Below w.heap.size w w' := by
  subst hn
  have hmk := make_row (P := Try.prog) 34 2 _ 1 8 Try.underlying34 info2 rfl (by decide) xs.length (by omega)
  simp only [Nat.mul_one] at hmk
  have HA := Lib.hid hA; clear hA
  go_enter Try.func20, Try.ntmps20
  go_wp2
  refine name1 ?_
  intro W1 b1 hz hb0
  have HB0 := Lib.hid hb0; have HZ := Lib.hid hz; clear hb0 hz
  go_loopw [4] (fun i wr => Below w.heap.size w wr ∧ ∃ k : Nat, k ≤ xs.length ∧ i = .int .i64 k ∧ ∃ C, BK wr w.heap.size C 2 ∧ C.size = xs.length ∧ ∀ k', k' < k → C[k']? = some (.int .i64 (ik xs k'))) (fun i _ => xs.length - (intOf i).toNat)
  case atStart => exact ⟨HB0.out, 0, by omega, rfl, _, b1, made_size _ _, fun j h => absurd h (by omega)⟩
  case round =>
    obtain ⟨hB, k, hk, rfl, C, b3, hsz, hall⟩ := hrel
    have hT := HA.out.below hB
    have HB := Lib.hid hB; have HC := Lib.hid hall; have HS := Lib.hid hsz; clear hB hall hsz
    by_cases hlt : k < xs.length
    · obtain ⟨b, o, rfl, hb, h0⟩ := hT k hlt
      clear hT
      obtain ⟨x0, c0⟩ : ∃ x, wr.cell? ⟨w.heap.size, k, none⟩ = some x := ⟨_, b3.cell (Array.getElem?_eq_getElem (by rw [HS.out]; omega))⟩
      have f0 := b3.frozen k
      go_wp2
      go_roundw
      case rel => exact ⟨HB.out.setCell (Nat.le_refl _) _, k + 1, by omega, by go_num, _, b3.set k _, by rw [Array.size_setIfInBounds, HS.out], fun j hj => by
          rw [Array.getElem?_setIfInBounds, HS.out]
          by_cases e : k = j
          · subst e; rw [if_pos rfl, if_pos hlt]
          · rw [if_neg e]; exact HC.out j (by omega)⟩
      case measure => simp [intOf]; omega
    · go_wp2
      go_ret
      exact ⟨_, rfl, OI.of_block b3 (Nat.le_refl _) HS.out (Nat.le_refl _) (by omega) fun k' h' => HC.out k' (by omega), HB.out⟩
set_option maxHeartbeats 1000000 in
theorem eqInt64S_any (A A' : Option Addr) (ts us : List Int) (n m c c' : Nat) (w : World) (hn : n = ts.length) (hm : m = us.length) (hA : RI w A ts) (hA' : RI w A' us) (hl : ts.length ≤ 35184372088832) (hl' : us.length ≤ 35184372088832) :
    Calls Try.prog 22 #[.slice A n c, .slice A' m c'] w fun e w' => e = .returned (.bool (decide (ts = us))) ∧ Below w.heap.size w w' := by
  have HA := Lib.hid hA; have HA' := Lib.hid hA'; clear hA hA'
  by_cases hlen : n = m
  · have HL := Lib.hid (show ts.length = us.length by omega); have HN := Lib.hid hn; have HM := Lib.hid hlen
    have h1 : ((n : Int) != m) = false := by simp [hlen]
    have hn0 : n ≤ 35184372088832 := by omega
    clear hlen hn hm
    go_enter Try.func22, Try.ntmps22
    go_wp2
    go_loopw [5] (fun i wr => Below w.heap.size w wr ∧ ∃ k : Nat, k ≤ n ∧ i = .int .i64 k ∧ ∀ j, j < k → ik ts j = ik us j) (fun i _ => n - (intOf i).toNat)
    case atStart => exact ⟨Below.refl _ _, 0, by omega, rfl, fun j h => absurd h (by omega)⟩
    case round =>
      obtain ⟨hB, k, hk, rfl, hall⟩ := hrel
      have hT := HA.out.below hB
      have hT' := HA'.out.below hB
      have HB := Lib.hid hB; have HALL := Lib.hid hall; clear hB hall
      by_cases hlt : k < n
      · obtain ⟨b, o, rfl, hb, h0⟩ := hT k (by have := HN.out; omega)
        obtain ⟨b', o', rfl, hb', h0'⟩ := hT' k (by have := HN.out; have := HL.out; omega)
        have i1 : (k : Int) < n := by omega
        have i2 : (k : Int) < m := by have := HM.out; omega
        clear hT hT'
        by_cases he : ik ts k = ik us k
        · have HE := Lib.hid he; clear he
          have he' : (ik ts k != ik us k) = false := by simp [HE.out]
          go_wp2
          refine wp_region_gro (by kernel_rfl) (by kernel_rfl) ?_
          repeat (first | go_big_quiet_step (fail) | quiet_step (fail))
          refine wpQuiet_nil ?_
          intro w1 hB1
          have HB1 := Lib.hid hB1; clear hB1
          go_wp2
          go_roundw
          case rel => exact ⟨HB.out.trans (HB1.out.mono HB.out.size), k + 1, by omega, by go_num, fun j hj => by
            by_cases e : j = k
            · subst e; exact HE.out
            · exact HALL.out j (by omega)⟩
          case measure => simp [intOf]; omega
        · have HE := Lib.hid he; clear he
          have he' : (ik ts k != ik us k) = true := by simpa using HE.out
          go_wp2
          refine wp_region_gro (by kernel_rfl) (by kernel_rfl) ?_
          repeat (first | go_big_quiet_step (fail) | quiet_step (fail))
          refine wpQuiet_nil ?_
          intro w1 hB1
          have HB1 := Lib.hid hB1; clear hB1
          go_wp2
          go_ret
          exact ⟨ret_bool (by have : ts ≠ us := fun e => HE.out (by rw [e])
                              simp [this]), HB.out.trans (HB1.out.mono HB.out.size)⟩
      · go_wp2
        go_ret
        exact ⟨ret_bool (by have : ts = us := eq_of_ik HL.out fun j hj => HALL.out j (by have := HN.out; omega)
                            simp [this]), HB.out⟩
  · have h1 : ((n : Int) != m) = true := by simp; omega
    have HL := Lib.hid (show ts.length ≠ us.length by omega); clear hlen hn hm
    go_enter Try.func22, Try.ntmps22
    go_wp2
    go_ret
    exact ⟨ret_bool (by have : ts ≠ us := fun e => HL.out (by rw [e])
                        simp [this]), Below.refl _ _⟩
set_option maxHeartbeats 1000000 in
theorem markInt64S_any (lo hi : Nat) (v : Value) (n : Nat) (cells : List Value) (k : Int) (w : World) (hO : OW w lo hi 2 1 v n cells) (hk : 0 ≤ k) (hk2 : k ≤ 1000000000000) (hl : n ≤ 35184372088832) :
    Calls Try.prog 26 #[v, .int .i64 k] w fun e w' => e = .returned (.int .i64 (k + n)) ∧ OW w' lo hi 2 1 v n (icells (mkI k (n * 1))) ∧ Only lo hi w w' := by
  obtain ⟨A, c, rfl, hf⟩ := hO.form
  have HT := Lib.hid hO.top
  have HF := Lib.hid hf; clear hf hO
  go_enter Try.func26, Try.ntmps26
  go_wp2
  go_loopw [1, 5] (fun kk i wr => Only lo hi w wr ∧ ∃ d : Nat, d ≤ n ∧ i = .int .i64 d ∧ kk = .int .i64 (k + d) ∧ ((A = none ∧ n = 0 ∧ c = 0) ∨ ∃ g cur, A = some ⟨g, 0, none⟩ ∧ lo ≤ g ∧ g < hi ∧ BK wr g cur 2 ∧ n ≤ c ∧ c ≤ 9223372036854775807 ∧ cur.size = c * 1 ∧ ∀ j, j < d → cur[j]? = some (.int .i64 (k + (j : Int))))) (fun _ i _ => n - (intOf i).toNat)
  case atStart => exact ⟨Only.refl _ _ _, 0, by omega, rfl, by simp, HF.out.imp id fun ⟨g, cur, h1, h2, h3, h4, h5, h6, h7⟩ => ⟨g, cur, h1, h2, h3, h4, h5, h6, h7, fun j h => absurd h (by omega)⟩⟩
  case round =>
    obtain ⟨hB, d, hd, rfl, rfl, hcase⟩ := hrel
    have HB := Lib.hid hB; have HC := Lib.hid hcase; clear hB hcase
    by_cases hlt : d < n
    · rcases HC.out with ⟨_, h0, _⟩ | ⟨g, cur, hA, hg1, hg2, hb, hnc, hcm, hsz, hall⟩
      · exact absurd h0 (by omega)
      · subst hA
        have HALL := Lib.hid hall; have HS := Lib.hid hsz; clear hall hsz HC
        obtain ⟨x0, c0⟩ : ∃ x, wr.cell? ⟨g, d, none⟩ = some x := ⟨_, hb.cell (Array.getElem?_eq_getElem (by rw [HS.out]; omega))⟩
        have f0 := hb.frozen d
        have HG := Lib.hid (And.intro hg1 hg2); clear hg1 hg2
        go_wp2
        go_roundw
        case rel => exact ⟨HB.out.setCell HG.out.1 HG.out.2 _ _, d + 1, by omega, by go_num, by rw [show k + (d : Int) + 1 = k + ((d + 1 : Nat) : Int) by omega], .inr ⟨g, _, rfl, HG.out.1, HG.out.2, hb.set d _, hnc, hcm, by rw [Array.size_setIfInBounds, HS.out], fun j hj => by
          rw [Array.getElem?_setIfInBounds, HS.out]
          by_cases e : d = j
          · subst e; rw [if_pos rfl, if_pos (by omega)]
          · rw [if_neg e]; exact HALL.out j (by omega)⟩⟩
        case measure => simp [intOf]; omega
    · have hdn : d = n := by omega
      subst hdn
      go_wp2
      go_ret
      refine ⟨rfl, ?_, HB.out⟩
      rcases HC.out with ⟨rfl, rfl, rfl⟩ | ⟨g, cur, rfl, hg1, hg2, hb, hnc, hcm, hsz, hall⟩
      · exact OW.nil _ _ _ _ _ (Nat.le_trans HT.out HB.out.size)
      · exact OW.marked hb hg1 hg2 (Nat.le_trans HT.out HB.out.size) hnc hcm hsz fun j hj => hall j (by omega)
set_option maxHeartbeats 1000000 in
theorem heldInt64S_any (lo hi : Nat) (v : Value) (n : Nat) (k : Int) (w : World) (hO : OW w lo hi 2 1 v n (icells (mkI k (n * 1)))) (hk : 0 ≤ k) (hk2 : k ≤ 1000000000000) (hl : n ≤ 35184372088832) :
    Calls Try.prog 27 #[v, .int .i64 k] w fun e w' => e = .returned (.int .i64 (k + n)) ∧ Below w.heap.size w w' := by
  obtain ⟨A, c, rfl, hf⟩ := hO.form
  have HO := Lib.hid hO; have HF := Lib.hid hf; clear hf hO
  go_enter Try.func27, Try.ntmps27
  go_wp2
  go_loopw [1, 5] (fun kk i wr => Below w.heap.size w wr ∧ ∃ d : Nat, d ≤ n ∧ i = .int .i64 d ∧ kk = .int .i64 (k + d)) (fun _ i _ => n - (intOf i).toNat)
  case atStart => exact ⟨Below.refl _ _, 0, by omega, rfl, by simp⟩
  case round =>
    obtain ⟨hB, d, hd, rfl, rfl⟩ := hrel
    have HB := Lib.hid hB; clear hB
    by_cases hlt : d < n
    · rcases HF.out with ⟨_, h0, _⟩ | ⟨g, cur, hA, hg1, hg2, hb, hnc, hcm, hsz⟩
      · exact absurd h0 (by omega)
      · subst hA
        clear hsz hb hg1 hg2
        have c0 : wr.cell? ⟨g, d, none⟩ = some (.int .i64 (k + d)) := by
          refine (HO.out.to HB.out).cell ?_
          rw [icells_get (by rw [mkI_length]; omega), mkI_get (by omega)]
        have hne : (k + (d : Int) != k + d) = false := by simp
        go_wp2
        go_roundw
        case rel => exact ⟨HB.out, d + 1, by omega, by go_num, by rw [show k + (d : Int) + 1 = k + ((d + 1 : Nat) : Int) by omega]⟩
        case measure => simp [intOf]; omega
    · have hdn : d = n := by omega
      subst hdn
      go_wp2
      go_ret
      exact ⟨rfl, HB.out⟩

set_option maxHeartbeats 2000000 in
theorem markTileS_any (lo hi : Nat) (v : Value) (n : Nat) (cells : List Value) (k : Int) (w : World) (hO : OW w lo hi 77 4 v n cells) (hk : 0 ≤ k) (hk2 : k ≤ 1000000000000) (hl : n ≤ 35184372088832) :
    Calls Try.prog 71 #[v, .int .i64 k] w fun e w' => e = .returned (.int .i64 (k + (n * 4 : Nat))) ∧ OW w' lo hi 77 4 v n (icells (mkI k (n * 4))) ∧ Only lo hi w w' := by
  obtain ⟨A, c, rfl, hf⟩ := hO.form
  have HT := Lib.hid hO.top
  have HF := Lib.hid hf; clear hf hO
  go_enter Try.func71, Try.ntmps71
  go_wp2
  go_loopw [1, 5, 6] (fun kk i _ wr => Only lo hi w wr ∧ ∃ d : Nat, d ≤ n ∧ i = .int .i64 d ∧ kk = .int .i64 (k + (d * 4 : Nat)) ∧ ((A = none ∧ n = 0 ∧ c = 0) ∨ ∃ g cur, A = some ⟨g, 0, none⟩ ∧ lo ≤ g ∧ g < hi ∧ BK wr g cur 77 ∧ n ≤ c ∧ c ≤ 9223372036854775807 ∧ cur.size = c * 4 ∧ ∀ j, j < d * 4 → cur[j]? = some (.int .i64 (k + (j : Int))))) (fun _ i _ _ => n - (intOf i).toNat)
  case atStart => exact ⟨Only.refl _ _ _, 0, by omega, rfl, by simp, HF.out.imp id fun ⟨g, cur, h1, h2, h3, h4, h5, h6, h7⟩ => ⟨g, cur, h1, h2, h3, h4, h5, h6, h7, fun j h => absurd h (by omega)⟩⟩
  case round =>
    obtain ⟨hB, d, hd, rfl, rfl, hcase⟩ := hrel
    have HB := Lib.hid hB; have HC := Lib.hid hcase; clear hB hcase
    by_cases hlt : d < n
    · rcases HC.out with ⟨_, h0, _⟩ | ⟨g, cur, hA, hg1, hg2, hb, hnc, hcm, hsz, hall⟩
      · exact absurd h0 (by omega)
      · subst hA
        have HALL := Lib.hid hall; have HS := Lib.hid hsz; have HG := Lib.hid (And.intro hg1 hg2); have HBK := Lib.hid hb; clear hall hsz HC hg1 hg2 hb
        go_wp2_with fail
        obtain ⟨wo, rfl⟩ : ∃ wo : World, wo = wr := ⟨_, rfl⟩
        go_loopw [1, 6] (fun kk j wr => Only lo hi w wr ∧ ∃ q : Nat, q ≤ 4 ∧ j = .int .i64 q ∧ kk = .int .i64 (k + (d * 4 + q : Nat)) ∧ ∃ cur, BK wr g cur 77 ∧ cur.size = c * 4 ∧ ∀ j, j < d * 4 + q → cur[j]? = some (.int .i64 (k + (j : Int)))) (fun _ j _ => 4 - (intOf j).toNat)
        case atStart => exact ⟨HB.out, 0, by omega, rfl, rfl, cur, HBK.out, HS.out, fun j h => HALL.out j (by omega)⟩
        case round =>
          obtain ⟨hB2, q, hq, rfl, rfl, cur2, hb2, hsz2, hall2⟩ := hrel
          have HB2 := Lib.hid hB2; have HALL2 := Lib.hid hall2; have HS2 := Lib.hid hsz2; clear hB2 hall2 hsz2
          by_cases hlt2 : q < 4
          · have q4 : (q : Int) < 4 := by omega
            obtain ⟨x0, c0⟩ : ∃ x, wr.cell? ⟨g, d * 4 + q, none⟩ = some x := ⟨_, hb2.cell (Array.getElem?_eq_getElem (by rw [HS2.out]; omega))⟩
            have f0 := hb2.frozen (d * 4 + q)
            go_wp2_with fail
            go_roundw
            case rel => exact ⟨HB2.out.setCell HG.out.1 HG.out.2 _ _, q + 1, by omega, by go_num, int_eq (by omega), _, hb2.set _ _, by rw [Array.size_setIfInBounds, HS2.out], fun j hj => by
                rw [Array.getElem?_setIfInBounds, HS2.out]
                by_cases e : d * 4 + q = j
                · subst e; rw [if_pos rfl, if_pos (by omega)]; exact congrArg some (int_eq (by omega))
                · rw [if_neg e]; exact HALL2.out j (by omega)⟩
            case measure => simp [intOf]; omega
          · have hq4 : q = 4 := by omega
            subst hq4
            go_wp2_with fail
            go_roundw
            case rel => exact ⟨HB2.out, d + 1, by omega, by go_num, int_eq (by omega), .inr ⟨g, cur2, rfl, HG.out.1, HG.out.2, hb2, hnc, hcm, HS2.out, fun j hj => HALL2.out j (by omega)⟩⟩
            case measure => simp [intOf]; omega
    · have hdn : d = n := by omega
      subst hdn
      go_wp2_with fail
      go_ret
      refine ⟨rfl, ?_, HB.out⟩
      rcases HC.out with ⟨rfl, rfl, rfl⟩ | ⟨g, cur, rfl, hg1, hg2, hb, hnc, hcm, hsz, hall⟩
      · exact OW.nil _ _ _ _ _ (Nat.le_trans HT.out HB.out.size)
      · exact OW.marked hb hg1 hg2 (Nat.le_trans HT.out HB.out.size) hnc hcm hsz fun j hj => hall j (by omega)
set_option maxHeartbeats 2000000 in
theorem heldTileS_any (lo hi : Nat) (v : Value) (n : Nat) (k : Int) (w : World) (hO : OW w lo hi 77 4 v n (icells (mkI k (n * 4)))) (hk : 0 ≤ k) (hk2 : k ≤ 1000000000000) (hl : n ≤ 35184372088832) :
    Calls Try.prog 81 #[v, .int .i64 k] w fun e w' => e = .returned (.int .i64 (k + (n * 4 : Nat))) ∧ Below w.heap.size w w' := by
  obtain ⟨A, c, rfl, hf⟩ := hO.form
  have HO := Lib.hid hO; have HF := Lib.hid hf; clear hf hO
  go_enter Try.func81, Try.ntmps81
  go_wp2
  go_loopw [1, 5, 6] (fun kk i _ wr => Below w.heap.size w wr ∧ ∃ d : Nat, d ≤ n ∧ i = .int .i64 d ∧ kk = .int .i64 (k + (d * 4 : Nat))) (fun _ i _ _ => n - (intOf i).toNat)
  case atStart => exact ⟨Below.refl _ _, 0, by omega, rfl, by simp⟩
  case round =>
    obtain ⟨hB, d, hd, rfl, rfl⟩ := hrel
    have HB := Lib.hid hB; clear hB
    by_cases hlt : d < n
    · rcases HF.out with ⟨_, h0, _⟩ | ⟨g, cur, hA, hg1, hg2, hb, hnc, hcm, hsz⟩
      · exact absurd h0 (by omega)
      · subst hA
        clear hsz hb hg1 hg2
        go_wp2_with fail
        obtain ⟨wo, rfl⟩ : ∃ wo : World, wo = wr := ⟨_, rfl⟩
        go_loopw [1, 6] (fun kk j wr => Below w.heap.size w wr ∧ ∃ q : Nat, q ≤ 4 ∧ j = .int .i64 q ∧ kk = .int .i64 (k + (d * 4 + q : Nat))) (fun _ j _ => 4 - (intOf j).toNat)
        case atStart => exact ⟨HB.out, 0, by omega, rfl, rfl⟩
        case round =>
          obtain ⟨hB2, q, hq, rfl, rfl⟩ := hrel
          have HB2 := Lib.hid hB2; clear hB2
          by_cases hlt2 : q < 4
          · have q4 : (q : Int) < 4 := by omega
            have c0 : wr.cell? ⟨g, d * 4 + q, none⟩ = some (.int .i64 (k + ((d * 4 + q : Nat) : Int))) := by
              refine (HO.out.to HB2.out).cell ?_
              rw [icells_get (by rw [mkI_length]; omega), mkI_get (by omega)]
            have hne : (k + ((d * 4 + q : Nat) : Int) != k + ((d * 4 + q : Nat) : Int)) = false := by simp
            go_wp2_with fail
            go_roundw
            case rel => exact ⟨HB2.out, q + 1, by omega, by go_num, int_eq (by omega)⟩
            case measure => simp [intOf]; omega
          · have hq4 : q = 4 := by omega
            subst hq4
            go_wp2_with fail
            go_roundw
            case rel => exact ⟨HB2.out, d + 1, by omega, by go_num, int_eq (by omega)⟩
            case measure => simp [intOf]; omega
    · have hdn : d = n := by omega
      subst hdn
      go_wp2_with fail
      go_ret
      exact ⟨rfl, HB.out⟩
set_option maxHeartbeats 1000000 in
theorem markSet_any (lo hi : Nat) (C : Int) (v : Value) (n : Nat) (cells : List Value) (k : Int) (w : World) (hO : OW w lo hi 77 4 v n cells) (hk : 0 ≤ k) (hk2 : k ≤ 1000000000000) (hl : n ≤ 35184372088832) :
    Calls Try.prog 25 #[.agg #[.int .i64 C, v], .int .i64 k] w fun e w' => e = .returned (.int .i64 (k + (n * 4 : Nat))) ∧ OW w' lo hi 77 4 v n (icells (mkI k (n * 4))) ∧ Only lo hi w w' := by
  obtain ⟨A, c, rfl, -⟩ := hO.form
  have HO := Lib.hid hO; clear hO
  go_enter Try.func25, Try.ntmps25
  go_wp2_with fail
  refine namec1 ?_
  intro W1 b1 hz hb0
  refine (markTileS_any lo hi _ n cells k W1 (HO.out.to hb0) hk hk2 hl).mono ?_
  rintro e w1 ⟨rfl, hO1, hB1⟩
  have HO1 := Lib.hid hO1; have HB1 := Lib.hid ((only_of hb0 lo hi).trans hB1); clear hO1 hB1 hb0 hz b1
  go_wp2_with fail
  go_ret
  exact ⟨rfl, HO1.out, HB1.out⟩
set_option maxHeartbeats 1000000 in
theorem heldSet_any (lo hi : Nat) (C : Int) (v : Value) (n : Nat) (k : Int) (w : World) (hO : OW w lo hi 77 4 v n (icells (mkI k (n * 4)))) (hk : 0 ≤ k) (hk2 : k ≤ 1000000000000) (hl : n ≤ 35184372088832) :
    Calls Try.prog 37 #[.agg #[.int .i64 C, v], .int .i64 k] w fun e w' => e = .returned (.int .i64 (k + (n * 4 : Nat))) ∧ Below w.heap.size w w' := by
  obtain ⟨A, c, rfl, -⟩ := hO.form
  have HO := Lib.hid hO; clear hO
  go_enter Try.func37, Try.ntmps37
  go_wp2_with fail
  refine namec1 ?_
  intro W1 b1 hz hb0
  refine (heldTileS_any lo hi _ n k W1 (HO.out.to hb0) hk hk2 hl).mono ?_
  rintro e w1 ⟨rfl, hB1⟩
  have HB1 := Lib.hid (below_to hb0 hB1); clear hB1 hb0 hz b1
  have hpos : ¬ (k + (n * 4 : Nat) : Int) < 0 := by omega
  go_wp2_with fail
  go_ret
  exact ⟨rfl, HB1.out⟩

/-! the same, how many numbers there are under a name -/
theorem markInt64S_m (lo hi : Nat) (v : Value) (n m : Nat) (cells : List Value) (k : Int) (w : World) (hm : m = n * 1) (hO : OW w lo hi 2 1 v n cells) (hk : 0 ≤ k) (hk2 : k ≤ 1000000000000) (hl : n ≤ 35184372088832) :
    Calls Try.prog 26 #[v, .int .i64 k] w fun e w' => e = .returned (.int .i64 (k + m)) ∧ OW w' lo hi 2 1 v n (icells (mkI k m)) ∧ Only lo hi w w' := by
  have h := markInt64S_any lo hi v n cells k w hO hk hk2 hl
  rw [Nat.mul_one] at hm h; subst hm; exact h
theorem heldInt64S_m (lo hi : Nat) (v : Value) (n m : Nat) (k : Int) (w : World) (hm : m = n * 1) (hO : OW w lo hi 2 1 v n (icells (mkI k m))) (hk : 0 ≤ k) (hk2 : k ≤ 1000000000000) (hl : n ≤ 35184372088832) :
    Calls Try.prog 27 #[v, .int .i64 k] w fun e w' => e = .returned (.int .i64 (k + m)) ∧ Below w.heap.size w w' := by
  have h := heldInt64S_any lo hi v n k w (by rw [← hm]; exact hO) hk hk2 hl
  rw [Nat.mul_one] at hm; subst hm; exact h
theorem markTileS_m (lo hi : Nat) (v : Value) (n m : Nat) (cells : List Value) (k : Int) (w : World) (hm : m = n * 4) (hO : OW w lo hi 77 4 v n cells) (hk : 0 ≤ k) (hk2 : k ≤ 1000000000000) (hl : n ≤ 35184372088832) :
    Calls Try.prog 71 #[v, .int .i64 k] w fun e w' => e = .returned (.int .i64 (k + m)) ∧ OW w' lo hi 77 4 v n (icells (mkI k m)) ∧ Only lo hi w w' := by
  subst hm; exact markTileS_any lo hi v n cells k w hO hk hk2 hl
theorem heldTileS_m (lo hi : Nat) (v : Value) (n m : Nat) (k : Int) (w : World) (hm : m = n * 4) (hO : OW w lo hi 77 4 v n (icells (mkI k m))) (hk : 0 ≤ k) (hk2 : k ≤ 1000000000000) (hl : n ≤ 35184372088832) :
    Calls Try.prog 81 #[v, .int .i64 k] w fun e w' => e = .returned (.int .i64 (k + m)) ∧ Below w.heap.size w w' := by
  subst hm; exact heldTileS_any lo hi v n k w hO hk hk2 hl
theorem markSet_m (lo hi : Nat) (C : Int) (v : Value) (n m : Nat) (cells : List Value) (k : Int) (w : World) (hm : m = n * 4) (hO : OW w lo hi 77 4 v n cells) (hk : 0 ≤ k) (hk2 : k ≤ 1000000000000) (hl : n ≤ 35184372088832) :
    Calls Try.prog 25 #[.agg #[.int .i64 C, v], .int .i64 k] w fun e w' => e = .returned (.int .i64 (k + m)) ∧ OW w' lo hi 77 4 v n (icells (mkI k m)) ∧ Only lo hi w w' := by
  subst hm; exact markSet_any lo hi C v n cells k w hO hk hk2 hl
theorem heldSet_m (lo hi : Nat) (C : Int) (v : Value) (n m : Nat) (k : Int) (w : World) (hm : m = n * 4) (hO : OW w lo hi 77 4 v n (icells (mkI k m))) (hk : 0 ≤ k) (hk2 : k ≤ 1000000000000) (hl : n ≤ 35184372088832) :
    Calls Try.prog 37 #[.agg #[.int .i64 C, v], .int .i64 k] w fun e w' => e = .returned (.int .i64 (k + m)) ∧ Below w.heap.size w w' := by
  subst hm; exact heldSet_any lo hi C v n k w hO hk hk2 hl
end Go.Proofs.Ytenlcakpcbmmdaa

/-
  The walk of the law FnExactCountRowsOver.
-/
namespace Go.Proofs.Ytenlcakpcbmmdaa
open Go Go.RowKit Go.Proofs
set_option linter.unusedVariables false
set_option linter.unusedSimpArgs false

set_option maxHeartbeats 16000000 in
set_option maxRecDepth 100000 in
theorem lawCountRowsOver_any (w : World) (C0 : Int) (A0 : Option Addr) (ts0 : List T4) (n0 c0 : Nat) (hn0 : n0 = ts0.length) (hA0 : RT w A0 ts0) (hnc0 : n0 ≤ c0) (hl0 : n0 ≤ 35184372088832) (hC0 : -9223372036854775808 ≤ C0 ∧ C0 ≤ 9223372036854775807) (A1 : Option Addr) (ts1 : List Int) (n1 c1 : Nat) (hn1 : n1 = ts1.length) (hA1 : RI w A1 ts1) (hnc1 : n1 ≤ c1) (hl1 : n1 ≤ 35184372088832) :
    Calls Try.prog 5 #[.agg #[.int .i64 C0, .slice A0 n0 c0], .slice A1 n1 c1] w fun e w' => e = .returned (.bool true) ∧ Below w.heap.size w w' := by
  subst hn0
  have HA0 := Lib.hid hA0; clear hA0
  subst hn1
  have HA1 := Lib.hid hA1; clear hA1
  by_cases hbig0 : (1048576 : Int) < ((ts1.length : Nat) : Int)
  · go_enter Try.func5, Try.ntmps5
    go_wp2_with fail
    go_ret
    exact ⟨rfl, by simpa using (Below.refl _ _).alloc (Nat.le_refl _) _⟩
  · replace hbig0 : ((ts1.length : Nat) : Int) ≤ 1048576 := by omega
    by_cases hbig1 : (1048576 : Int) < ((ts0.length : Nat) : Int)
    · go_enter Try.func5, Try.ntmps5
      go_wp2_with fail
      refine namec1 ?_
      intro w1 b0 hz hB
      have tw1 : w.heap.size + 1 ≤ w1.heap.size := by omega
      clear hz
      have sw1 : w.heap.size ≤ w1.heap.size := hB.size
      have hE := Lib.hid (hB)
      clear hB
      refine (szSet_any C0 A0 ts0.length c0 (1048576) w1 (by omega) (by omega) (by omega)).mono ?_
      rintro e w2 ⟨rfl, hB⟩
      rw [if_pos (show (1048576 : Int) < (ts0.length : Nat) by omega)]
      replace b0 := b0.below hB b0.lt
      have sw2 : w1.heap.size ≤ w2.heap.size := hB.size
      replace hE := Lib.hid (below_to hE.out hB)
      clear hB
      go_wp2_with fail
      go_ret
      exact ⟨rfl, hE.out⟩
    · replace hbig1 : ((ts0.length : Nat) : Int) ≤ 1048576 := by omega
      obtain ⟨r_, hr_⟩ : ∃ r, overR C0 ts0 ts1 = r := ⟨_, rfl⟩
      obtain ⟨r1, r2⟩ := r_
      have HR := Lib.hid hr_; clear hr_
      go_enter Try.func5, Try.ntmps5
      go_wp2_with fail
      refine namec1 ?_
      intro w1 b0 hz hB
      have tw1 : w.heap.size + 1 ≤ w1.heap.size := by omega
      clear hz
      have sw1 : w.heap.size ≤ w1.heap.size := hB.size
      have hE := Lib.hid (hB)
      clear hB
      refine (szSet_any C0 A0 ts0.length c0 (1048576) w1 (by omega) (by omega) (by omega)).mono ?_
      rintro e w2 ⟨rfl, hB⟩
      rw [if_neg (show ¬ (1048576 : Int) < (ts0.length : Nat) by omega)]
      replace b0 := b0.below hB b0.lt
      have sw2 : w1.heap.size ≤ w2.heap.size := hB.size
      replace hE := Lib.hid (below_to hE.out hB)
      clear hB
      have l0 := b0.lt
      have c0_0 : w2.cell? ⟨w.heap.size, 0, none⟩ = some (.int .i64 C0) := b0.cell rfl
      have c0_1 : w2.cell? ⟨w.heap.size, 1, none⟩ = some (.slice A0 ts0.length c0) := b0.cell rfl
      go_wp2_with fail
      clear l0 c0_0 c0_1
      refine (toSet_any C0 A0 ts0 ts0.length c0 w2 rfl (HA0.out.below hE.out) (by omega)).mono ?_
      rintro e w3 ⟨v_, rfl, hO, hB⟩
      obtain ⟨A1_, c1_, rfl, -, -⟩ := hO.reads
      have O1 := Lib.hid (OW.of hO)
      clear hO
      replace b0 := b0.below hB b0.lt
      have sw3 : w2.heap.size ≤ w3.heap.size := hB.size
      replace hE := Lib.hid (below_to hE.out hB)
      clear hB
      have l0 := b0.lt
      have c0_0 : w3.cell? ⟨w.heap.size, 0, none⟩ = some (.int .i64 C0) := b0.cell rfl
      have c0_1 : w3.cell? ⟨w.heap.size, 1, none⟩ = some (.slice A0 ts0.length c0) := b0.cell rfl
      go_wp2_with fail
      clear l0 c0_0 c0_1
      refine (toInt64S_any A1 ts1 ts1.length c1 w3 rfl (HA1.out.below hE.out) (by omega)).mono ?_
      rintro e w4 ⟨v_, rfl, hO, hB⟩
      obtain ⟨A2_, c2_, rfl, -, -⟩ := hO.reads
      have O2 := Lib.hid (OW.of hO)
      clear hO
      replace b0 := b0.below hB b0.lt
      replace O1 := Lib.hid (O1.out.to hB)
      have sw4 : w3.heap.size ≤ w4.heap.size := hB.size
      replace hE := Lib.hid (below_to hE.out hB)
      clear hB
      have l0 := b0.lt
      have c0_0 : w4.cell? ⟨w.heap.size, 0, none⟩ = some (.int .i64 C0) := b0.cell rfl
      have c0_1 : w4.cell? ⟨w.heap.size, 1, none⟩ = some (.slice A0 ts0.length c0) := b0.cell rfl
      go_wp2_with fail
      clear l0 c0_0 c0_1
      refine (specCountRowsOver_any C0 A1_ ts0 ts0.length c1_ A2_ ts1 ts1.length c2_ w4 rfl (rt_of O1.out rfl) (le_of O1.out) (by omega) rfl (ri_of O2.out rfl) (le_of O2.out) (by omega)).mono ?_
      rintro e w5 ⟨rfl, hB⟩
      rw [HR.out]
      simp only [pairI]
      replace b0 := b0.below hB b0.lt
      replace O1 := Lib.hid (O1.out.to hB)
      replace O2 := Lib.hid (O2.out.to hB)
      have sw5 : w4.heap.size ≤ w5.heap.size := hB.size
      replace hE := Lib.hid (below_to hE.out hB)
      clear hB
      have l0 := b0.lt
      have c0_0 : w5.cell? ⟨w.heap.size, 0, none⟩ = some (.int .i64 C0) := b0.cell rfl
      have c0_1 : w5.cell? ⟨w.heap.size, 1, none⟩ = some (.slice A0 ts0.length c0) := b0.cell rfl
      go_wp2_with fail
      clear l0 c0_0 c0_1
      refine (toSet_any C0 A0 ts0 ts0.length c0 w5 rfl (HA0.out.below hE.out) (by omega)).mono ?_
      rintro e w6 ⟨v_, rfl, hO, hB⟩
      obtain ⟨A3_, c3_, rfl, -, -⟩ := hO.reads
      have O3 := Lib.hid (OW.of hO)
      clear hO
      replace b0 := b0.below hB b0.lt
      replace O1 := Lib.hid (O1.out.to hB)
      replace O2 := Lib.hid (O2.out.to hB)
      have sw6 : w5.heap.size ≤ w6.heap.size := hB.size
      replace hE := Lib.hid (below_to hE.out hB)
      clear hB
      have l0 := b0.lt
      have c0_0 : w6.cell? ⟨w.heap.size, 0, none⟩ = some (.int .i64 C0) := b0.cell rfl
      have c0_1 : w6.cell? ⟨w.heap.size, 1, none⟩ = some (.slice A0 ts0.length c0) := b0.cell rfl
      go_wp2_with fail
      clear l0 c0_0 c0_1
      refine namec1 ?_
      intro w7 b1 hz hB
      have tw7 : w6.heap.size + 1 ≤ w7.heap.size := by omega
      clear hz
      replace b0 := b0.below hB b0.lt
      replace O1 := Lib.hid (O1.out.to hB)
      replace O2 := Lib.hid (O2.out.to hB)
      replace O3 := Lib.hid (O3.out.to hB)
      have sw7 : w6.heap.size ≤ w7.heap.size := hB.size
      replace hE := Lib.hid (below_to hE.out hB)
      clear hB
      refine (toInt64S_any A1 ts1 ts1.length c1 w7 rfl (HA1.out.below hE.out) (by omega)).mono ?_
      rintro e w8 ⟨v_, rfl, hO, hB⟩
      obtain ⟨A4_, c4_, rfl, -, -⟩ := hO.reads
      have O4 := Lib.hid (OW.of hO)
      clear hO
      replace b0 := b0.below hB b0.lt
      replace b1 := b1.below hB b1.lt
      replace O1 := Lib.hid (O1.out.to hB)
      replace O2 := Lib.hid (O2.out.to hB)
      replace O3 := Lib.hid (O3.out.to hB)
      have sw8 : w7.heap.size ≤ w8.heap.size := hB.size
      replace hE := Lib.hid (below_to hE.out hB)
      clear hB
      have l0 := b0.lt
      have c0_0 : w8.cell? ⟨w.heap.size, 0, none⟩ = some (.int .i64 C0) := b0.cell rfl
      have c0_1 : w8.cell? ⟨w.heap.size, 1, none⟩ = some (.slice A0 ts0.length c0) := b0.cell rfl
      have l1 := b1.lt
      have c1_0 : w8.cell? ⟨w6.heap.size, 0, none⟩ = some (.int .i64 C0) := b1.cell rfl
      have c1_1 : w8.cell? ⟨w6.heap.size, 1, none⟩ = some (.slice A3_ ts0.length c3_) := b1.cell rfl
      go_wp2_with fail
      clear l0 c0_0 c0_1 l1 c1_0 c1_1
      refine (implCountRowsOver_any C0 A3_ ts0 ts0.length c3_ A4_ ts1 ts1.length c4_ w8 rfl (rt_of O3.out rfl) (le_of O3.out) (by omega) rfl (ri_of O4.out rfl) (le_of O4.out) (by omega)).mono ?_
      rintro e w9 ⟨rfl, hB⟩
      rw [HR.out]
      simp only [pairI]
      replace b0 := b0.below hB b0.lt
      replace b1 := b1.below hB b1.lt
      replace O1 := Lib.hid (O1.out.to hB)
      replace O2 := Lib.hid (O2.out.to hB)
      replace O3 := Lib.hid (O3.out.to hB)
      replace O4 := Lib.hid (O4.out.to hB)
      have sw9 : w8.heap.size ≤ w9.heap.size := hB.size
      replace hE := Lib.hid (below_to hE.out hB)
      clear hB
      have l0 := b0.lt
      have c0_0 : w9.cell? ⟨w.heap.size, 0, none⟩ = some (.int .i64 C0) := b0.cell rfl
      have c0_1 : w9.cell? ⟨w.heap.size, 1, none⟩ = some (.slice A0 ts0.length c0) := b0.cell rfl
      have l1 := b1.lt
      have c1_0 : w9.cell? ⟨w6.heap.size, 0, none⟩ = some (.int .i64 C0) := b1.cell rfl
      have c1_1 : w9.cell? ⟨w6.heap.size, 1, none⟩ = some (.slice A3_ ts0.length c3_) := b1.cell rfl
      go_wp2_with fail
      clear l0 c0_0 c0_1 l1 c1_0 c1_1
      have hD : Below w9.heap.size w9 w9.drew := (Below.refl _ _).drew
      replace b0 := b0.below hD b0.lt
      replace b1 := b1.below hD b1.lt
      replace O1 := Lib.hid (O1.out.to hD)
      replace O2 := Lib.hid (O2.out.to hD)
      replace O3 := Lib.hid (O3.out.to hD)
      replace O4 := Lib.hid (O4.out.to hD)
      replace hE := Lib.hid (below_to hE.out hD)
      clear hD
      have d1_w9 : w9.heap.size ≤ w9.drew.heap.size := Nat.le_refl _
      have d2_w9 : w9.drew.heap.size ≤ w9.heap.size := Nat.le_refl _
      go_region_held3 (fun w_ => w_.cell? ⟨w.heap.size, 0, none⟩ = some (.int .i64 C0) ∧ w_.cell? ⟨w.heap.size, 1, none⟩ = some (.slice A0 ts0.length c0) ∧ w_.cell? ⟨w6.heap.size, 0, none⟩ = some (.int .i64 C0) ∧ w_.cell? ⟨w6.heap.size, 1, none⟩ = some (.slice A3_ ts0.length c3_)) (first | exact ⟨b0.cell rfl, b0.cell rfl, b1.cell rfl, b1.cell rfl⟩)
        (first
          | (go_at_call 14; refine (toSet_any C0 A0 ts0 ts0.length c0 w9.drew rfl (HA0.out.below hE.out) (by omega)).mono ?_; rintro e w10 ⟨v_, rfl, hO, hB⟩; obtain ⟨A5_, c5_, rfl, -, -⟩ := hO.reads; have O5 := Lib.hid (OW.of hO); clear hO; replace b0 := b0.below hB b0.lt; replace b1 := b1.below hB b1.lt; replace O1 := Lib.hid (O1.out.to hB); replace O2 := Lib.hid (O2.out.to hB); replace O3 := Lib.hid (O3.out.to hB); replace O4 := Lib.hid (O4.out.to hB); have sw10 : w9.drew.heap.size ≤ w10.heap.size := hB.size; replace hE := Lib.hid (below_to hE.out hB); clear hB)
          | (go_at_call 16; refine (eqSet_any C0 C0 A3_ A5_ ts0 ts0 ts0.length ts0.length c3_ c5_ w10 rfl rfl (rt_of O3.out rfl) (rt_of O5.out rfl) (by omega) (by omega)).mono ?_; rintro e w11 ⟨rfl, hB⟩; simp only [decide_true, Bool.and_self]; replace b0 := b0.below hB b0.lt; replace b1 := b1.below hB b1.lt; replace O1 := Lib.hid (O1.out.to hB); replace O2 := Lib.hid (O2.out.to hB); replace O3 := Lib.hid (O3.out.to hB); replace O4 := Lib.hid (O4.out.to hB); replace O5 := Lib.hid (O5.out.to hB); have sw11 : w10.heap.size ≤ w11.heap.size := hB.size; replace hE := Lib.hid (below_to hE.out hB); clear hB))
      have l0 := b0.lt
      have c0_0 : w11.cell? ⟨w.heap.size, 0, none⟩ = some (.int .i64 C0) := b0.cell rfl
      have c0_1 : w11.cell? ⟨w.heap.size, 1, none⟩ = some (.slice A0 ts0.length c0) := b0.cell rfl
      have l1 := b1.lt
      have c1_0 : w11.cell? ⟨w6.heap.size, 0, none⟩ = some (.int .i64 C0) := b1.cell rfl
      have c1_1 : w11.cell? ⟨w6.heap.size, 1, none⟩ = some (.slice A3_ ts0.length c3_) := b1.cell rfl
      go_wp2_with fail
      clear l0 c0_0 c0_1 l1 c1_0 c1_1
      refine (toInt64S_any A1 ts1 ts1.length c1 w11 rfl (HA1.out.below hE.out) (by omega)).mono ?_
      rintro e w12 ⟨v_, rfl, hO, hB⟩
      obtain ⟨A6_, c6_, rfl, -, -⟩ := hO.reads
      have O6 := Lib.hid (OW.of hO)
      clear hO
      replace b0 := b0.below hB b0.lt
      replace b1 := b1.below hB b1.lt
      replace O1 := Lib.hid (O1.out.to hB)
      replace O2 := Lib.hid (O2.out.to hB)
      replace O3 := Lib.hid (O3.out.to hB)
      replace O4 := Lib.hid (O4.out.to hB)
      replace O5 := Lib.hid (O5.out.to hB)
      have sw12 : w11.heap.size ≤ w12.heap.size := hB.size
      replace hE := Lib.hid (below_to hE.out hB)
      clear hB
      have l0 := b0.lt
      have c0_0 : w12.cell? ⟨w.heap.size, 0, none⟩ = some (.int .i64 C0) := b0.cell rfl
      have c0_1 : w12.cell? ⟨w.heap.size, 1, none⟩ = some (.slice A0 ts0.length c0) := b0.cell rfl
      have l1 := b1.lt
      have c1_0 : w12.cell? ⟨w6.heap.size, 0, none⟩ = some (.int .i64 C0) := b1.cell rfl
      have c1_1 : w12.cell? ⟨w6.heap.size, 1, none⟩ = some (.slice A3_ ts0.length c3_) := b1.cell rfl
      go_wp2_with fail
      clear l0 c0_0 c0_1 l1 c1_0 c1_1
      refine (eqInt64S_any A4_ A6_ ts1 ts1 ts1.length ts1.length c4_ c6_ w12 rfl rfl (ri_of O4.out rfl) (ri_of O6.out rfl) (by omega) (by omega)).mono ?_
      rintro e w13 ⟨rfl, hB⟩
      simp only [decide_true, Bool.and_self]
      replace b0 := b0.below hB b0.lt
      replace b1 := b1.below hB b1.lt
      replace O1 := Lib.hid (O1.out.to hB)
      replace O2 := Lib.hid (O2.out.to hB)
      replace O3 := Lib.hid (O3.out.to hB)
      replace O4 := Lib.hid (O4.out.to hB)
      replace O5 := Lib.hid (O5.out.to hB)
      replace O6 := Lib.hid (O6.out.to hB)
      have sw13 : w12.heap.size ≤ w13.heap.size := hB.size
      replace hE := Lib.hid (below_to hE.out hB)
      clear hB
      go_wp2_with fail
      go_ret
      exact ⟨rfl, hE.out⟩
end Go.Proofs.Ytenlcakpcbmmdaa

/-
  Arguments opened: what can be read as data of type laws.Set, []int64, [][]int64 stands so in memory.
-/
namespace Go.Proofs.Ytenlcakpcbmmdaa
open Go Go.RowKit Go.Proofs
open Go.ChangeShapes Go.WideShapes Go.ChangeAt Go.Deep
set_option linter.unusedVariables false
set_option linter.unusedSimpArgs false

section
variable {H : Type} {enc : TypeId × Value → H} {P : Program} {w : World} {base : Nat} {held : Bool} {spare : Nat → Bool}

theorem open_tile {e i : TypeId} {fuel : Nat} {cs : List Value} {x : DataW H × List MemPlace} (he : P.underlying e = some (.array 4 i)) (hi : P.underlying i = some (.int .i64)) (ce : P.cellsOf e = 4) (ci : P.cellsOf i = 1)
    (h : DataW.trod enc P w base spare held fuel e cs = some x) : ∃ t : T4, cs = t.arr.toList := by
  cases fuel with
  | zero => simp [DataW.trod] at h
  | succ fuel =>
    simp only [DataW.trod, he] at h
    split at h
    · rename_i hl
      rw [ce] at hl
      obtain ⟨ys, hys, -⟩ := Option.map_eq_some_iff.1 h
      have each : ∀ j, j < 4 → ∃ n, cs[j]? = some (.int .i64 n) := by
        intro j hj
        have hg := mapM_some_get hys j j (by simp [hj])
        simp only [ci, Nat.mul_one] at hg
        have hlen : ys.length = 4 := by simpa using mapM_some_length hys
        rw [List.getElem?_eq_getElem (show j < ys.length by omega)] at hg
        have hd : (cs.drop j).take 1 = [cs[j]'(by omega)] := by
          rw [List.drop_eq_getElem_cons (by omega), List.take_succ_cons, List.take_zero]
        rw [hd] at hg
        obtain ⟨n, hn, -, -⟩ := DataW.trod_int hi hg
        exact ⟨n, by rw [List.getElem?_eq_getElem (by omega)]; simpa using hn⟩
      obtain ⟨a, ha⟩ := each 0 (by omega); obtain ⟨b, hb⟩ := each 1 (by omega); obtain ⟨c, hc⟩ := each 2 (by omega); obtain ⟨d, hd⟩ := each 3 (by omega)
      refine ⟨⟨a, b, c, d⟩, ?_⟩
      match cs, hl, ha, hb, hc, hd with
      | [v0, v1, v2, v3], _, ha, hb, hc, hd =>
        simp at ha hb hc hd
        subst ha hb hc hd
        rfl
    · cases h

theorem addr_plain {w : World} {a : Addr} {v : Value} (h : w.cell? a = some v) : a = ⟨a.block, a.off, none⟩ := by
  obtain ⟨b, o, s⟩ := a
  cases s with
  | none => rfl
  | some s =>
    simp only [World.cell?] at h
    split at h
    · simp at h
    · cases h
theorem add_plain (b o n : Nat) : (⟨b, o, none⟩ : Addr).add n = ⟨b, o + n, none⟩ := by unfold Addr.add; split <;> simp_all

theorem open_tiles {t e i : TypeId} {fuel : Nat} {cs : List Value} {x : DataW H × List MemPlace} (ht : P.underlying t = some (.slice e)) (he : P.underlying e = some (.array 4 i)) (hi : P.underlying i = some (.int .i64)) (ce : P.cellsOf e = 4) (ci : P.cellsOf i = 1)
    (h : DataW.trod enc P w base (fun _ => true) held fuel t cs = some x) :
    ∃ A n c ts, cs = [.slice A n c] ∧ n = ts.length ∧ RT w A ts ∧ n ≤ c ∧ (n = 0 ∨ ∃ el sp, x.1 = .slice el sp ∧ n ≤ el.length + sp.length) := by
  rcases open_slice ht h with ⟨rfl, rfl⟩ | ⟨a, len, cap, m, n, D, Pl, rfl, hb, hl, hm, hmm, rfl, hx⟩
  · exact ⟨none, 0, 0, [], rfl, rfl, fun k hk => by simp at hk, Nat.le_refl _, .inl rfl⟩
  · simp only [if_true] at hmm
    subst hmm
    have each : ∀ k, k < len → ∃ t : T4, a = ⟨a.block, a.off, none⟩ ∧ a.block < w.heap.size ∧ ∀ j, j < 4 → w.cell? ⟨a.block, a.off + k * 4 + j, none⟩ = some (.int .i64 (t.get j)) := by
      intro k hk
      obtain ⟨cs', hc, htr⟩ := hx k (by omega)
      rw [ce] at hc
      obtain ⟨t, rfl⟩ := open_tile he hi ce ci htr
      obtain ⟨-, -, hcell⟩ := World.cells?_some hc
      have hg (j : Nat) (hj : j < 4) : w.cell? ((a.add (k * 4)).add j) = some (.int .i64 (t.get j)) := by
        rw [hcell j hj, Array.getElem?_toList]; exact t.cell j hj
      have ha : a = ⟨a.block, a.off, none⟩ := by
        obtain ⟨cs0, hc0, htr0⟩ := hx 0 (by omega)
        obtain ⟨t0, rfl⟩ := open_tile he hi ce ci htr0
        rw [ce] at hc0
        obtain ⟨-, -, hcell0⟩ := World.cells?_some hc0
        have := hcell0 0 (by omega)
        rw [Array.getElem?_toList, t0.cell 0 (by omega)] at this
        have he : (a.add (0 * 4)).add 0 = a := by simp [Addr.add]
        rw [he] at this
        exact addr_plain this
      refine ⟨t, ha, ?_, fun j hj => ?_⟩
      · have := World.block_lt_of_cell? w _ (hg 0 (by omega))
        rw [ha, add_plain, add_plain] at this
        exact this
      · have := hg j hj
        rw [ha, add_plain, add_plain] at this
        exact this
    obtain ⟨f, hf⟩ := choose_lt each
    refine ⟨some a, len, m, (List.range len).map f, rfl, by simp, fun k hk => ?_, hl, .inr ⟨_, _, rfl, by simp⟩⟩
    have hk' : k < len := by simpa using hk
    obtain ⟨ha, hlt, hc⟩ := hf k hk'
    have htk : tk ((List.range len).map f) k = f k := by simp [tk, hk']
    rw [htk]
    exact ⟨a.block, a.off, by rw [← ha], hlt, hc 0 (by omega), hc 1 (by omega), hc 2 (by omega), hc 3 (by omega)⟩

/-- an argument of type laws.Set -/
theorem open_set {r : Reach} {b0 : Nat} {t i : TypeId} {u e : TypeId} {f0 f1 : Field} {v : Value} {d : DataW H} {ps : List MemPlace} (ht : P.underlying t = some (.struct #[f0, f1])) (o0 : f0.offset = 0) (o1 : f1.offset = 1) (t0 : f0.type = i) (t1 : f1.type = u)
    (hu : P.underlying u = some (.slice e)) (he : P.underlying e = some (.array 4 i)) (hi : P.underlying i = some (.int .i64)) (ct : P.cellsOf t = 2) (cu : P.cellsOf u = 1) (ce : P.cellsOf e = 4) (ci : P.cellsOf i = 1) (hby : P.bytesOf e = 32)
    (hval : Value.okWide P w r b0 t v) (h : DataW.Trod enc P w base (fun _ => true) held t v d ps) {ts0 : List TypeId} {ds0 : List (DataW H)} {j : Nat} (hj : ts0[j]? = some t) (hd : ds0[j]? = some d)
    (hsz : (DataW.weightsEach P ts0 ds0).all (· ≤ reachBytes) = true) :
    ∃ C A n c ts, v = .agg #[.int .i64 C, .slice A n c] ∧ n = ts.length ∧ RT w A ts ∧ n ≤ c ∧ n ≤ 35184372088832 ∧ (Lit.int .i64 C).wf = true := by
  unfold Value.okWide at hval
  rw [ht] at hval
  obtain ⟨cells, rfl, hsize, -⟩ := hval
  rw [ct] at hsize
  obtain ⟨fuel, hf⟩ := h
  cases fuel with
  | zero => simp [DataW.trod] at hf
  | succ fuel =>
    simp only [Value.cells] at hf
    simp only [DataW.trod, ht] at hf
    split at hf
    · rename_i hl
      obtain ⟨ys, hys, hd'⟩ := Option.map_eq_some_iff.1 hf
      obtain ⟨x0, hx0⟩ : ∃ x0, ys[0]? = some x0 := ⟨_, List.getElem?_eq_getElem (by have := mapM_some_length hys; simp at this; omega)⟩
      obtain ⟨x1, hx1⟩ : ∃ x1, ys[1]? = some x1 := ⟨_, List.getElem?_eq_getElem (by have := mapM_some_length hys; simp at this; omega)⟩
      have hylen : ys.length = 2 := by simpa using mapM_some_length hys
      have h0 := mapM_some_get hys 0 f0 (by simp)
      have h1 := mapM_some_get hys 1 f1 (by simp)
      rw [o0, t0, ci, hx0] at h0
      rw [o1, t1, cu, hx1] at h1
      obtain ⟨v0, v1, hcl⟩ : ∃ v0 v1, cells.toList = [v0, v1] := by
        match hc : cells.toList, (by simpa using hsize : cells.toList.length = 2) with
        | [v0, v1], _ => exact ⟨v0, v1, rfl⟩
      rw [hcl] at h0 h1
      simp only [List.drop_zero, List.take_succ_cons, List.take_zero, List.drop_succ_cons] at h0 h1
      obtain ⟨C, hC, -, hwf⟩ := DataW.trod_int hi h0
      obtain ⟨A, n, c, ts, hA, hn, hrt, hnc, hwt⟩ := open_tiles hu he hi ce ci h1
      simp at hC hA
      subst hC hA
      refine ⟨C, A, n, c, ts, ?_, hn, hrt, hnc, ?_, hwf⟩
      · congr 1
        apply Array.toList_inj.1 
        rw [hcl]
      · rcases hwt with h0 | ⟨el, sp, hx, hle⟩
        · omega
        · have hde : d = .agg [x0.1, x1.1] := by
            have := (Prod.mk.inj hd').1
            rw [← this]
            match ys, hylen, hx0, hx1 with
            | [y0, y1], _, hx0, hx1 =>
              simp at hx0 hx1
              subst hx0 hx1
              rfl
          have := List.all_eq_true.1 hsz _ (DataW.weights_mem_each hj hd ((el.length + sp.length) * P.bytesOf e) (by
            rw [hde, hx]
            simp [DataW.weights, ht, DataW.weightsEach, t1, hu]))
          simp only [decide_eq_true_eq, hby, reachBytes] at this
          omega
    · cases hf

theorem open_ints0 {t e : TypeId} {fuel : Nat} {cs : List Value} {x : DataW H × List MemPlace} (ht : P.underlying t = some (.slice e)) (he : P.underlying e = some (.int .i64)) (ce : P.cellsOf e = 1)
    (h : DataW.trod enc P w base (fun _ => true) held fuel t cs = some x) :
    ∃ A n c ts, cs = [.slice A n c] ∧ n = ts.length ∧ RI w A ts ∧ n ≤ c ∧ (n = 0 ∨ ∃ el sp, x.1 = .slice el sp ∧ n ≤ el.length + sp.length) := by
  rcases open_slice ht h with ⟨rfl, rfl⟩ | ⟨a, len, cap, m, n, D, Pl, rfl, hb, hl, hm, hmm, rfl, hx⟩
  · exact ⟨none, 0, 0, [], rfl, rfl, fun k hk => by simp at hk, Nat.le_refl _, .inl rfl⟩
  · simp only [if_true] at hmm
    subst hmm
    have one : ∀ k, k < m → ∃ x : Int, w.cell? (a.add k) = some (.int .i64 x) := by
      intro k hk
      obtain ⟨cs', hc, htr⟩ := hx k hk
      rw [ce, Nat.mul_one] at hc
      obtain ⟨-, hlen, hcell⟩ := World.cells?_some hc
      obtain ⟨x, hx', -, -⟩ := DataW.trod_int he htr
      have := hcell 0 (by omega)
      rw [hx'] at this
      have ha : (a.add k).add 0 = a.add k := by simp [Addr.add]
      rw [ha] at this
      exact ⟨x, by simpa using this⟩
    have each : ∀ k, k < len → ∃ x : Int, a = ⟨a.block, a.off, none⟩ ∧ a.block < w.heap.size ∧ w.cell? ⟨a.block, a.off + k, none⟩ = some (.int .i64 x) := by
      intro k hk
      obtain ⟨x, hx⟩ := one k (by omega)
      obtain ⟨y, hy⟩ := one 0 (by omega)
      have h0 : a.add 0 = a := by simp [Addr.add]
      rw [h0] at hy
      have ha := addr_plain hy
      have hlt := World.block_lt_of_cell? w _ hy
      refine ⟨x, ha, hlt, ?_⟩
      rw [ha, add_plain] at hx
      exact hx
    obtain ⟨f, hf⟩ := choose_lt each
    refine ⟨some a, len, m, (List.range len).map f, rfl, by simp, fun k hk => ?_, hl, .inr ⟨_, _, rfl, by simp⟩⟩
    have hk' : k < len := by simpa using hk
    obtain ⟨ha, hlt, hc⟩ := hf k hk'
    have htk : ik ((List.range len).map f) k = f k := by simp [ik, hk']
    rw [htk]
    exact ⟨a.block, a.off, by rw [← ha], hlt, hc⟩
/-- an argument of type []int64 -/
theorem open_ints_arg {r : Reach} {b0 : Nat} {t e : TypeId} {v : Value} {d : DataW H} {ps : List MemPlace} (ht : P.underlying t = some (.slice e)) (he : P.underlying e = some (.int .i64)) (ce : P.cellsOf e = 1) (hby : P.bytesOf e = 8)
    (hval : Value.okWide P w r b0 t v) (h : DataW.Trod enc P w base (fun _ => true) held t v d ps) {ts0 : List TypeId} {ds0 : List (DataW H)} {j : Nat} (hj : ts0[j]? = some t) (hd : ds0[j]? = some d)
    (hsz : (DataW.weightsEach P ts0 ds0).all (· ≤ reachBytes) = true) :
    ∃ A n c ts, v = .slice A n c ∧ n = ts.length ∧ RI w A ts ∧ n ≤ c ∧ n ≤ 35184372088832 := by
  obtain ⟨a, len, cap, rfl⟩ := okWide_slice ht hval
  obtain ⟨fuel, hf⟩ := h
  obtain ⟨A, n, c, ts, hA, hn, hrt, hnc, hwt⟩ := open_ints0 ht he ce hf
  simp [Value.cells] at hA
  obtain ⟨rfl, rfl, rfl⟩ := hA
  refine ⟨_, _, _, ts, rfl, hn, hrt, hnc, ?_⟩
  rcases hwt with h0 | ⟨el, sp, hx, hle⟩
  · omega
  · have := List.all_eq_true.1 hsz _ (DataW.weights_mem_each hj hd ((el.length + sp.length) * P.bytesOf e) (by
      simp only at hx
      rw [hx]
      simp [DataW.weights, ht]))
    simp only [decide_eq_true_eq, hby, reachBytes] at this
    omega
end
theorem wf64 {n : Int} (h : (Lit.int .i64 n).wf = true) : -9223372036854775808 ≤ n ∧ n ≤ 9223372036854775807 := by
  simp [Lit.wf] at h
  have e : IntKind.i64.min = -9223372036854775808 := by decide
  rw [e] at h
  exact h
end Go.Proofs.Ytenlcakpcbmmdaa

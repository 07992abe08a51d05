/-
  Parts of the proof, in their order: QImplSetCodeAtImplPlanCode1, QImplPlanCode, Law3.
-/
import Derived.Test.YtcaikaflpmaocaaPk7
import Derived.Test.YtcaikaflpmaocaaPk8
namespace Go.Proofs.Ytcaikaflpmaocaa.Q
open Go.RowKit Go.Proofs.YtcaikaflpmaocaaW.PrintWords Go.Proofs.YtcaikaflpmaocaaW.PrintLast Go.Proofs.YtcaikaflpmaocaaW.PrintMore
attribute [local go_sem] max2_int min2_int max_two min_two max_three min_three max_four min_four
set_option linter.unusedVariables false
set_option linter.unusedSimpArgs false
def impl_setCode_at_impl_planCode_1.f (k : Nat) (a0_0 : Int) (l0_1 : List (S85)) (a1_0_0 : Int) (l1_0_1 : List (S85)) (l1_1_0 : List (List Int)) (l1_2_0 : List (List Int)) : Option (Int) := (impl_IsSet.f a0_0 l0_1).bind fun t337 => (if t337 = true then ((impl_planCode_1.f k a1_0_0 l1_0_1 l1_1_0 l1_2_0).bind fun t338 => (if t338 = true then (some 0) else (some 2))) else (some 1))
theorem impl_setCode_at_impl_planCode_1.mono : ∀ a0 a1 a2 a3 a4 a5 k, LeO (impl_setCode_at_impl_planCode_1.f k a0 a1 a2 a3 a4 a5) (impl_setCode_at_impl_planCode_1.f (k + 1) a0 a1 a2 a3 a4 a5) := by
 intro a0 a1 a2 a3 a4 a5 k
 unfold impl_setCode_at_impl_planCode_1.f
 repeat' first
   | (with_reducible exact impl_planCode_1.mono _ _ _ _ _)
   | (with_reducible exact LeO.refl _)
   | (with_reducible exact LeO.none _)
   | (with_reducible refine LeO.ite ?_ ?_)
   | (with_reducible refine LeO.bind ?_ (fun _ => ?_))
   | exact impl_planCode_1.mono _ _ _ _ _
   | exact LeO.none _
   | refine LeO.ite ?_ ?_
   | refine LeO.bind ?_ (fun _ => ?_)
set_option maxHeartbeats 8000000 in
set_option maxRecDepth 100000 in
theorem impl_setCode_at_impl_planCode_1.calls (k : Nat) (a0_0 : Int) (A0_1 : Option Addr) (c0_1 : Nat) (l0_1 : List (S85)) (g1_0_ : Nat) (a1_0_0 : Int) (A1_0_1 : Option Addr) (c1_0_1 : Nat) (l1_0_1 : List (S85)) (g1_1_ : Nat) (A1_1_0 : Option Addr) (c1_1_0 : Nat) (l1_1_0 : List (List Int)) (g1_2_ : Nat) (A1_2_0 : Option Addr) (c1_2_0 : Nat) (l1_2_0 : List (List Int)) (r : Int) (w : World) (hr0_1 : Kd.C k85 w A0_1 l0_1.length l0_1) (hc0_1 : l0_1.length ≤ c0_1) (hr1_0_1 : Kd.C k85 w A1_0_1 l1_0_1.length l1_0_1) (hc1_0_1 : l1_0_1.length ≤ c1_0_1) (hr1_1_0 : Kd.C (Kd.slice 2 (Kd.int .i64)) w A1_1_0 l1_1_0.length l1_1_0) (hc1_1_0 : l1_1_0.length ≤ c1_1_0) (hr1_2_0 : Kd.C (Kd.slice 2 (Kd.int .i64)) w A1_2_0 l1_2_0.length l1_2_0) (hc1_2_0 : l1_2_0.length ≤ c1_2_0) (hb1_0_ : w.heap[g1_0_]? = some (.cells #[.int .i64 a1_0_0, .slice A1_0_1 l1_0_1.length c1_0_1] 36 (0, 0))) (hb1_1_ : w.heap[g1_1_]? = some (.cells #[.slice A1_1_0 l1_1_0.length c1_1_0] 22 (0, 0))) (hb1_2_ : w.heap[g1_2_]? = some (.cells #[.slice A1_2_0 l1_2_0.length c1_2_0] 22 (0, 0))) (h : impl_setCode_at_impl_planCode_1.f k a0_0 l0_1 a1_0_0 l1_0_1 l1_1_0 l1_2_0 = some r) :
  Calls Try.prog 50 #[.agg #[.int .i64 a0_0, .slice A0_1 l0_1.length c0_1], .func (.func 78) #[] #[.pointer (some ⟨g1_0_, 0, none⟩), .pointer (some ⟨g1_1_, 0, none⟩), .pointer (some ⟨g1_2_, 0, none⟩)]] w fun e w' => e = .returned (.int .i64 r) ∧ Below w.heap.size w w' := by
 have hu36 := Try.underlying36
 have HR0_1 := Aside0.mk hr0_1
 have HC0_1 := Aside0.mk hc0_1
 clear hr0_1 hc0_1
 have HR1_0_1 := Aside0.mk hr1_0_1
 have HC1_0_1 := Aside0.mk hc1_0_1
 clear hr1_0_1 hc1_0_1
 have HR1_1_0 := Aside0.mk hr1_1_0
 have HC1_1_0 := Aside0.mk hc1_1_0
 clear hr1_1_0 hc1_1_0
 have HR1_2_0 := Aside0.mk hr1_2_0
 have HC1_2_0 := Aside0.mk hc1_2_0
 clear hr1_2_0 hc1_2_0
 have BK90020 := Aside0.mk hb1_0_
 clear hb1_0_
 have BK90021 := Aside0.mk hb1_1_
 clear hb1_1_
 have BK90022 := Aside0.mk hb1_2_
 clear hb1_2_
 have HB := Aside0.mk (Below.refl w.heap.size w)
 have H : ((impl_IsSet.f a0_0 l0_1).bind fun t337 => (if t337 = true then ((impl_planCode_1.f k a1_0_0 l1_0_1 l1_1_0 l1_2_0).bind fun t338 => (if t338 = true then (some 0) else (some 2))) else (some 1))) = some r := h
 clear h
 replace H := Option.bind_eq_some_iff.mp H
 obtain ⟨t337, A30, H⟩ := H
 replace H : (if t337 = true then ((impl_planCode_1.f k a1_0_0 l1_0_1 l1_1_0 l1_2_0).bind fun t338 => (if t338 = true then (some 0) else (some 2))) else (some 1)) = some r := H
 have A3 := Aside0.mk A30
 clear A30
 by_cases c4 : t337 = true
 ·subst c4
  have H1 : ((impl_planCode_1.f k a1_0_0 l1_0_1 l1_1_0 l1_2_0).bind fun t338 => (if t338 = true then (some 0) else (some 2))) = some r := by rw [if_pos rfl] at H; exact H
  clear H
  have H := H1
  clear H1
  replace H := Option.bind_eq_some_iff.mp H
  obtain ⟨t338, A50, H⟩ := H
  replace H : (if t338 = true then (some 0) else (some 2)) = some r := H
  have A5 := Aside0.mk A50
  clear A50
  by_cases c6 : t338 = true
  ·subst c6
   have H1 : (some 0) = some r := by rw [if_pos rfl] at H; exact H
   clear H
   have H := H1
   clear H1
   obtain rfl := Option.some.inj H
   go_enter Try.func50, Try.ntmps50
   go_wp2_with (first | ((with_reducible refine gate_dst (N := 2) rfl ?_); refine box_event ?hg (N := 2) ?hd (cs := #[.int .i64 a0_0, .slice A0_1 l0_1.length c0_1]) (t := 36) ?hr ?_; (case hd => rfl); (case hg => rfl); (case hr => first | (go_simp; done) | (go_simp; rfl)); intro gb336 hg w7 hbox hb; have n0_ := Aside0.mk (blk_below (g := g1_0_) (o := .cells #[.int .i64 a1_0_0, .slice A1_0_1 l1_0_1.length c1_0_1] 36 (0, 0)) (by (with_reducible repeat (first | refine blk_drewN ?_ _ | refine blk_drew ?_ | refine blk_alloc ?_ _)); exact BK90020.out) hb); have n1_ := Aside0.mk (blk_below (g := g1_1_) (o := .cells #[.slice A1_1_0 l1_1_0.length c1_1_0] 22 (0, 0)) (by (with_reducible repeat (first | refine blk_drewN ?_ _ | refine blk_drew ?_ | refine blk_alloc ?_ _)); exact BK90021.out) hb); have n2_ := Aside0.mk (blk_below (g := g1_2_) (o := .cells #[.slice A1_2_0 l1_2_0.length c1_2_0] 22 (0, 0)) (by (with_reducible repeat (first | refine blk_drewN ?_ _ | refine blk_drew ?_ | refine blk_alloc ?_ _)); exact BK90022.out) hb); have n3_ := Aside0.mk (below_step (by repeat (first | (with_reducible first | exact HB.out | apply below_alloc | apply pw_below_drewN | apply below_drew1) | exact HB.out)) hb); have n4_ := Aside0.mk (hbox); have n5_ := Aside0.mk ((by rw [hg]; exact (below_size (by repeat (first | (with_reducible first | exact HB.out | apply below_alloc | apply pw_below_drewN | apply below_drew1) | exact HB.out))) : w.heap.size ≤ gb336)); have n6_ := Aside0.mk ((by rw [hg]; exact (below_size (by repeat (first | (with_reducible first | exact HB.out | apply below_alloc | apply pw_below_drewN | apply below_drew1) | exact HB.out))) : w.heap.size ≤ gb336)); have n7_ := Aside0.mk ((by rw [hg]; exact Nat.ne_of_lt (blk_lt (g := g1_0_) (o := .cells #[.int .i64 a1_0_0, .slice A1_0_1 l1_0_1.length c1_0_1] 36 (0, 0)) (by (with_reducible repeat (first | refine blk_drewN ?_ _ | refine blk_drew ?_ | refine blk_alloc ?_ _)); exact BK90020.out)) : g1_0_ ≠ gb336)); have n8_ := Aside0.mk ((by rw [hg]; exact Nat.ne_of_gt (blk_lt (g := g1_0_) (o := .cells #[.int .i64 a1_0_0, .slice A1_0_1 l1_0_1.length c1_0_1] 36 (0, 0)) (by (with_reducible repeat (first | refine blk_drewN ?_ _ | refine blk_drew ?_ | refine blk_alloc ?_ _)); exact BK90020.out)) : gb336 ≠ g1_0_)); have n9_ := Aside0.mk ((by rw [hg]; exact Nat.ne_of_lt (blk_lt (g := g1_1_) (o := .cells #[.slice A1_1_0 l1_1_0.length c1_1_0] 22 (0, 0)) (by (with_reducible repeat (first | refine blk_drewN ?_ _ | refine blk_drew ?_ | refine blk_alloc ?_ _)); exact BK90021.out)) : g1_1_ ≠ gb336)); have n10_ := Aside0.mk ((by rw [hg]; exact Nat.ne_of_gt (blk_lt (g := g1_1_) (o := .cells #[.slice A1_1_0 l1_1_0.length c1_1_0] 22 (0, 0)) (by (with_reducible repeat (first | refine blk_drewN ?_ _ | refine blk_drew ?_ | refine blk_alloc ?_ _)); exact BK90021.out)) : gb336 ≠ g1_1_)); have n11_ := Aside0.mk ((by rw [hg]; exact Nat.ne_of_lt (blk_lt (g := g1_2_) (o := .cells #[.slice A1_2_0 l1_2_0.length c1_2_0] 22 (0, 0)) (by (with_reducible repeat (first | refine blk_drewN ?_ _ | refine blk_drew ?_ | refine blk_alloc ?_ _)); exact BK90022.out)) : g1_2_ ≠ gb336)); have n12_ := Aside0.mk ((by rw [hg]; exact Nat.ne_of_gt (blk_lt (g := g1_2_) (o := .cells #[.slice A1_2_0 l1_2_0.length c1_2_0] 22 (0, 0)) (by (with_reducible repeat (first | refine blk_drewN ?_ _ | refine blk_drew ?_ | refine blk_alloc ?_ _)); exact BK90022.out)) : gb336 ≠ g1_2_)); clear BK90020; clear BK90021; clear BK90022; clear HB; have BK90020 := n0_; have BK90021 := n1_; have BK90022 := n2_; have HB := n3_; have BK336 := n4_; have GW336 := n5_; have GE336 := n6_; have NB90020_336 := n7_; have NB336_90020 := n8_; have NB90021_336 := n9_; have NB336_90021 := n10_; have NB90022_336 := n11_; have NB336_90022 := n12_; clear n0_ n1_ n2_ n3_ n4_ n5_ n6_ n7_ n8_ n9_ n10_ n11_ n12_; clear hb hbox hg; have hnb8 := NB336_90020.out; have hnc8 := NB90020_336.out; have hnb9 := NB336_90021.out; have hnc9 := NB90021_336.out; have hnb10 := NB336_90022.out; have hnc10 := NB90022_336.out; have hcz11_0 : w7.cell? ⟨gb336, 0, none⟩ = some (.int .i64 a0_0) := (blk_cell BK336.out 0).trans rfl; have hcz11_1 : w7.cell? ⟨gb336, 1, none⟩ = some (.slice A0_1 l0_1.length c0_1) := (blk_cell BK336.out 1).trans rfl; have hfz11_0 := blk_frozen BK336.out 0; have hfz11_1 := blk_frozen BK336.out 1) | ((with_reducible refine gate_callee (f := 47) rfl ?_); refine goesL_ (some 7) rfl rfl Try.func47 (by kernel_rfl) rfl #[.agg #[.int .i64 a0_0, .slice A0_1 l0_1.length c0_1]] rfl (by (try simp only [List.map_toArray, List.map_cons, List.map_nil]); first | done | rfl | (simp only [List.length_drop, List.length_take]; rfl)) ?_; (with_reducible refine (impl_IsSet.calls a0_0 _ _ l0_1 true _ ?side1 ?side2 A3.out).mono ?_); (case side1 => repeat (first | exact (Kd.C_below HR0_1.out HB.out) | (with_reducible refine Kd.C_alloc ?_ _) | (with_reducible refine Kd.C_drewN ?_ _) | (with_reducible refine Kd.C_drew ?_))); (case side2 => exact HC0_1.out); rintro e w12 ⟨rfl, hb⟩; refine ⟨_, rfl, ?_⟩; have n0_ := Aside0.mk (blk_below (g := g1_0_) (o := .cells #[.int .i64 a1_0_0, .slice A1_0_1 l1_0_1.length c1_0_1] 36 (0, 0)) (by (with_reducible repeat (first | refine blk_drewN ?_ _ | refine blk_drew ?_ | refine blk_alloc ?_ _)); exact BK90020.out) hb); have n1_ := Aside0.mk (blk_below (g := g1_1_) (o := .cells #[.slice A1_1_0 l1_1_0.length c1_1_0] 22 (0, 0)) (by (with_reducible repeat (first | refine blk_drewN ?_ _ | refine blk_drew ?_ | refine blk_alloc ?_ _)); exact BK90021.out) hb); have n2_ := Aside0.mk (blk_below (g := g1_2_) (o := .cells #[.slice A1_2_0 l1_2_0.length c1_2_0] 22 (0, 0)) (by (with_reducible repeat (first | refine blk_drewN ?_ _ | refine blk_drew ?_ | refine blk_alloc ?_ _)); exact BK90022.out) hb); have n3_ := Aside0.mk (blk_below (g := gb336) (o := .cells #[.int .i64 a0_0, .slice A0_1 l0_1.length c0_1] 36 (0, 0)) (by (with_reducible repeat (first | refine blk_drewN ?_ _ | refine blk_drew ?_ | refine blk_alloc ?_ _)); exact BK336.out) hb); have n4_ := Aside0.mk (below_step (by repeat (first | (with_reducible first | exact HB.out | apply below_alloc | apply pw_below_drewN | apply below_drew1 | refine below_set ?_ GE336.out) | exact HB.out)) hb); clear BK90020; clear BK90021; clear BK90022; clear BK336; clear HB; have BK90020 := n0_; have BK90021 := n1_; have BK90022 := n2_; have BK336 := n3_; have HB := n4_; clear n0_ n1_ n2_ n3_ n4_; (try clear hb); (try clear hb2); (try clear hk); (try clear hi)))
   (with_reducible refine (impl_planCode_1.calls k g1_0_ a1_0_0 A1_0_1 c1_0_1 l1_0_1 g1_1_ A1_1_0 c1_1_0 l1_1_0 g1_2_ A1_2_0 c1_2_0 l1_2_0 true _ ?side1_q14 ?side2_q14 ?side3_q14 ?side4_q14 ?side5_q14 ?side6_q14 ?side7_q14 ?side8_q14 ?side9_q14 A5.out).mono ?_); (case side1_q14 => repeat (first | exact (Kd.C_below HR1_0_1.out HB.out) | (with_reducible refine Kd.C_alloc ?_ _) | (with_reducible refine Kd.C_drewN ?_ _) | (with_reducible refine Kd.C_drew ?_))); (case side2_q14 => exact HC1_0_1.out); (case side3_q14 => repeat (first | exact (Kd.C_below HR1_1_0.out HB.out) | (with_reducible refine Kd.C_alloc ?_ _) | (with_reducible refine Kd.C_drewN ?_ _) | (with_reducible refine Kd.C_drew ?_))); (case side4_q14 => exact HC1_1_0.out); (case side5_q14 => repeat (first | exact (Kd.C_below HR1_2_0.out HB.out) | (with_reducible refine Kd.C_alloc ?_ _) | (with_reducible refine Kd.C_drewN ?_ _) | (with_reducible refine Kd.C_drew ?_))); (case side6_q14 => exact HC1_2_0.out); (case side7_q14 => exact (by (with_reducible repeat (first | refine blk_drewN ?_ _ | refine blk_drew ?_ | refine blk_alloc ?_ _)); exact BK90020.out)); (case side8_q14 => exact (by (with_reducible repeat (first | refine blk_drewN ?_ _ | refine blk_drew ?_ | refine blk_alloc ?_ _)); exact BK90021.out)); (case side9_q14 => exact (by (with_reducible repeat (first | refine blk_drewN ?_ _ | refine blk_drew ?_ | refine blk_alloc ?_ _)); exact BK90022.out))
   rintro e w13 ⟨rfl, hb⟩
   have n0_ := Aside0.mk (blk_below (g := g1_0_) (o := .cells #[.int .i64 a1_0_0, .slice A1_0_1 l1_0_1.length c1_0_1] 36 (0, 0)) (by (with_reducible repeat (first | refine blk_drewN ?_ _ | refine blk_drew ?_ | refine blk_alloc ?_ _)); exact BK90020.out) hb)
   have n1_ := Aside0.mk (blk_below (g := g1_1_) (o := .cells #[.slice A1_1_0 l1_1_0.length c1_1_0] 22 (0, 0)) (by (with_reducible repeat (first | refine blk_drewN ?_ _ | refine blk_drew ?_ | refine blk_alloc ?_ _)); exact BK90021.out) hb)
   have n2_ := Aside0.mk (blk_below (g := g1_2_) (o := .cells #[.slice A1_2_0 l1_2_0.length c1_2_0] 22 (0, 0)) (by (with_reducible repeat (first | refine blk_drewN ?_ _ | refine blk_drew ?_ | refine blk_alloc ?_ _)); exact BK90022.out) hb)
   have n3_ := Aside0.mk (blk_below (g := gb336) (o := .cells #[.int .i64 a0_0, .slice A0_1 l0_1.length c0_1] 36 (0, 0)) (by (with_reducible repeat (first | refine blk_drewN ?_ _ | refine blk_drew ?_ | refine blk_alloc ?_ _)); exact BK336.out) hb)
   have n4_ := Aside0.mk (below_step (by repeat (first | (with_reducible first | exact HB.out | apply below_alloc | apply pw_below_drewN | apply below_drew1 | refine below_set ?_ GE336.out) | exact HB.out)) hb)
   clear BK90020
   clear BK90021
   clear BK90022
   clear BK336
   clear HB
   have BK90020 := n0_
   have BK90021 := n1_
   have BK90022 := n2_
   have BK336 := n3_
   have HB := n4_
   clear n0_ n1_ n2_ n3_ n4_
   (try clear hb)
   (try clear hb2)
   (try clear hk)
   (try clear hi)
   go_wp2_with fail
   go_ret
   exact ⟨by first | rfl | (simp [errW_none, errW_some] <;> rfl) | (simp [*, errW_none, errW_some] <;> rfl), by repeat (first | (with_reducible first | exact HB.out | apply below_alloc | apply pw_below_drewN | apply below_drew1 | refine below_set ?_ GE336.out) | exact HB.out)⟩
  ·replace c6 := Bool.eq_false_iff.mpr c6
   subst c6
   have H1 : (some 2) = some r := by rw [if_neg (show ¬ (false = true) by decide)] at H; exact H
   clear H
   have H := H1
   clear H1
   obtain rfl := Option.some.inj H
   go_enter Try.func50, Try.ntmps50
   go_wp2_with (first | ((with_reducible refine gate_dst (N := 2) rfl ?_); refine box_event ?hg (N := 2) ?hd (cs := #[.int .i64 a0_0, .slice A0_1 l0_1.length c0_1]) (t := 36) ?hr ?_; (case hd => rfl); (case hg => rfl); (case hr => first | (go_simp; done) | (go_simp; rfl)); intro gb336 hg w15 hbox hb; have n0_ := Aside0.mk (blk_below (g := g1_0_) (o := .cells #[.int .i64 a1_0_0, .slice A1_0_1 l1_0_1.length c1_0_1] 36 (0, 0)) (by (with_reducible repeat (first | refine blk_drewN ?_ _ | refine blk_drew ?_ | refine blk_alloc ?_ _)); exact BK90020.out) hb); have n1_ := Aside0.mk (blk_below (g := g1_1_) (o := .cells #[.slice A1_1_0 l1_1_0.length c1_1_0] 22 (0, 0)) (by (with_reducible repeat (first | refine blk_drewN ?_ _ | refine blk_drew ?_ | refine blk_alloc ?_ _)); exact BK90021.out) hb); have n2_ := Aside0.mk (blk_below (g := g1_2_) (o := .cells #[.slice A1_2_0 l1_2_0.length c1_2_0] 22 (0, 0)) (by (with_reducible repeat (first | refine blk_drewN ?_ _ | refine blk_drew ?_ | refine blk_alloc ?_ _)); exact BK90022.out) hb); have n3_ := Aside0.mk (below_step (by repeat (first | (with_reducible first | exact HB.out | apply below_alloc | apply pw_below_drewN | apply below_drew1) | exact HB.out)) hb); have n4_ := Aside0.mk (hbox); have n5_ := Aside0.mk ((by rw [hg]; exact (below_size (by repeat (first | (with_reducible first | exact HB.out | apply below_alloc | apply pw_below_drewN | apply below_drew1) | exact HB.out))) : w.heap.size ≤ gb336)); have n6_ := Aside0.mk ((by rw [hg]; exact (below_size (by repeat (first | (with_reducible first | exact HB.out | apply below_alloc | apply pw_below_drewN | apply below_drew1) | exact HB.out))) : w.heap.size ≤ gb336)); have n7_ := Aside0.mk ((by rw [hg]; exact Nat.ne_of_lt (blk_lt (g := g1_0_) (o := .cells #[.int .i64 a1_0_0, .slice A1_0_1 l1_0_1.length c1_0_1] 36 (0, 0)) (by (with_reducible repeat (first | refine blk_drewN ?_ _ | refine blk_drew ?_ | refine blk_alloc ?_ _)); exact BK90020.out)) : g1_0_ ≠ gb336)); have n8_ := Aside0.mk ((by rw [hg]; exact Nat.ne_of_gt (blk_lt (g := g1_0_) (o := .cells #[.int .i64 a1_0_0, .slice A1_0_1 l1_0_1.length c1_0_1] 36 (0, 0)) (by (with_reducible repeat (first | refine blk_drewN ?_ _ | refine blk_drew ?_ | refine blk_alloc ?_ _)); exact BK90020.out)) : gb336 ≠ g1_0_)); have n9_ := Aside0.mk ((by rw [hg]; exact Nat.ne_of_lt (blk_lt (g := g1_1_) (o := .cells #[.slice A1_1_0 l1_1_0.length c1_1_0] 22 (0, 0)) (by (with_reducible repeat (first | refine blk_drewN ?_ _ | refine blk_drew ?_ | refine blk_alloc ?_ _)); exact BK90021.out)) : g1_1_ ≠ gb336)); have n10_ := Aside0.mk ((by rw [hg]; exact Nat.ne_of_gt (blk_lt (g := g1_1_) (o := .cells #[.slice A1_1_0 l1_1_0.length c1_1_0] 22 (0, 0)) (by (with_reducible repeat (first | refine blk_drewN ?_ _ | refine blk_drew ?_ | refine blk_alloc ?_ _)); exact BK90021.out)) : gb336 ≠ g1_1_)); have n11_ := Aside0.mk ((by rw [hg]; exact Nat.ne_of_lt (blk_lt (g := g1_2_) (o := .cells #[.slice A1_2_0 l1_2_0.length c1_2_0] 22 (0, 0)) (by (with_reducible repeat (first | refine blk_drewN ?_ _ | refine blk_drew ?_ | refine blk_alloc ?_ _)); exact BK90022.out)) : g1_2_ ≠ gb336)); have n12_ := Aside0.mk ((by rw [hg]; exact Nat.ne_of_gt (blk_lt (g := g1_2_) (o := .cells #[.slice A1_2_0 l1_2_0.length c1_2_0] 22 (0, 0)) (by (with_reducible repeat (first | refine blk_drewN ?_ _ | refine blk_drew ?_ | refine blk_alloc ?_ _)); exact BK90022.out)) : gb336 ≠ g1_2_)); clear BK90020; clear BK90021; clear BK90022; clear HB; have BK90020 := n0_; have BK90021 := n1_; have BK90022 := n2_; have HB := n3_; have BK336 := n4_; have GW336 := n5_; have GE336 := n6_; have NB90020_336 := n7_; have NB336_90020 := n8_; have NB90021_336 := n9_; have NB336_90021 := n10_; have NB90022_336 := n11_; have NB336_90022 := n12_; clear n0_ n1_ n2_ n3_ n4_ n5_ n6_ n7_ n8_ n9_ n10_ n11_ n12_; clear hb hbox hg; have hnb16 := NB336_90020.out; have hnc16 := NB90020_336.out; have hnb17 := NB336_90021.out; have hnc17 := NB90021_336.out; have hnb18 := NB336_90022.out; have hnc18 := NB90022_336.out; have hcz19_0 : w15.cell? ⟨gb336, 0, none⟩ = some (.int .i64 a0_0) := (blk_cell BK336.out 0).trans rfl; have hcz19_1 : w15.cell? ⟨gb336, 1, none⟩ = some (.slice A0_1 l0_1.length c0_1) := (blk_cell BK336.out 1).trans rfl; have hfz19_0 := blk_frozen BK336.out 0; have hfz19_1 := blk_frozen BK336.out 1) | ((with_reducible refine gate_callee (f := 47) rfl ?_); refine goesL_ (some 7) rfl rfl Try.func47 (by kernel_rfl) rfl #[.agg #[.int .i64 a0_0, .slice A0_1 l0_1.length c0_1]] rfl (by (try simp only [List.map_toArray, List.map_cons, List.map_nil]); first | done | rfl | (simp only [List.length_drop, List.length_take]; rfl)) ?_; (with_reducible refine (impl_IsSet.calls a0_0 _ _ l0_1 true _ ?side1 ?side2 A3.out).mono ?_); (case side1 => repeat (first | exact (Kd.C_below HR0_1.out HB.out) | (with_reducible refine Kd.C_alloc ?_ _) | (with_reducible refine Kd.C_drewN ?_ _) | (with_reducible refine Kd.C_drew ?_))); (case side2 => exact HC0_1.out); rintro e w20 ⟨rfl, hb⟩; refine ⟨_, rfl, ?_⟩; have n0_ := Aside0.mk (blk_below (g := g1_0_) (o := .cells #[.int .i64 a1_0_0, .slice A1_0_1 l1_0_1.length c1_0_1] 36 (0, 0)) (by (with_reducible repeat (first | refine blk_drewN ?_ _ | refine blk_drew ?_ | refine blk_alloc ?_ _)); exact BK90020.out) hb); have n1_ := Aside0.mk (blk_below (g := g1_1_) (o := .cells #[.slice A1_1_0 l1_1_0.length c1_1_0] 22 (0, 0)) (by (with_reducible repeat (first | refine blk_drewN ?_ _ | refine blk_drew ?_ | refine blk_alloc ?_ _)); exact BK90021.out) hb); have n2_ := Aside0.mk (blk_below (g := g1_2_) (o := .cells #[.slice A1_2_0 l1_2_0.length c1_2_0] 22 (0, 0)) (by (with_reducible repeat (first | refine blk_drewN ?_ _ | refine blk_drew ?_ | refine blk_alloc ?_ _)); exact BK90022.out) hb); have n3_ := Aside0.mk (blk_below (g := gb336) (o := .cells #[.int .i64 a0_0, .slice A0_1 l0_1.length c0_1] 36 (0, 0)) (by (with_reducible repeat (first | refine blk_drewN ?_ _ | refine blk_drew ?_ | refine blk_alloc ?_ _)); exact BK336.out) hb); have n4_ := Aside0.mk (below_step (by repeat (first | (with_reducible first | exact HB.out | apply below_alloc | apply pw_below_drewN | apply below_drew1 | refine below_set ?_ GE336.out) | exact HB.out)) hb); clear BK90020; clear BK90021; clear BK90022; clear BK336; clear HB; have BK90020 := n0_; have BK90021 := n1_; have BK90022 := n2_; have BK336 := n3_; have HB := n4_; clear n0_ n1_ n2_ n3_ n4_; (try clear hb); (try clear hb2); (try clear hk); (try clear hi)))
   (with_reducible refine (impl_planCode_1.calls k g1_0_ a1_0_0 A1_0_1 c1_0_1 l1_0_1 g1_1_ A1_1_0 c1_1_0 l1_1_0 g1_2_ A1_2_0 c1_2_0 l1_2_0 false _ ?side1_q22 ?side2_q22 ?side3_q22 ?side4_q22 ?side5_q22 ?side6_q22 ?side7_q22 ?side8_q22 ?side9_q22 A5.out).mono ?_); (case side1_q22 => repeat (first | exact (Kd.C_below HR1_0_1.out HB.out) | (with_reducible refine Kd.C_alloc ?_ _) | (with_reducible refine Kd.C_drewN ?_ _) | (with_reducible refine Kd.C_drew ?_))); (case side2_q22 => exact HC1_0_1.out); (case side3_q22 => repeat (first | exact (Kd.C_below HR1_1_0.out HB.out) | (with_reducible refine Kd.C_alloc ?_ _) | (with_reducible refine Kd.C_drewN ?_ _) | (with_reducible refine Kd.C_drew ?_))); (case side4_q22 => exact HC1_1_0.out); (case side5_q22 => repeat (first | exact (Kd.C_below HR1_2_0.out HB.out) | (with_reducible refine Kd.C_alloc ?_ _) | (with_reducible refine Kd.C_drewN ?_ _) | (with_reducible refine Kd.C_drew ?_))); (case side6_q22 => exact HC1_2_0.out); (case side7_q22 => exact (by (with_reducible repeat (first | refine blk_drewN ?_ _ | refine blk_drew ?_ | refine blk_alloc ?_ _)); exact BK90020.out)); (case side8_q22 => exact (by (with_reducible repeat (first | refine blk_drewN ?_ _ | refine blk_drew ?_ | refine blk_alloc ?_ _)); exact BK90021.out)); (case side9_q22 => exact (by (with_reducible repeat (first | refine blk_drewN ?_ _ | refine blk_drew ?_ | refine blk_alloc ?_ _)); exact BK90022.out))
   rintro e w21 ⟨rfl, hb⟩
   have n0_ := Aside0.mk (blk_below (g := g1_0_) (o := .cells #[.int .i64 a1_0_0, .slice A1_0_1 l1_0_1.length c1_0_1] 36 (0, 0)) (by (with_reducible repeat (first | refine blk_drewN ?_ _ | refine blk_drew ?_ | refine blk_alloc ?_ _)); exact BK90020.out) hb)
   have n1_ := Aside0.mk (blk_below (g := g1_1_) (o := .cells #[.slice A1_1_0 l1_1_0.length c1_1_0] 22 (0, 0)) (by (with_reducible repeat (first | refine blk_drewN ?_ _ | refine blk_drew ?_ | refine blk_alloc ?_ _)); exact BK90021.out) hb)
   have n2_ := Aside0.mk (blk_below (g := g1_2_) (o := .cells #[.slice A1_2_0 l1_2_0.length c1_2_0] 22 (0, 0)) (by (with_reducible repeat (first | refine blk_drewN ?_ _ | refine blk_drew ?_ | refine blk_alloc ?_ _)); exact BK90022.out) hb)
   have n3_ := Aside0.mk (blk_below (g := gb336) (o := .cells #[.int .i64 a0_0, .slice A0_1 l0_1.length c0_1] 36 (0, 0)) (by (with_reducible repeat (first | refine blk_drewN ?_ _ | refine blk_drew ?_ | refine blk_alloc ?_ _)); exact BK336.out) hb)
   have n4_ := Aside0.mk (below_step (by repeat (first | (with_reducible first | exact HB.out | apply below_alloc | apply pw_below_drewN | apply below_drew1 | refine below_set ?_ GE336.out) | exact HB.out)) hb)
   clear BK90020
   clear BK90021
   clear BK90022
   clear BK336
   clear HB
   have BK90020 := n0_
   have BK90021 := n1_
   have BK90022 := n2_
   have BK336 := n3_
   have HB := n4_
   clear n0_ n1_ n2_ n3_ n4_
   (try clear hb)
   (try clear hb2)
   (try clear hk)
   (try clear hi)
   go_wp2_with fail
   go_ret
   exact ⟨by first | rfl | (simp [errW_none, errW_some] <;> rfl) | (simp [*, errW_none, errW_some] <;> rfl), by repeat (first | (with_reducible first | exact HB.out | apply below_alloc | apply pw_below_drewN | apply below_drew1 | refine below_set ?_ GE336.out) | exact HB.out)⟩
 ·replace c4 := Bool.eq_false_iff.mpr c4
  subst c4
  have H1 : (some 1) = some r := by rw [if_neg (show ¬ (false = true) by decide)] at H; exact H
  clear H
  have H := H1
  clear H1
  obtain rfl := Option.some.inj H
  go_enter Try.func50, Try.ntmps50
  go_wp2_with (first | ((with_reducible refine gate_dst (N := 2) rfl ?_); refine box_event ?hg (N := 2) ?hd (cs := #[.int .i64 a0_0, .slice A0_1 l0_1.length c0_1]) (t := 36) ?hr ?_; (case hd => rfl); (case hg => rfl); (case hr => first | (go_simp; done) | (go_simp; rfl)); intro gb336 hg w23 hbox hb; have n0_ := Aside0.mk (blk_below (g := g1_0_) (o := .cells #[.int .i64 a1_0_0, .slice A1_0_1 l1_0_1.length c1_0_1] 36 (0, 0)) (by (with_reducible repeat (first | refine blk_drewN ?_ _ | refine blk_drew ?_ | refine blk_alloc ?_ _)); exact BK90020.out) hb); have n1_ := Aside0.mk (blk_below (g := g1_1_) (o := .cells #[.slice A1_1_0 l1_1_0.length c1_1_0] 22 (0, 0)) (by (with_reducible repeat (first | refine blk_drewN ?_ _ | refine blk_drew ?_ | refine blk_alloc ?_ _)); exact BK90021.out) hb); have n2_ := Aside0.mk (blk_below (g := g1_2_) (o := .cells #[.slice A1_2_0 l1_2_0.length c1_2_0] 22 (0, 0)) (by (with_reducible repeat (first | refine blk_drewN ?_ _ | refine blk_drew ?_ | refine blk_alloc ?_ _)); exact BK90022.out) hb); have n3_ := Aside0.mk (below_step (by repeat (first | (with_reducible first | exact HB.out | apply below_alloc | apply pw_below_drewN | apply below_drew1) | exact HB.out)) hb); have n4_ := Aside0.mk (hbox); have n5_ := Aside0.mk ((by rw [hg]; exact (below_size (by repeat (first | (with_reducible first | exact HB.out | apply below_alloc | apply pw_below_drewN | apply below_drew1) | exact HB.out))) : w.heap.size ≤ gb336)); have n6_ := Aside0.mk ((by rw [hg]; exact (below_size (by repeat (first | (with_reducible first | exact HB.out | apply below_alloc | apply pw_below_drewN | apply below_drew1) | exact HB.out))) : w.heap.size ≤ gb336)); have n7_ := Aside0.mk ((by rw [hg]; exact Nat.ne_of_lt (blk_lt (g := g1_0_) (o := .cells #[.int .i64 a1_0_0, .slice A1_0_1 l1_0_1.length c1_0_1] 36 (0, 0)) (by (with_reducible repeat (first | refine blk_drewN ?_ _ | refine blk_drew ?_ | refine blk_alloc ?_ _)); exact BK90020.out)) : g1_0_ ≠ gb336)); have n8_ := Aside0.mk ((by rw [hg]; exact Nat.ne_of_gt (blk_lt (g := g1_0_) (o := .cells #[.int .i64 a1_0_0, .slice A1_0_1 l1_0_1.length c1_0_1] 36 (0, 0)) (by (with_reducible repeat (first | refine blk_drewN ?_ _ | refine blk_drew ?_ | refine blk_alloc ?_ _)); exact BK90020.out)) : gb336 ≠ g1_0_)); have n9_ := Aside0.mk ((by rw [hg]; exact Nat.ne_of_lt (blk_lt (g := g1_1_) (o := .cells #[.slice A1_1_0 l1_1_0.length c1_1_0] 22 (0, 0)) (by (with_reducible repeat (first | refine blk_drewN ?_ _ | refine blk_drew ?_ | refine blk_alloc ?_ _)); exact BK90021.out)) : g1_1_ ≠ gb336)); have n10_ := Aside0.mk ((by rw [hg]; exact Nat.ne_of_gt (blk_lt (g := g1_1_) (o := .cells #[.slice A1_1_0 l1_1_0.length c1_1_0] 22 (0, 0)) (by (with_reducible repeat (first | refine blk_drewN ?_ _ | refine blk_drew ?_ | refine blk_alloc ?_ _)); exact BK90021.out)) : gb336 ≠ g1_1_)); have n11_ := Aside0.mk ((by rw [hg]; exact Nat.ne_of_lt (blk_lt (g := g1_2_) (o := .cells #[.slice A1_2_0 l1_2_0.length c1_2_0] 22 (0, 0)) (by (with_reducible repeat (first | refine blk_drewN ?_ _ | refine blk_drew ?_ | refine blk_alloc ?_ _)); exact BK90022.out)) : g1_2_ ≠ gb336)); have n12_ := Aside0.mk ((by rw [hg]; exact Nat.ne_of_gt (blk_lt (g := g1_2_) (o := .cells #[.slice A1_2_0 l1_2_0.length c1_2_0] 22 (0, 0)) (by (with_reducible repeat (first | refine blk_drewN ?_ _ | refine blk_drew ?_ | refine blk_alloc ?_ _)); exact BK90022.out)) : gb336 ≠ g1_2_)); clear BK90020; clear BK90021; clear BK90022; clear HB; have BK90020 := n0_; have BK90021 := n1_; have BK90022 := n2_; have HB := n3_; have BK336 := n4_; have GW336 := n5_; have GE336 := n6_; have NB90020_336 := n7_; have NB336_90020 := n8_; have NB90021_336 := n9_; have NB336_90021 := n10_; have NB90022_336 := n11_; have NB336_90022 := n12_; clear n0_ n1_ n2_ n3_ n4_ n5_ n6_ n7_ n8_ n9_ n10_ n11_ n12_; clear hb hbox hg; have hnb24 := NB336_90020.out; have hnc24 := NB90020_336.out; have hnb25 := NB336_90021.out; have hnc25 := NB90021_336.out; have hnb26 := NB336_90022.out; have hnc26 := NB90022_336.out; have hcz27_0 : w23.cell? ⟨gb336, 0, none⟩ = some (.int .i64 a0_0) := (blk_cell BK336.out 0).trans rfl; have hcz27_1 : w23.cell? ⟨gb336, 1, none⟩ = some (.slice A0_1 l0_1.length c0_1) := (blk_cell BK336.out 1).trans rfl; have hfz27_0 := blk_frozen BK336.out 0; have hfz27_1 := blk_frozen BK336.out 1) | ((with_reducible refine gate_callee (f := 47) rfl ?_); refine goesL_ (some 7) rfl rfl Try.func47 (by kernel_rfl) rfl #[.agg #[.int .i64 a0_0, .slice A0_1 l0_1.length c0_1]] rfl (by (try simp only [List.map_toArray, List.map_cons, List.map_nil]); first | done | rfl | (simp only [List.length_drop, List.length_take]; rfl)) ?_; (with_reducible refine (impl_IsSet.calls a0_0 _ _ l0_1 false _ ?side1 ?side2 A3.out).mono ?_); (case side1 => repeat (first | exact (Kd.C_below HR0_1.out HB.out) | (with_reducible refine Kd.C_alloc ?_ _) | (with_reducible refine Kd.C_drewN ?_ _) | (with_reducible refine Kd.C_drew ?_))); (case side2 => exact HC0_1.out); rintro e w28 ⟨rfl, hb⟩; refine ⟨_, rfl, ?_⟩; have n0_ := Aside0.mk (blk_below (g := g1_0_) (o := .cells #[.int .i64 a1_0_0, .slice A1_0_1 l1_0_1.length c1_0_1] 36 (0, 0)) (by (with_reducible repeat (first | refine blk_drewN ?_ _ | refine blk_drew ?_ | refine blk_alloc ?_ _)); exact BK90020.out) hb); have n1_ := Aside0.mk (blk_below (g := g1_1_) (o := .cells #[.slice A1_1_0 l1_1_0.length c1_1_0] 22 (0, 0)) (by (with_reducible repeat (first | refine blk_drewN ?_ _ | refine blk_drew ?_ | refine blk_alloc ?_ _)); exact BK90021.out) hb); have n2_ := Aside0.mk (blk_below (g := g1_2_) (o := .cells #[.slice A1_2_0 l1_2_0.length c1_2_0] 22 (0, 0)) (by (with_reducible repeat (first | refine blk_drewN ?_ _ | refine blk_drew ?_ | refine blk_alloc ?_ _)); exact BK90022.out) hb); have n3_ := Aside0.mk (blk_below (g := gb336) (o := .cells #[.int .i64 a0_0, .slice A0_1 l0_1.length c0_1] 36 (0, 0)) (by (with_reducible repeat (first | refine blk_drewN ?_ _ | refine blk_drew ?_ | refine blk_alloc ?_ _)); exact BK336.out) hb); have n4_ := Aside0.mk (below_step (by repeat (first | (with_reducible first | exact HB.out | apply below_alloc | apply pw_below_drewN | apply below_drew1 | refine below_set ?_ GE336.out) | exact HB.out)) hb); clear BK90020; clear BK90021; clear BK90022; clear BK336; clear HB; have BK90020 := n0_; have BK90021 := n1_; have BK90022 := n2_; have BK336 := n3_; have HB := n4_; clear n0_ n1_ n2_ n3_ n4_; (try clear hb); (try clear hb2); (try clear hk); (try clear hi)))
  go_ret
  exact ⟨by first | rfl | (simp [errW_none, errW_some] <;> rfl) | (simp [*, errW_none, errW_some] <;> rfl), by repeat (first | (with_reducible first | exact HB.out | apply below_alloc | apply pw_below_drewN | apply below_drew1 | refine below_set ?_ GE336.out) | exact HB.out)⟩
end Go.Proofs.Ytcaikaflpmaocaa.Q
namespace Go.Proofs.Ytcaikaflpmaocaa.Q
open Go.RowKit Go.Proofs.YtcaikaflpmaocaaW.PrintWords Go.Proofs.YtcaikaflpmaocaaW.PrintLast Go.Proofs.YtcaikaflpmaocaaW.PrintMore
attribute [local go_sem] max2_int min2_int max_two min_two max_three min_three max_four min_four
set_option linter.unusedVariables false
set_option linter.unusedSimpArgs false
def impl_planCode.f (k : Nat) (a0_0 : Int) (l0_1 : List (S85)) (l1 : List (List Int)) (l2 : List (List Int)) : Option (Int) := (impl_setCode_at_impl_planCode_1.f k a0_0 l0_1 a0_0 l0_1 l1 l2).bind fun t342 => (some t342)
theorem impl_planCode.mono : ∀ a0 a1 a2 a3 k, LeO (impl_planCode.f k a0 a1 a2 a3) (impl_planCode.f (k + 1) a0 a1 a2 a3) := by
 intro a0 a1 a2 a3 k
 unfold impl_planCode.f
 repeat' first
   | (with_reducible exact impl_setCode_at_impl_planCode_1.mono _ _ _ _ _ _ _)
   | (with_reducible exact LeO.refl _)
   | (with_reducible exact LeO.none _)
   | (with_reducible refine LeO.ite ?_ ?_)
   | (with_reducible refine LeO.bind ?_ (fun _ => ?_))
   | exact impl_setCode_at_impl_planCode_1.mono _ _ _ _ _ _ _
   | exact LeO.none _
   | refine LeO.ite ?_ ?_
   | refine LeO.bind ?_ (fun _ => ?_)
set_option maxHeartbeats 8000000 in
set_option maxRecDepth 100000 in
theorem impl_planCode.calls (k : Nat) (a0_0 : Int) (A0_1 : Option Addr) (c0_1 : Nat) (l0_1 : List (S85)) (A1 : Option Addr) (c1 : Nat) (l1 : List (List Int)) (A2 : Option Addr) (c2 : Nat) (l2 : List (List Int)) (r : Int) (w : World) (hr0_1 : Kd.C k85 w A0_1 l0_1.length l0_1) (hc0_1 : l0_1.length ≤ c0_1) (hr1 : Kd.C (Kd.slice 2 (Kd.int .i64)) w A1 l1.length l1) (hc1 : l1.length ≤ c1) (hr2 : Kd.C (Kd.slice 2 (Kd.int .i64)) w A2 l2.length l2) (hc2 : l2.length ≤ c2) (h : impl_planCode.f k a0_0 l0_1 l1 l2 = some r) :
  Calls Try.prog 59 #[.agg #[.int .i64 a0_0, .slice A0_1 l0_1.length c0_1], .slice A1 l1.length c1, .slice A2 l2.length c2] w fun e w' => e = .returned (.int .i64 r) ∧ Below w.heap.size w w' := by
 have hu36 := Try.underlying36
 have HR0_1 := Aside0.mk hr0_1
 have HC0_1 := Aside0.mk hc0_1
 clear hr0_1 hc0_1
 have HR1 := Aside0.mk hr1
 have HC1 := Aside0.mk hc1
 clear hr1 hc1
 have HR2 := Aside0.mk hr2
 have HC2 := Aside0.mk hc2
 clear hr2 hc2
 have HB := Aside0.mk (Below.refl w.heap.size w)
 have H : ((impl_setCode_at_impl_planCode_1.f k a0_0 l0_1 a0_0 l0_1 l1 l2).bind fun t342 => (some t342)) = some r := h
 clear h
 replace H := Option.bind_eq_some_iff.mp H
 obtain ⟨t342, A40, H⟩ := H
 replace H : (some t342) = some r := H
 have A4 := Aside0.mk A40
 clear A40
 obtain rfl := Option.some.inj H
 go_enter Try.func59, Try.ntmps59
 go_wp2_with (first | ((with_reducible refine gate_dst (N := 3) rfl ?_); refine box_event ?hg (N := 3) ?hd (cs := #[.int .i64 a0_0, .slice A0_1 l0_1.length c0_1]) (t := 36) ?hr ?_; (case hd => rfl); (case hg => rfl); (case hr => first | (go_simp; done) | (go_simp; rfl)); intro gb339 hg w5 hbox hb; have n0_ := Aside0.mk (below_step (by repeat (first | (with_reducible first | exact HB.out | apply below_alloc | apply pw_below_drewN | apply below_drew1) | exact HB.out)) hb); have n1_ := Aside0.mk (hbox); have n2_ := Aside0.mk ((by rw [hg]; exact (below_size (by repeat (first | (with_reducible first | exact HB.out | apply below_alloc | apply pw_below_drewN | apply below_drew1) | exact HB.out))) : w.heap.size ≤ gb339)); have n3_ := Aside0.mk ((by rw [hg]; exact (below_size (by repeat (first | (with_reducible first | exact HB.out | apply below_alloc | apply pw_below_drewN | apply below_drew1) | exact HB.out))) : w.heap.size ≤ gb339)); clear HB; have HB := n0_; have BK339 := n1_; have GW339 := n2_; have GE339 := n3_; clear n0_ n1_ n2_ n3_; clear hb hbox hg) | ((with_reducible refine gate_dst (N := 4) rfl ?_); refine box_event ?hg (N := 4) ?hd (cs := #[.slice A1 l1.length c1]) (t := 22) ?hr ?_; (case hd => rfl); (case hg => rfl); (case hr => first | (go_simp; done) | (go_simp; rfl)); intro gb340 hg w6 hbox hb; have n0_ := Aside0.mk (blk_below (g := gb339) (o := .cells #[.int .i64 a0_0, .slice A0_1 l0_1.length c0_1] 36 (0, 0)) (by (with_reducible repeat (first | refine blk_drewN ?_ _ | refine blk_drew ?_ | refine blk_alloc ?_ _)); exact BK339.out) hb); have n1_ := Aside0.mk (below_step (by repeat (first | (with_reducible first | exact HB.out | apply below_alloc | apply pw_below_drewN | apply below_drew1 | refine below_set ?_ GE339.out) | exact HB.out)) hb); have n2_ := Aside0.mk (hbox); have n3_ := Aside0.mk ((by rw [hg]; exact (below_size (by repeat (first | (with_reducible first | exact HB.out | apply below_alloc | apply pw_below_drewN | apply below_drew1 | refine below_set ?_ GE339.out) | exact HB.out))) : w.heap.size ≤ gb340)); have n4_ := Aside0.mk ((by rw [hg]; exact (below_size (by repeat (first | (with_reducible first | exact HB.out | apply below_alloc | apply pw_below_drewN | apply below_drew1 | refine below_set ?_ GE339.out) | exact HB.out))) : w.heap.size ≤ gb340)); have n5_ := Aside0.mk ((by rw [hg]; exact Nat.ne_of_lt (blk_lt (g := gb339) (o := .cells #[.int .i64 a0_0, .slice A0_1 l0_1.length c0_1] 36 (0, 0)) (by (with_reducible repeat (first | refine blk_drewN ?_ _ | refine blk_drew ?_ | refine blk_alloc ?_ _)); exact BK339.out)) : gb339 ≠ gb340)); have n6_ := Aside0.mk ((by rw [hg]; exact Nat.ne_of_gt (blk_lt (g := gb339) (o := .cells #[.int .i64 a0_0, .slice A0_1 l0_1.length c0_1] 36 (0, 0)) (by (with_reducible repeat (first | refine blk_drewN ?_ _ | refine blk_drew ?_ | refine blk_alloc ?_ _)); exact BK339.out)) : gb340 ≠ gb339)); clear BK339; clear HB; have BK339 := n0_; have HB := n1_; have BK340 := n2_; have GW340 := n3_; have GE340 := n4_; have NB339_340 := n5_; have NB340_339 := n6_; clear n0_ n1_ n2_ n3_ n4_ n5_ n6_; clear hb hbox hg) | ((with_reducible refine gate_dst (N := 5) rfl ?_); refine box_event ?hg (N := 5) ?hd (cs := #[.slice A2 l2.length c2]) (t := 22) ?hr ?_; (case hd => rfl); (case hg => rfl); (case hr => first | (go_simp; done) | (go_simp; rfl)); intro gb341 hg w7 hbox hb; have n0_ := Aside0.mk (blk_below (g := gb339) (o := .cells #[.int .i64 a0_0, .slice A0_1 l0_1.length c0_1] 36 (0, 0)) (by (with_reducible repeat (first | refine blk_drewN ?_ _ | refine blk_drew ?_ | refine blk_alloc ?_ _)); exact BK339.out) hb); have n1_ := Aside0.mk (blk_below (g := gb340) (o := .cells #[.slice A1 l1.length c1] 22 (0, 0)) (by (with_reducible repeat (first | refine blk_drewN ?_ _ | refine blk_drew ?_ | refine blk_alloc ?_ _)); exact BK340.out) hb); have n2_ := Aside0.mk (below_step (by repeat (first | (with_reducible first | exact HB.out | apply below_alloc | apply pw_below_drewN | apply below_drew1 | refine below_set ?_ GE339.out | refine below_set ?_ GE340.out) | exact HB.out)) hb); have n3_ := Aside0.mk (hbox); have n4_ := Aside0.mk ((by rw [hg]; exact (below_size (by repeat (first | (with_reducible first | exact HB.out | apply below_alloc | apply pw_below_drewN | apply below_drew1 | refine below_set ?_ GE339.out | refine below_set ?_ GE340.out) | exact HB.out))) : w.heap.size ≤ gb341)); have n5_ := Aside0.mk ((by rw [hg]; exact (below_size (by repeat (first | (with_reducible first | exact HB.out | apply below_alloc | apply pw_below_drewN | apply below_drew1 | refine below_set ?_ GE339.out | refine below_set ?_ GE340.out) | exact HB.out))) : w.heap.size ≤ gb341)); have n6_ := Aside0.mk ((by rw [hg]; exact Nat.ne_of_lt (blk_lt (g := gb339) (o := .cells #[.int .i64 a0_0, .slice A0_1 l0_1.length c0_1] 36 (0, 0)) (by (with_reducible repeat (first | refine blk_drewN ?_ _ | refine blk_drew ?_ | refine blk_alloc ?_ _)); exact BK339.out)) : gb339 ≠ gb341)); have n7_ := Aside0.mk ((by rw [hg]; exact Nat.ne_of_gt (blk_lt (g := gb339) (o := .cells #[.int .i64 a0_0, .slice A0_1 l0_1.length c0_1] 36 (0, 0)) (by (with_reducible repeat (first | refine blk_drewN ?_ _ | refine blk_drew ?_ | refine blk_alloc ?_ _)); exact BK339.out)) : gb341 ≠ gb339)); have n8_ := Aside0.mk ((by rw [hg]; exact Nat.ne_of_lt (blk_lt (g := gb340) (o := .cells #[.slice A1 l1.length c1] 22 (0, 0)) (by (with_reducible repeat (first | refine blk_drewN ?_ _ | refine blk_drew ?_ | refine blk_alloc ?_ _)); exact BK340.out)) : gb340 ≠ gb341)); have n9_ := Aside0.mk ((by rw [hg]; exact Nat.ne_of_gt (blk_lt (g := gb340) (o := .cells #[.slice A1 l1.length c1] 22 (0, 0)) (by (with_reducible repeat (first | refine blk_drewN ?_ _ | refine blk_drew ?_ | refine blk_alloc ?_ _)); exact BK340.out)) : gb341 ≠ gb340)); clear BK339; clear BK340; clear HB; have BK339 := n0_; have BK340 := n1_; have HB := n2_; have BK341 := n3_; have GW341 := n4_; have GE341 := n5_; have NB339_341 := n6_; have NB341_339 := n7_; have NB340_341 := n8_; have NB341_340 := n9_; clear n0_ n1_ n2_ n3_ n4_ n5_ n6_ n7_ n8_ n9_; clear hb hbox hg; have hnb8 := NB339_340.out; have hnc8 := NB340_339.out; have hnb9 := NB339_341.out; have hnc9 := NB341_339.out; have hcz10_0 : w7.cell? ⟨gb339, 0, none⟩ = some (.int .i64 a0_0) := (blk_cell BK339.out 0).trans rfl; have hcz10_1 : w7.cell? ⟨gb339, 1, none⟩ = some (.slice A0_1 l0_1.length c0_1) := (blk_cell BK339.out 1).trans rfl; have hfz10_0 := blk_frozen BK339.out 0; have hfz10_1 := blk_frozen BK339.out 1) | ((with_reducible refine gate_callee (f := 50) rfl ?_); refine goesL_ (some 9) rfl rfl Try.func50 (by kernel_rfl) rfl #[.agg #[.int .i64 a0_0, .slice A0_1 l0_1.length c0_1], .func (.func 78) #[] #[.pointer (some ⟨gb339, 0, none⟩), .pointer (some ⟨gb340, 0, none⟩), .pointer (some ⟨gb341, 0, none⟩)]] rfl (by (try simp only [List.map_toArray, List.map_cons, List.map_nil]); first | done | rfl | (simp only [List.length_drop, List.length_take]; rfl)) ?_; (with_reducible refine (impl_setCode_at_impl_planCode_1.calls k a0_0 _ _ l0_1 gb339 a0_0 A0_1 c0_1 l0_1 gb340 A1 c1 l1 gb341 A2 c2 l2 t342 _ ?side1 ?side2 ?side3 ?side4 ?side5 ?side6 ?side7 ?side8 ?side9 ?side10 ?side11 A4.out).mono ?_); (case side1 => repeat (first | exact (Kd.C_below HR0_1.out HB.out) | (with_reducible refine Kd.C_alloc ?_ _) | (with_reducible refine Kd.C_drewN ?_ _) | (with_reducible refine Kd.C_drew ?_))); (case side2 => exact HC0_1.out); (case side3 => repeat (first | exact (Kd.C_below HR0_1.out HB.out) | (with_reducible refine Kd.C_alloc ?_ _) | (with_reducible refine Kd.C_drewN ?_ _) | (with_reducible refine Kd.C_drew ?_))); (case side4 => exact HC0_1.out); (case side5 => repeat (first | exact (Kd.C_below HR1.out HB.out) | (with_reducible refine Kd.C_alloc ?_ _) | (with_reducible refine Kd.C_drewN ?_ _) | (with_reducible refine Kd.C_drew ?_))); (case side6 => exact HC1.out); (case side7 => repeat (first | exact (Kd.C_below HR2.out HB.out) | (with_reducible refine Kd.C_alloc ?_ _) | (with_reducible refine Kd.C_drewN ?_ _) | (with_reducible refine Kd.C_drew ?_))); (case side8 => exact HC2.out); (case side9 => exact (by (with_reducible repeat (first | refine blk_drewN ?_ _ | refine blk_drew ?_ | refine blk_alloc ?_ _)); exact BK339.out)); (case side10 => exact (by (with_reducible repeat (first | refine blk_drewN ?_ _ | refine blk_drew ?_ | refine blk_alloc ?_ _)); exact BK340.out)); (case side11 => exact (by (with_reducible repeat (first | refine blk_drewN ?_ _ | refine blk_drew ?_ | refine blk_alloc ?_ _)); exact BK341.out)); rintro e w11 ⟨rfl, hb⟩; refine ⟨_, rfl, ?_⟩; have n0_ := Aside0.mk (blk_below (g := gb339) (o := .cells #[.int .i64 a0_0, .slice A0_1 l0_1.length c0_1] 36 (0, 0)) (by (with_reducible repeat (first | refine blk_drewN ?_ _ | refine blk_drew ?_ | refine blk_alloc ?_ _)); exact BK339.out) hb); have n1_ := Aside0.mk (blk_below (g := gb340) (o := .cells #[.slice A1 l1.length c1] 22 (0, 0)) (by (with_reducible repeat (first | refine blk_drewN ?_ _ | refine blk_drew ?_ | refine blk_alloc ?_ _)); exact BK340.out) hb); have n2_ := Aside0.mk (blk_below (g := gb341) (o := .cells #[.slice A2 l2.length c2] 22 (0, 0)) (by (with_reducible repeat (first | refine blk_drewN ?_ _ | refine blk_drew ?_ | refine blk_alloc ?_ _)); exact BK341.out) hb); have n3_ := Aside0.mk (below_step (by repeat (first | (with_reducible first | exact HB.out | apply below_alloc | apply pw_below_drewN | apply below_drew1 | refine below_set ?_ GE339.out | refine below_set ?_ GE340.out | refine below_set ?_ GE341.out) | exact HB.out)) hb); clear BK339; clear BK340; clear BK341; clear HB; have BK339 := n0_; have BK340 := n1_; have BK341 := n2_; have HB := n3_; clear n0_ n1_ n2_ n3_; (try clear hb); (try clear hb2); (try clear hk); (try clear hi)))
 go_ret
 exact ⟨by first | rfl | (simp [errW_none, errW_some] <;> rfl) | (simp [*, errW_none, errW_some] <;> rfl), by repeat (first | (with_reducible first | exact HB.out | apply below_alloc | apply pw_below_drewN | apply below_drew1 | refine below_set ?_ GE339.out | refine below_set ?_ GE340.out | refine below_set ?_ GE341.out) | exact HB.out)⟩
end Go.Proofs.Ytcaikaflpmaocaa.Q
namespace Go.Proofs.Ytcaikaflpmaocaa
open Go Go.RowKit Go.Proofs Go.Proofs.YtcaikaflpmaocaaW.PrintWords Go.Proofs.YtcaikaflpmaocaaW.PrintMore Go.Proofs.Ytcaikaflpmaocaa.Q
set_option linter.unusedVariables false
set_option linter.unusedSimpArgs false
theorem succW (m : Nat) (h : m < 1000000000) : wrap64 ((m : Int) + 1) = ((m + 1 : Nat) : Int) := by unfold wrap64; omega
theorem le_ofS {w : World} {lo hi : Nat} {A : Option Addr} {n c : Nat} {xs : List (List Int)} {cs : Nat → List Value} (h : OWS w lo hi (.slice A n c) xs cs) : n ≤ c := by
  obtain ⟨A', c', g, hv, e, hc, -⟩ := h.ex
  injection e with e1 e2 e3
  omega
def sumF (f : Nat → Nat) : Nat → Nat → Nat
  | 0, _ => 0
  | d + 1, i => f i + sumF f d (i + 1)
theorem sumF_tot (f : Nat → Nat) : ∀ d m, tot f m + sumF f d m = tot f (m + d) := by
  intro d
  induction d with
  | zero => intro m; simp [sumF]
  | succ d ih =>
    intro m
    have := ih (m + 1)
    rw [sumF, show m + (d + 1) = m + 1 + d by omega, ← this, tot]
    omega
theorem szRow_f (row : List Int) (left : Int) (h0 : 0 ≤ left) (h1 : left ≤ 1048576) (hl : row.length ≤ 9223372036854775807) : laws_szInt64S.f row left = some (if left < (row.length : Nat) then -1 else left - (row.length : Nat)) := by
  have e : wrap64 (left - (row.length : Int)) = left - (row.length : Int) := by unfold wrap64; omega
  rw [laws_szInt64S.f, e]
  by_cases h : left < (row.length : Int)
  · rw [if_pos (show left - (row.length : Int) < 0 by omega), if_pos h]
  · rw [if_neg (show ¬ left - (row.length : Int) < 0 by omega), if_neg h]
theorem szRows_l0 (xs : List (List Int)) (hx : xs.length ≤ 1048576) (hr : ∀ i, i < xs.length → rowLen xs i ≤ 9223372036854775807) : ∀ d m (left : Int), m + d = xs.length → 0 ≤ left → left ≤ 1048576 →
    Ev (fun k => laws_szInt64SS.l0 k xs left (m : Int)) (if left < (sumF (rowLen xs) d m : Nat) then -1 else left - (sumF (rowLen xs) d m : Nat)) := by
  intro d
  induction d with
  | zero =>
    intro m left hm h0 h1
    have b1 : ¬ (m : Int) < (xs.length : Int) := by omega
    rw [sumF, if_neg (by omega)]
    exact Ev.step (f := fun _ => some _) (fun k => by rw [laws_szInt64SS.l0, if_neg b1]) (by simpa using Ev.now left)
  | succ d ih =>
    intro m left hm h0 h1
    have b1 : (m : Int) < (xs.length : Int) := by omega
    have b2 : (0 : Int) ≤ (m : Int) := Int.natCast_nonneg m
    have hm9 : m < 1000000000 := by omega
    have e1 : rd_L1 xs (m : Int) = rowAt xs m := by simp [rd_L1, rowAt]
    have hs := szRow_f (rowAt xs m) left h0 h1 (hr m (by omega))
    have el : (rowAt xs m).length = rowLen xs m := rfl
    rw [el] at hs
    rw [sumF]
    by_cases q : left < (rowLen xs m : Int)
    · rw [if_pos q] at hs
      rw [if_pos (by omega)]
      exact Ev.step (f := fun _ => some (-1)) (fun k => by rw [laws_szInt64SS.l0, if_pos b1, if_pos b2, e1, hs]; rfl) (Ev.now _)
    · rw [if_neg q] at hs
      have n0 : ¬ left - (rowLen xs m : Int) < 0 := by omega
      have hi := ih (m + 1) (left - (rowLen xs m : Int)) (by omega) (by omega) (by omega)
      have e : (if left - (rowLen xs m : Int) < (sumF (rowLen xs) d (m + 1) : Nat) then -1 else left - (rowLen xs m : Int) - (sumF (rowLen xs) d (m + 1) : Nat)) = (if left < ((rowLen xs m + sumF (rowLen xs) d (m + 1) : Nat) : Int) then -1 else left - ((rowLen xs m + sumF (rowLen xs) d (m + 1) : Nat) : Int)) := by
        by_cases q2 : left - (rowLen xs m : Int) < (sumF (rowLen xs) d (m + 1) : Nat)
        · rw [if_pos q2, if_pos (by omega)]
        · rw [if_neg q2, if_neg (by omega)]; omega
      rw [e] at hi
      exact Ev.step (fun k => by rw [laws_szInt64SS.l0, if_pos b1, if_pos b2, e1, hs, Option.bind_some, if_neg n0, succW m hm9]) hi
theorem szInt64SS_any (A : Option Addr) (xs : List (List Int)) (n c : Nat) (left : Int) (w : World) (hn : n = xs.length) (hA : RR w A xs) (hnc : n ≤ c) (hl : n ≤ 35184372088832) (h0 : 0 ≤ left) (h1 : left ≤ 1048576) :
    Calls Try.prog 25 #[.slice A n c, .int .i64 left] w fun e w' => e = .returned (.int .i64 (if left < ((xs.length + rowsz0 xs : Nat) : Int) then -1 else left - ((xs.length + rowsz0 xs : Nat) : Int))) ∧ Below w.heap.size w w' := by
  subst hn
  have hr : ∀ i, i < xs.length → rowLen xs i ≤ 9223372036854775807 := fun i hi => by
    obtain ⟨-, -, -, -, -, -, -, -, -, h⟩ := hA i hi
    exact h
  have e : wrap64 (left - (xs.length : Int)) = left - (xs.length : Int) := by unfold wrap64; omega
  have ev : Ev (fun k => laws_szInt64SS.f k xs left) (if left < ((xs.length + rowsz0 xs : Nat) : Int) then -1 else left - ((xs.length + rowsz0 xs : Nat) : Int)) := by
    by_cases q : left - (xs.length : Int) < 0
    · rw [if_pos (by omega)]
      exact Ev.congr (fun k => by rw [laws_szInt64SS.f, e, if_pos q]) (Ev.now _)
    · have h := szRows_l0 xs (by omega) hr xs.length 0 (left - (xs.length : Int)) (by omega) (by omega) (by omega)
      have et : sumF (rowLen xs) xs.length 0 = rowsz0 xs := by
        have := sumF_tot (rowLen xs) xs.length 0
        rw [tot, Nat.zero_add, Nat.zero_add] at this
        exact this
      rw [et] at h
      have e2 : (if left - (xs.length : Int) < (rowsz0 xs : Nat) then -1 else left - (xs.length : Int) - (rowsz0 xs : Nat)) = (if left < ((xs.length + rowsz0 xs : Nat) : Int) then -1 else left - ((xs.length + rowsz0 xs : Nat) : Int)) := by
        by_cases q2 : left - (xs.length : Int) < (rowsz0 xs : Nat)
        · rw [if_pos q2, if_pos (by omega)]
        · rw [if_neg q2, if_neg (by omega)]; omega
      rw [e2] at h
      exact Ev.congr (fun k => by rw [laws_szInt64SS.f, e, if_neg q]; rfl) h
  obtain ⟨k, hk⟩ := ev.rounds
  exact (laws_szInt64SS.calls k A c xs left _ w (C_of_rr hA (by omega)) hnc hk).mono fun e w' ⟨h1, h2⟩ => ⟨h1, h2.below⟩
theorem set_take {α : Type} (l : List α) (z : α) (m d : Nat) (h : m + (d + 1) = l.length) : (l.take m ++ List.replicate (d + 1) z).set m (l[m]'(by omega)) = l.take (m + 1) ++ List.replicate d z := by
  have hl : (l.take m).length = m := by rw [List.length_take]; omega
  rw [List.set_append_right _ _ (by omega), hl, Nat.sub_self, List.replicate_succ, List.set_cons_zero, List.take_succ_eq_append_getElem (by omega), List.append_assoc]
  rfl
theorem toRow_ev (row : List Int) (hr : row.length ≤ 10000000) : Ev (fun k => laws_toInt64S.f k row) row := by
  have go : ∀ d m, m + d = row.length → Ev (fun k => laws_toInt64S.l0 k row (row.take m ++ List.replicate d 0) (m : Int)) row := by
    intro d
    induction d with
    | zero =>
      intro m hm
      have b1 : ¬ (m : Int) < (row.length : Int) := by omega
      refine Ev.step (f := fun _ => some row) (fun k => ?_) (Ev.now _)
      rw [laws_toInt64S.l0, if_neg b1, List.take_of_length_le (by omega)]; simp
    | succ d ih =>
      intro m hm
      have hlt : m < row.length := by omega
      have b1 : (m : Int) < (row.length : Int) := by omega
      have b2 : (0 : Int) ≤ (m : Int) := Int.natCast_nonneg m
      have b3 : (m : Int) < ((row.take m ++ List.replicate (d + 1) (0 : Int)).length : Int) := by rw [List.length_append, List.length_take, List.length_replicate]; omega
      have hm9 : m < 1000000000 := by omega
      have e1 : rd row (m : Int) = row[m] := by simp [rd, List.getD, List.getElem?_eq_getElem hlt]
      refine Ev.step (fun k => ?_) (ih (m + 1) (by omega))
      rw [laws_toInt64S.l0, if_pos b1, if_pos b2, if_pos b3, e1, Int.toNat_natCast, set_take row 0 m d hm, succW m hm9]
  have h := go row.length 0 (by omega)
  rw [List.take_zero, List.nil_append] at h
  exact Ev.congr (fun k => by rw [laws_toInt64S.f, if_pos (by omega), Int.toNat_natCast, if_pos (by omega)]; rfl) h
theorem toRows_ev (xs : List (List Int)) (hx : xs.length ≤ 10000000) (hr : ∀ r ∈ xs, r.length ≤ 10000000) : Ev (fun k => laws_toInt64SS.f k xs) xs := by
  have go : ∀ d m, m + d = xs.length → Ev (fun k => laws_toInt64SS.l0 k xs (xs.take m ++ List.replicate d []) (m : Int)) xs := by
    intro d
    induction d with
    | zero =>
      intro m hm
      have b1 : ¬ (m : Int) < (xs.length : Int) := by omega
      refine Ev.step (f := fun _ => some xs) (fun k => ?_) (Ev.now _)
      rw [laws_toInt64SS.l0, if_neg b1, List.take_of_length_le (by omega)]; simp
    | succ d ih =>
      intro m hm
      have hlt : m < xs.length := by omega
      have b1 : (m : Int) < (xs.length : Int) := by omega
      have b2 : (0 : Int) ≤ (m : Int) := Int.natCast_nonneg m
      have b3 : (m : Int) < ((xs.take m ++ List.replicate (d + 1) ([] : List Int)).length : Int) := by rw [List.length_append, List.length_take, List.length_replicate]; omega
      have hm9 : m < 1000000000 := by omega
      have e1 : rd_L1 xs (m : Int) = xs[m] := by simp [rd_L1, List.getD, List.getElem?_eq_getElem hlt]
      refine Ev.step (f := fun k => (laws_toInt64S.f k xs[m]).bind fun t => if (m : Int) < ((xs.take m ++ List.replicate (d + 1) ([] : List Int)).length : Int) then laws_toInt64SS.l0 k xs ((xs.take m ++ List.replicate (d + 1) ([] : List Int)).set (m : Int).toNat t) (wrap64 ((m : Int) + 1)) else none) (fun k => ?_) (Ev.bind (toRow_ev xs[m] (hr _ (List.getElem_mem hlt))) (Ev.congr (fun k => ?_) (ih (m + 1) (by omega))))
      · rw [laws_toInt64SS.l0, if_pos b1, if_pos b2, e1]
      · rw [if_pos b3, Int.toNat_natCast, set_take xs [] m d hm, succW m hm9]
  have h := go xs.length 0 (by omega)
  rw [List.take_zero, List.nil_append] at h
  exact Ev.congr (fun k => by rw [laws_toInt64SS.f, if_pos (by omega), Int.toNat_natCast, if_pos (by omega)]; rfl) h
theorem rows_lens {xs : List (List Int)} {b : Nat} (h : rowsz0 xs ≤ b) : ∀ r ∈ xs, r.length ≤ b := by
  intro r hr
  obtain ⟨i, hi, e⟩ := List.mem_iff_getElem.1 hr
  have := rowsz0_row hi
  rw [rowLen, rowAt_at hi, e] at this
  omega
theorem toInt64SS_any (A : Option Addr) (xs : List (List Int)) (n c : Nat) (w : World) (hn : n = xs.length) (hA : RR w A xs) (hnc : n ≤ c) (hl : xs.length ≤ 10000000 ∧ rowsz0 xs ≤ 10000000) :
    Calls Try.prog 27 #[.slice A n c] w fun e w' => ∃ v, e = .returned v ∧ OWS w' w.heap.size w'.heap.size v xs (fun i => icells (rowAt xs i)) ∧ Below w.heap.size w w' := by
  subst hn
  obtain ⟨k, hk⟩ := (toRows_ev xs hl.1 (rows_lens hl.2)).rounds
  exact (laws_toInt64SS.calls k A c xs _ w (C_of_rr hA (by omega)) hnc hk).mono fun e w' ⟨v, he, hR, hB⟩ => ⟨v, he, ows_of_S hR, hB⟩
end Go.Proofs.Ytcaikaflpmaocaa

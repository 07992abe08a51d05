/-
  Parts of the proof, in their order: QImplPutTile, PPutTile, LawPutTile.
-/
import Derived.Test.YtnjmgmdpkogocaaPk17
import Derived.Test.YtnjmgmdpkogocaaPk20
import Derived.Test.YtnjmgmdpkogocaaPk18
import Derived.Test.YtnjmgmdpkogocaaPk21
import Derived.Test.YtnjmgmdpkogocaaPk6
import Derived.Test.YtnjmgmdpkogocaaPk5
import Derived.Deep.RegionHeld3
-- Printed by a program of this session (the kit's print, turned: printpatch.py) out of Lean's print of the translation. Lean checks it.
namespace Go.Proofs.Ytnjmgmdpkogocaa.Q
open Go.RowKit Go.Proofs.YtnjmgmdpkogocaaW.PrintWords Go.Proofs.YtnjmgmdpkogocaaW.PrintLast Go.Proofs.YtnjmgmdpkogocaaW.PrintMore
attribute [local go_sem] max2_int min2_int max_two min_two max_three min_three max_four min_four   -- for this text's walks alone
set_option linter.unusedVariables false
set_option linter.unusedSimpArgs false

/-! ### impl_PutTile: function 38 -/
def impl_PutTile.f (a0_0 : Int) (l0_1 : List (S45)) (a1_0 : Int) (a1_1 : Int) (a1_2 : Int) (a1_3 : Int) : Option (Int × (List (S45)) × Int) := (impl_setCode_at_impl_PutTile_1.f a0_0 l0_1 a1_0 a1_1 a1_2 a1_3 a0_0 l0_1).bind fun t438 => (if t438 = 0 then ((slices_Contains_impl_Tile_impl_Tile.f l0_1 a1_0 a1_1 a1_2 a1_3).bind fun t439 => (if t439 = true then (some (0, ([] : List (S45)), 5)) else ((slices_Clone_impl_Tile_impl_Tile.f l0_1).bind fun t440 => ((some (([(⟨a1_0, a1_1, a1_2, a1_3⟩ : S45)] : List (S45)) : List (S45))).bind fun y443 => (if t440.length + y443.length < 4398046511104 then ((impl_limited.f a0_0 (t440 ++ y443)).bind fun bt449 => (some (bt449.1, bt449.2.1, bt449.2.2))) else (none)))))) else (some (0, ([] : List (S45)), t438)))
def impl_PutTile.T6 : Bool × List (List Nat × List Nat) := (true, [([], []), ([0], [0]), ([], []), ([2], [2]), ([3], [3]), ([], []), ([5], [5]), ([4, 6, 4], [4, 6]), ([1, 7, 7], [1, 7]), ([8], [8]), ([8], [8]), ([9, 8, 0, 1, 2, 3, 4, 5, 6, 7, 8, 9, 10], [9]), ([10, 11, 0, 1, 2, 3, 4, 5, 6, 7, 8, 9, 10, 11], [10])])
def impl_PutTile.B6 : List Nat := [0, 1, 0, 4, 12, 0, 32, 124, 255, 511, 511, 2047, 4095]
theorem impl_PutTile.tab6 : rtab .any (opsOf Try.f38 6) = impl_PutTile.T6 := by kernel_rfl
theorem impl_PutTile.bits6 : waitsOk impl_PutTile.T6.2 impl_PutTile.B6 = true := by kernel_rfl
set_option maxHeartbeats 8000000 in
set_option maxRecDepth 100000 in
theorem impl_PutTile.calls (a0_0 : Int) (A0_1 : Option Addr) (c0_1 : Nat) (l0_1 : List (S45)) (a1_0 : Int) (a1_1 : Int) (a1_2 : Int) (a1_3 : Int) (r1 : Int) (r2 : List (S45)) (r3 : Int) (w : World) (hr0_1 : Kd.C k45 w A0_1 l0_1.length l0_1) (hc0_1 : l0_1.length ≤ c0_1) (h : impl_PutTile.f a0_0 l0_1 a1_0 a1_1 a1_2 a1_3 = some (r1, r2, r3)) :
  Calls Try.prog 38 #[.agg #[.int .i64 a0_0, .slice A0_1 l0_1.length c0_1], .agg #[.int .i64 a1_0, .int .i64 a1_1, .int .i64 a1_2, .int .i64 a1_3]] w fun e w' => ∃ v1_ : Value, e = .returned (.tuple #[.agg #[.int .i64 r1, v1_], .int .i64 r3]) ∧ Kd.R k45 45 w' w.heap.size (fun _ => True) v1_ r2 ∧ Below w.heap.size w w' := by
 have hu26 := Try.underlying26
 have hu45 := Try.underlying45
 have HR0_1 := Aside0.mk hr0_1
 have HC0_1 := Aside0.mk hc0_1
 clear hr0_1 hc0_1
 have HB := Aside0.mk (Below.refl w.heap.size w)
 have H : ((impl_setCode_at_impl_PutTile_1.f a0_0 l0_1 a1_0 a1_1 a1_2 a1_3 a0_0 l0_1).bind fun t438 => (if t438 = 0 then ((slices_Contains_impl_Tile_impl_Tile.f l0_1 a1_0 a1_1 a1_2 a1_3).bind fun t439 => (if t439 = true then (some (0, ([] : List (S45)), 5)) else ((slices_Clone_impl_Tile_impl_Tile.f l0_1).bind fun t440 => ((some (([(⟨a1_0, a1_1, a1_2, a1_3⟩ : S45)] : List (S45)) : List (S45))).bind fun y443 => (if t440.length + y443.length < 4398046511104 then ((impl_limited.f a0_0 (t440 ++ y443)).bind fun bt449 => (some (bt449.1, bt449.2.1, bt449.2.2))) else (none)))))) else (some (0, ([] : List (S45)), t438)))) = some (r1, r2, r3) := h
 clear h
 replace H := Option.bind_eq_some_iff.mp H
 obtain ⟨t438, A30, H⟩ := H
 replace H : (if t438 = 0 then ((slices_Contains_impl_Tile_impl_Tile.f l0_1 a1_0 a1_1 a1_2 a1_3).bind fun t439 => (if t439 = true then (some (0, ([] : List (S45)), 5)) else ((slices_Clone_impl_Tile_impl_Tile.f l0_1).bind fun t440 => ((some (([(⟨a1_0, a1_1, a1_2, a1_3⟩ : S45)] : List (S45)) : List (S45))).bind fun y443 => (if t440.length + y443.length < 4398046511104 then ((impl_limited.f a0_0 (t440 ++ y443)).bind fun bt449 => (some (bt449.1, bt449.2.1, bt449.2.2))) else (none)))))) else (some (0, ([] : List (S45)), t438))) = some (r1, r2, r3) := H
 have A3 := Aside0.mk A30
 clear A30
 by_cases c4 : t438 = 0
 ·rw [if_pos c4] at H
  have c4b0 : (t438 == 0) = true := beq_iff_eq.mpr c4
  have c4b1 : (t438 != 0) = false := bne_eq_false_iff_eq.mpr c4
  clear c4
  replace H := Option.bind_eq_some_iff.mp H
  obtain ⟨t439, A50, H⟩ := H
  replace H : (if t439 = true then (some (0, ([] : List (S45)), 5)) else ((slices_Clone_impl_Tile_impl_Tile.f l0_1).bind fun t440 => ((some (([(⟨a1_0, a1_1, a1_2, a1_3⟩ : S45)] : List (S45)) : List (S45))).bind fun y443 => (if t440.length + y443.length < 4398046511104 then ((impl_limited.f a0_0 (t440 ++ y443)).bind fun bt449 => (some (bt449.1, bt449.2.1, bt449.2.2))) else (none))))) = some (r1, r2, r3) := H
  have A5 := Aside0.mk A50
  clear A50
  by_cases c6 : t439 = true
  ·subst c6
   have H1 : (some (0, ([] : List (S45)), 5)) = some (r1, r2, r3) := by rw [if_pos rfl] at H; exact H
   clear H
   have H := H1
   clear H1
   simp only [Option.some.injEq, Prod.mk.injEq] at H
   obtain ⟨rfl, rfl, rfl⟩ := H
   go_enter Try.func38, Try.ntmps38
   go_wp2_with (first | ((with_reducible refine gate_dst (N := 2) rfl ?_); refine box_event ?hg (N := 2) ?hd (cs := #[.int .i64 a0_0, .slice A0_1 l0_1.length c0_1]) (t := 26) ?hr ?_; (case hd => rfl); (case hg => rfl); (case hr => first | (go_simp; done) | (go_simp; rfl)); intro gb435 hg w7 hbox hb; have n0_ := Aside0.mk (below_step (by repeat (first | (with_reducible first | exact HB.out | apply below_alloc | apply pw_below_drewN | apply below_drew1) | exact HB.out)) hb); have n1_ := Aside0.mk (hbox); have n2_ := Aside0.mk ((by rw [hg]; exact (below_size (by repeat (first | (with_reducible first | exact HB.out | apply below_alloc | apply pw_below_drewN | apply below_drew1) | exact HB.out))) : w.heap.size ≤ gb435)); have n3_ := Aside0.mk ((by rw [hg]; exact (below_size (by repeat (first | (with_reducible first | exact HB.out | apply below_alloc | apply pw_below_drewN | apply below_drew1) | exact HB.out))) : w.heap.size ≤ gb435)); clear HB; have HB := n0_; have BK435 := n1_; have GW435 := n2_; have GE435 := n3_; clear n0_ n1_ n2_ n3_; clear hb hbox hg) | ((with_reducible refine gate_dst (N := 3) rfl ?_); refine box_event ?hg (N := 3) ?hd (cs := #[.int .i64 a1_0, .int .i64 a1_1, .int .i64 a1_2, .int .i64 a1_3]) (t := 45) ?hr ?_; (case hd => rfl); (case hg => rfl); (case hr => first | (go_simp; done) | (go_simp; rfl)); intro gb436 hg w8 hbox hb; have n0_ := Aside0.mk (blk_below (g := gb435) (o := .cells #[.int .i64 a0_0, .slice A0_1 l0_1.length c0_1] 26 (0, 0)) (by (with_reducible repeat (first | refine blk_drewN ?_ _ | refine blk_drew ?_ | refine blk_alloc ?_ _)); exact BK435.out) hb); have n1_ := Aside0.mk (below_step (by repeat (first | (with_reducible first | exact HB.out | apply below_alloc | apply pw_below_drewN | apply below_drew1 | refine below_set ?_ GE435.out) | exact HB.out)) hb); have n2_ := Aside0.mk (hbox); have n3_ := Aside0.mk ((by rw [hg]; exact (below_size (by repeat (first | (with_reducible first | exact HB.out | apply below_alloc | apply pw_below_drewN | apply below_drew1 | refine below_set ?_ GE435.out) | exact HB.out))) : w.heap.size ≤ gb436)); have n4_ := Aside0.mk ((by rw [hg]; exact (below_size (by repeat (first | (with_reducible first | exact HB.out | apply below_alloc | apply pw_below_drewN | apply below_drew1 | refine below_set ?_ GE435.out) | exact HB.out))) : w.heap.size ≤ gb436)); have n5_ := Aside0.mk ((by rw [hg]; exact Nat.ne_of_lt (blk_lt (g := gb435) (o := .cells #[.int .i64 a0_0, .slice A0_1 l0_1.length c0_1] 26 (0, 0)) (by (with_reducible repeat (first | refine blk_drewN ?_ _ | refine blk_drew ?_ | refine blk_alloc ?_ _)); exact BK435.out)) : gb435 ≠ gb436)); have n6_ := Aside0.mk ((by rw [hg]; exact Nat.ne_of_gt (blk_lt (g := gb435) (o := .cells #[.int .i64 a0_0, .slice A0_1 l0_1.length c0_1] 26 (0, 0)) (by (with_reducible repeat (first | refine blk_drewN ?_ _ | refine blk_drew ?_ | refine blk_alloc ?_ _)); exact BK435.out)) : gb436 ≠ gb435)); clear BK435; clear HB; have BK435 := n0_; have HB := n1_; have BK436 := n2_; have GW436 := n3_; have GE436 := n4_; have NB435_436 := n5_; have NB436_435 := n6_; clear n0_ n1_ n2_ n3_ n4_ n5_ n6_; clear hb hbox hg) | ((with_reducible refine gate_dst (N := 4) rfl ?_); refine box_event ?hg (N := 4) ?hd (cs := #[.int .i64 0, .slice none 0 0]) (t := 26) ?hr ?_; (case hd => rfl); (case hg => rfl); (case hr => first | (go_simp; done) | (go_simp; rfl)); intro gb437 hg w9 hbox hb; have n0_ := Aside0.mk (blk_below (g := gb435) (o := .cells #[.int .i64 a0_0, .slice A0_1 l0_1.length c0_1] 26 (0, 0)) (by (with_reducible repeat (first | refine blk_drewN ?_ _ | refine blk_drew ?_ | refine blk_alloc ?_ _)); exact BK435.out) hb); have n1_ := Aside0.mk (blk_below (g := gb436) (o := .cells #[.int .i64 a1_0, .int .i64 a1_1, .int .i64 a1_2, .int .i64 a1_3] 45 (0, 0)) (by (with_reducible repeat (first | refine blk_drewN ?_ _ | refine blk_drew ?_ | refine blk_alloc ?_ _)); exact BK436.out) hb); have n2_ := Aside0.mk (below_step (by repeat (first | (with_reducible first | exact HB.out | apply below_alloc | apply pw_below_drewN | apply below_drew1 | refine below_set ?_ GE435.out | refine below_set ?_ GE436.out) | exact HB.out)) hb); have n3_ := Aside0.mk (hbox); have n4_ := Aside0.mk ((by rw [hg]; exact (below_size (by repeat (first | (with_reducible first | exact HB.out | apply below_alloc | apply pw_below_drewN | apply below_drew1 | refine below_set ?_ GE435.out | refine below_set ?_ GE436.out) | exact HB.out))) : w.heap.size ≤ gb437)); have n5_ := Aside0.mk ((by rw [hg]; exact (below_size (by repeat (first | (with_reducible first | exact HB.out | apply below_alloc | apply pw_below_drewN | apply below_drew1 | refine below_set ?_ GE435.out | refine below_set ?_ GE436.out) | exact HB.out))) : w.heap.size ≤ gb437)); have n6_ := Aside0.mk ((by rw [hg]; exact Nat.ne_of_lt (blk_lt (g := gb435) (o := .cells #[.int .i64 a0_0, .slice A0_1 l0_1.length c0_1] 26 (0, 0)) (by (with_reducible repeat (first | refine blk_drewN ?_ _ | refine blk_drew ?_ | refine blk_alloc ?_ _)); exact BK435.out)) : gb435 ≠ gb437)); have n7_ := Aside0.mk ((by rw [hg]; exact Nat.ne_of_gt (blk_lt (g := gb435) (o := .cells #[.int .i64 a0_0, .slice A0_1 l0_1.length c0_1] 26 (0, 0)) (by (with_reducible repeat (first | refine blk_drewN ?_ _ | refine blk_drew ?_ | refine blk_alloc ?_ _)); exact BK435.out)) : gb437 ≠ gb435)); have n8_ := Aside0.mk ((by rw [hg]; exact Nat.ne_of_lt (blk_lt (g := gb436) (o := .cells #[.int .i64 a1_0, .int .i64 a1_1, .int .i64 a1_2, .int .i64 a1_3] 45 (0, 0)) (by (with_reducible repeat (first | refine blk_drewN ?_ _ | refine blk_drew ?_ | refine blk_alloc ?_ _)); exact BK436.out)) : gb436 ≠ gb437)); have n9_ := Aside0.mk ((by rw [hg]; exact Nat.ne_of_gt (blk_lt (g := gb436) (o := .cells #[.int .i64 a1_0, .int .i64 a1_1, .int .i64 a1_2, .int .i64 a1_3] 45 (0, 0)) (by (with_reducible repeat (first | refine blk_drewN ?_ _ | refine blk_drew ?_ | refine blk_alloc ?_ _)); exact BK436.out)) : gb437 ≠ gb436)); clear BK435; clear BK436; clear HB; have BK435 := n0_; have BK436 := n1_; have HB := n2_; have BK437 := n3_; have GW437 := n4_; have GE437 := n5_; have NB435_437 := n6_; have NB437_435 := n7_; have NB436_437 := n8_; have NB437_436 := n9_; clear n0_ n1_ n2_ n3_ n4_ n5_ n6_ n7_ n8_ n9_; clear hb hbox hg; have hnb10 := NB435_436.out; have hnc10 := NB436_435.out; have hnb11 := NB435_437.out; have hnc11 := NB437_435.out; have hcz12_0 : w9.cell? ⟨gb435, 0, none⟩ = some (.int .i64 a0_0) := (blk_cell BK435.out 0).trans rfl; have hcz12_1 : w9.cell? ⟨gb435, 1, none⟩ = some (.slice A0_1 l0_1.length c0_1) := (blk_cell BK435.out 1).trans rfl; have hfz12_0 := blk_frozen BK435.out 0; have hfz12_1 := blk_frozen BK435.out 1) | ((with_reducible refine gate_callee (f := 77) rfl ?_); refine goesL_ (some 9) rfl rfl Try.func77 (by kernel_rfl) rfl #[.agg #[.int .i64 a0_0, .slice A0_1 l0_1.length c0_1], .func (.func 78) #[] #[.pointer (some ⟨gb436, 0, none⟩), .pointer (some ⟨gb435, 0, none⟩)]] rfl (by (try simp only [List.map_toArray, List.map_cons, List.map_nil]); first | done | rfl | (simp only [List.length_drop, List.length_take]; rfl)) ?_; (with_reducible refine (impl_setCode_at_impl_PutTile_1.calls a0_0 _ _ l0_1 gb436 a1_0 a1_1 a1_2 a1_3 gb435 a0_0 A0_1 c0_1 l0_1 t438 _ ?side1 ?side2 ?side3 ?side4 ?side5 ?side6 A3.out).mono ?_); (case side1 => repeat (first | exact (Kd.C_below HR0_1.out HB.out) | (with_reducible refine Kd.C_alloc ?_ _) | (with_reducible refine Kd.C_drewN ?_ _) | (with_reducible refine Kd.C_drew ?_))); (case side2 => exact HC0_1.out); (case side3 => repeat (first | exact (Kd.C_below HR0_1.out HB.out) | (with_reducible refine Kd.C_alloc ?_ _) | (with_reducible refine Kd.C_drewN ?_ _) | (with_reducible refine Kd.C_drew ?_))); (case side4 => exact HC0_1.out); (case side5 => exact (by (with_reducible repeat (first | refine blk_drewN ?_ _ | refine blk_drew ?_ | refine blk_alloc ?_ _)); exact BK436.out)); (case side6 => exact (by (with_reducible repeat (first | refine blk_drewN ?_ _ | refine blk_drew ?_ | refine blk_alloc ?_ _)); exact BK435.out)); rintro e w13 ⟨rfl, hb⟩; refine ⟨_, rfl, ?_⟩; have n0_ := Aside0.mk (blk_below (g := gb435) (o := .cells #[.int .i64 a0_0, .slice A0_1 l0_1.length c0_1] 26 (0, 0)) (by (with_reducible repeat (first | refine blk_drewN ?_ _ | refine blk_drew ?_ | refine blk_alloc ?_ _)); exact BK435.out) hb); have n1_ := Aside0.mk (blk_below (g := gb436) (o := .cells #[.int .i64 a1_0, .int .i64 a1_1, .int .i64 a1_2, .int .i64 a1_3] 45 (0, 0)) (by (with_reducible repeat (first | refine blk_drewN ?_ _ | refine blk_drew ?_ | refine blk_alloc ?_ _)); exact BK436.out) hb); have n2_ := Aside0.mk (blk_below (g := gb437) (o := .cells #[.int .i64 0, .slice none 0 0] 26 (0, 0)) (by (with_reducible repeat (first | refine blk_drewN ?_ _ | refine blk_drew ?_ | refine blk_alloc ?_ _)); exact BK437.out) hb); have n3_ := Aside0.mk (below_step (by repeat (first | (with_reducible first | exact HB.out | apply below_alloc | apply pw_below_drewN | apply below_drew1 | refine below_set ?_ GE435.out | refine below_set ?_ GE436.out | refine below_set ?_ GE437.out) | exact HB.out)) hb); clear BK435; clear BK436; clear BK437; clear HB; have BK435 := n0_; have BK436 := n1_; have BK437 := n2_; have HB := n3_; clear n0_ n1_ n2_ n3_; (try clear hb); (try clear hb2); (try clear hk); (try clear hi); have hcz14_0 : w13.cell? ⟨gb435, 0, none⟩ = some (.int .i64 a0_0) := (blk_cell BK435.out 0).trans rfl; have hcz14_1 : w13.cell? ⟨gb435, 1, none⟩ = some (.slice A0_1 l0_1.length c0_1) := (blk_cell BK435.out 1).trans rfl; have hfz14_0 := blk_frozen BK435.out 0; have hfz14_1 := blk_frozen BK435.out 1; have hnb15 := NB436_437.out; have hnc15 := NB437_436.out; have hcz16_0 : w13.cell? ⟨gb436, 0, none⟩ = some (.int .i64 a1_0) := (blk_cell BK436.out 0).trans rfl; have hcz16_1 : w13.cell? ⟨gb436, 1, none⟩ = some (.int .i64 a1_1) := (blk_cell BK436.out 1).trans rfl; have hcz16_2 : w13.cell? ⟨gb436, 2, none⟩ = some (.int .i64 a1_2) := (blk_cell BK436.out 2).trans rfl; have hcz16_3 : w13.cell? ⟨gb436, 3, none⟩ = some (.int .i64 a1_3) := (blk_cell BK436.out 3).trans rfl; have hfz16_0 := blk_frozen BK436.out 0; have hfz16_1 := blk_frozen BK436.out 1; have hfz16_2 := blk_frozen BK436.out 2; have hfz16_3 := blk_frozen BK436.out 3) | ((with_reducible refine gate_callee (f := 79) rfl ?_); refine goesL_ (some 19) rfl rfl Try.func79 (by kernel_rfl) rfl #[.slice A0_1 l0_1.length c0_1, .agg #[.int .i64 a1_0, .int .i64 a1_1, .int .i64 a1_2, .int .i64 a1_3]] rfl (by (try simp only [List.map_toArray, List.map_cons, List.map_nil]); first | done | rfl | (simp only [List.length_drop, List.length_take]; rfl)) ?_; (with_reducible refine (slices_Contains_impl_Tile_impl_Tile.calls _ _ l0_1 a1_0 a1_1 a1_2 a1_3 true _ ?side1 ?side2 A5.out).mono ?_); (case side1 => repeat (first | exact (Kd.C_below HR0_1.out HB.out) | (with_reducible refine Kd.C_alloc ?_ _) | (with_reducible refine Kd.C_drewN ?_ _) | (with_reducible refine Kd.C_drew ?_))); (case side2 => exact HC0_1.out); rintro e w17 ⟨rfl, hb⟩; refine ⟨_, rfl, ?_⟩; have n0_ := Aside0.mk (blk_below (g := gb435) (o := .cells #[.int .i64 a0_0, .slice A0_1 l0_1.length c0_1] 26 (0, 0)) (by (with_reducible repeat (first | refine blk_drewN ?_ _ | refine blk_drew ?_ | refine blk_alloc ?_ _)); exact BK435.out) hb); have n1_ := Aside0.mk (blk_below (g := gb436) (o := .cells #[.int .i64 a1_0, .int .i64 a1_1, .int .i64 a1_2, .int .i64 a1_3] 45 (0, 0)) (by (with_reducible repeat (first | refine blk_drewN ?_ _ | refine blk_drew ?_ | refine blk_alloc ?_ _)); exact BK436.out) hb); have n2_ := Aside0.mk (blk_below (g := gb437) (o := .cells #[.int .i64 0, .slice none 0 0] 26 (0, 0)) (by (with_reducible repeat (first | refine blk_drewN ?_ _ | refine blk_drew ?_ | refine blk_alloc ?_ _)); exact BK437.out) hb); have n3_ := Aside0.mk (below_step (by repeat (first | (with_reducible first | exact HB.out | apply below_alloc | apply pw_below_drewN | apply below_drew1 | refine below_set ?_ GE435.out | refine below_set ?_ GE436.out | refine below_set ?_ GE437.out) | exact HB.out)) hb); clear BK435; clear BK436; clear BK437; clear HB; have BK435 := n0_; have BK436 := n1_; have BK437 := n2_; have HB := n3_; clear n0_ n1_ n2_ n3_; (try clear hb); (try clear hb2); (try clear hk); (try clear hi); have hcz18_0 : w17.cell? ⟨gb437, 0, none⟩ = some (.int .i64 0) := (blk_cell BK437.out 0).trans rfl; have hcz18_1 : w17.cell? ⟨gb437, 1, none⟩ = some (.slice none 0 0) := (blk_cell BK437.out 1).trans rfl; have hfz18_0 := blk_frozen BK437.out 0; have hfz18_1 := blk_frozen BK437.out 1))
   refine bodyPost_ret (results_ct rfl _ _ gb437 26 #[.int .i64 0, .slice none 0 0] (0, 0) _ rfl (by (with_reducible repeat (first | refine blk_drewN ?_ _ | refine blk_drew ?_ | refine blk_alloc ?_ _)); refine blk_put (cs := #[.int .i64 0, .slice none 0 0]) ?_ 1 _ rfl; (with_reducible repeat (first | refine blk_drewN ?_ _ | refine blk_drew ?_ | refine blk_alloc ?_ _)); refine blk_put (cs := #[.int .i64 0, .slice none 0 0]) ?_ 0 _ rfl; (with_reducible repeat (first | refine blk_drewN ?_ _ | refine blk_drew ?_ | refine blk_alloc ?_ _)); exact BK437.out) Try.underlying26 rfl (by kernel_rfl)) rfl ?_
   exact ⟨_, by first | rfl | (simp [errW_none, errW_some] <;> rfl) | (simp [*, errW_none, errW_some] <;> rfl), by first | exact Kd.R_nil _ _ _ _ _ | exact Kd.N_nil _ _ _ _ _ | exact Kd.V_nil _ _ _ _ _ | exact Kd.Q_nil _ _ _ _ _ | exact Kd.S_nil _ _ _ _ _, by repeat (first | (with_reducible first | exact HB.out | apply below_alloc | apply pw_below_drewN | apply below_drew1 | refine below_set ?_ GE435.out | refine below_set ?_ GE436.out | refine below_set ?_ GE437.out) | exact HB.out)⟩
  ·replace c6 := Bool.eq_false_iff.mpr c6
   subst c6
   have H1 : ((slices_Clone_impl_Tile_impl_Tile.f l0_1).bind fun t440 => ((some (([(⟨a1_0, a1_1, a1_2, a1_3⟩ : S45)] : List (S45)) : List (S45))).bind fun y443 => (if t440.length + y443.length < 4398046511104 then ((impl_limited.f a0_0 (t440 ++ y443)).bind fun bt449 => (some (bt449.1, bt449.2.1, bt449.2.2))) else (none)))) = some (r1, r2, r3) := by rw [if_neg (show ¬ (false = true) by decide)] at H; exact H
   clear H
   have H := H1
   clear H1
   replace H := Option.bind_eq_some_iff.mp H
   obtain ⟨t440, A190, H⟩ := H
   replace H : ((some (([(⟨a1_0, a1_1, a1_2, a1_3⟩ : S45)] : List (S45)) : List (S45))).bind fun y443 => (if t440.length + y443.length < 4398046511104 then ((impl_limited.f a0_0 (t440 ++ y443)).bind fun bt449 => (some (bt449.1, bt449.2.1, bt449.2.2))) else (none))) = some (r1, r2, r3) := H
   have A19 := Aside0.mk A190
   clear A190
   obtain ⟨y443, hy443⟩ : ∃ y_ : List (S45), y_ = (([(⟨a1_0, a1_1, a1_2, a1_3⟩ : S45)] : List (S45))) := ⟨_, rfl⟩
   replace H : (if t440.length + y443.length < 4398046511104 then ((impl_limited.f a0_0 (t440 ++ y443)).bind fun bt449 => (some (bt449.1, bt449.2.1, bt449.2.2))) else (none)) = some (r1, r2, r3) := by first | (rw [hy443]; with_reducible exact H) | (have H2_ := (Option.bind_some _ _).symm.trans H; rw [hy443]; with_reducible exact H2_) | (have H2_ := (Option.bind_some _ _).symm.trans H; with_reducible exact H2_) | with_reducible exact H | (rw [hy443]; exact H) | exact H
   have Ny443 := Aside0.mk hy443
   clear hy443
   by_cases c20 : t440.length + y443.length < 4398046511104
   ·rw [if_pos c20] at H
    have LMc20 := Aside0.mk c20
    clear c20
    obtain ⟨y446, hy446⟩ : ∃ y_ : List (S45), y_ = (t440 ++ y443) := ⟨_, rfl⟩
    replace H : ((impl_limited.f a0_0 y446).bind fun bt449 => (some (bt449.1, bt449.2.1, bt449.2.2))) = some (r1, r2, r3) := by first | (rw [hy446]; with_reducible exact H) | (have H2_ := (Option.bind_some _ _).symm.trans H; rw [hy446]; with_reducible exact H2_) | (have H2_ := (Option.bind_some _ _).symm.trans H; with_reducible exact H2_) | with_reducible exact H | (rw [hy446]; exact H) | exact H
    have Ny446 := Aside0.mk hy446
    clear hy446
    replace H := Option.bind_eq_some_iff.mp H
    obtain ⟨⟨t449, t450, t453⟩, A210, H⟩ := H
    replace H : (some (t449, t450, t453)) = some (r1, r2, r3) := H
    have A21 := Aside0.mk A210
    clear A210
    simp only [Option.some.injEq, Prod.mk.injEq] at H
    obtain ⟨rfl, rfl, rfl⟩ := H
    go_enter Try.func38, Try.ntmps38
    try go_wp2_with (first | ((with_reducible refine gate_dst (N := 2) rfl ?_); refine box_event ?hg (N := 2) ?hd (cs := #[.int .i64 a0_0, .slice A0_1 l0_1.length c0_1]) (t := 26) ?hr ?_; (case hd => rfl); (case hg => rfl); (case hr => first | (go_simp; done) | (go_simp; rfl)); intro gb435 hg w22 hbox hb; have n0_ := Aside0.mk (below_step (by repeat (first | (with_reducible first | exact HB.out | apply below_alloc | apply pw_below_drewN | apply below_drew1) | exact HB.out)) hb); have n1_ := Aside0.mk (hbox); have n2_ := Aside0.mk ((by rw [hg]; exact (below_size (by repeat (first | (with_reducible first | exact HB.out | apply below_alloc | apply pw_below_drewN | apply below_drew1) | exact HB.out))) : w.heap.size ≤ gb435)); have n3_ := Aside0.mk ((by rw [hg]; exact (below_size (by repeat (first | (with_reducible first | exact HB.out | apply below_alloc | apply pw_below_drewN | apply below_drew1) | exact HB.out))) : w.heap.size ≤ gb435)); clear HB; have HB := n0_; have BK435 := n1_; have GW435 := n2_; have GE435 := n3_; clear n0_ n1_ n2_ n3_; clear hb hbox hg) | ((with_reducible refine gate_dst (N := 3) rfl ?_); refine box_event ?hg (N := 3) ?hd (cs := #[.int .i64 a1_0, .int .i64 a1_1, .int .i64 a1_2, .int .i64 a1_3]) (t := 45) ?hr ?_; (case hd => rfl); (case hg => rfl); (case hr => first | (go_simp; done) | (go_simp; rfl)); intro gb436 hg w23 hbox hb; have n0_ := Aside0.mk (blk_below (g := gb435) (o := .cells #[.int .i64 a0_0, .slice A0_1 l0_1.length c0_1] 26 (0, 0)) (by (with_reducible repeat (first | refine blk_drewN ?_ _ | refine blk_drew ?_ | refine blk_alloc ?_ _)); exact BK435.out) hb); have n1_ := Aside0.mk (below_step (by repeat (first | (with_reducible first | exact HB.out | apply below_alloc | apply pw_below_drewN | apply below_drew1 | refine below_set ?_ GE435.out) | exact HB.out)) hb); have n2_ := Aside0.mk (hbox); have n3_ := Aside0.mk ((by rw [hg]; exact (below_size (by repeat (first | (with_reducible first | exact HB.out | apply below_alloc | apply pw_below_drewN | apply below_drew1 | refine below_set ?_ GE435.out) | exact HB.out))) : w.heap.size ≤ gb436)); have n4_ := Aside0.mk ((by rw [hg]; exact (below_size (by repeat (first | (with_reducible first | exact HB.out | apply below_alloc | apply pw_below_drewN | apply below_drew1 | refine below_set ?_ GE435.out) | exact HB.out))) : w.heap.size ≤ gb436)); have n5_ := Aside0.mk ((by rw [hg]; exact Nat.ne_of_lt (blk_lt (g := gb435) (o := .cells #[.int .i64 a0_0, .slice A0_1 l0_1.length c0_1] 26 (0, 0)) (by (with_reducible repeat (first | refine blk_drewN ?_ _ | refine blk_drew ?_ | refine blk_alloc ?_ _)); exact BK435.out)) : gb435 ≠ gb436)); have n6_ := Aside0.mk ((by rw [hg]; exact Nat.ne_of_gt (blk_lt (g := gb435) (o := .cells #[.int .i64 a0_0, .slice A0_1 l0_1.length c0_1] 26 (0, 0)) (by (with_reducible repeat (first | refine blk_drewN ?_ _ | refine blk_drew ?_ | refine blk_alloc ?_ _)); exact BK435.out)) : gb436 ≠ gb435)); clear BK435; clear HB; have BK435 := n0_; have HB := n1_; have BK436 := n2_; have GW436 := n3_; have GE436 := n4_; have NB435_436 := n5_; have NB436_435 := n6_; clear n0_ n1_ n2_ n3_ n4_ n5_ n6_; clear hb hbox hg) | ((with_reducible refine gate_dst (N := 4) rfl ?_); refine box_event ?hg (N := 4) ?hd (cs := #[.int .i64 0, .slice none 0 0]) (t := 26) ?hr ?_; (case hd => rfl); (case hg => rfl); (case hr => first | (go_simp; done) | (go_simp; rfl)); intro gb437 hg w24 hbox hb; have n0_ := Aside0.mk (blk_below (g := gb435) (o := .cells #[.int .i64 a0_0, .slice A0_1 l0_1.length c0_1] 26 (0, 0)) (by (with_reducible repeat (first | refine blk_drewN ?_ _ | refine blk_drew ?_ | refine blk_alloc ?_ _)); exact BK435.out) hb); have n1_ := Aside0.mk (blk_below (g := gb436) (o := .cells #[.int .i64 a1_0, .int .i64 a1_1, .int .i64 a1_2, .int .i64 a1_3] 45 (0, 0)) (by (with_reducible repeat (first | refine blk_drewN ?_ _ | refine blk_drew ?_ | refine blk_alloc ?_ _)); exact BK436.out) hb); have n2_ := Aside0.mk (below_step (by repeat (first | (with_reducible first | exact HB.out | apply below_alloc | apply pw_below_drewN | apply below_drew1 | refine below_set ?_ GE435.out | refine below_set ?_ GE436.out) | exact HB.out)) hb); have n3_ := Aside0.mk (hbox); have n4_ := Aside0.mk ((by rw [hg]; exact (below_size (by repeat (first | (with_reducible first | exact HB.out | apply below_alloc | apply pw_below_drewN | apply below_drew1 | refine below_set ?_ GE435.out | refine below_set ?_ GE436.out) | exact HB.out))) : w.heap.size ≤ gb437)); have n5_ := Aside0.mk ((by rw [hg]; exact (below_size (by repeat (first | (with_reducible first | exact HB.out | apply below_alloc | apply pw_below_drewN | apply below_drew1 | refine below_set ?_ GE435.out | refine below_set ?_ GE436.out) | exact HB.out))) : w.heap.size ≤ gb437)); have n6_ := Aside0.mk ((by rw [hg]; exact Nat.ne_of_lt (blk_lt (g := gb435) (o := .cells #[.int .i64 a0_0, .slice A0_1 l0_1.length c0_1] 26 (0, 0)) (by (with_reducible repeat (first | refine blk_drewN ?_ _ | refine blk_drew ?_ | refine blk_alloc ?_ _)); exact BK435.out)) : gb435 ≠ gb437)); have n7_ := Aside0.mk ((by rw [hg]; exact Nat.ne_of_gt (blk_lt (g := gb435) (o := .cells #[.int .i64 a0_0, .slice A0_1 l0_1.length c0_1] 26 (0, 0)) (by (with_reducible repeat (first | refine blk_drewN ?_ _ | refine blk_drew ?_ | refine blk_alloc ?_ _)); exact BK435.out)) : gb437 ≠ gb435)); have n8_ := Aside0.mk ((by rw [hg]; exact Nat.ne_of_lt (blk_lt (g := gb436) (o := .cells #[.int .i64 a1_0, .int .i64 a1_1, .int .i64 a1_2, .int .i64 a1_3] 45 (0, 0)) (by (with_reducible repeat (first | refine blk_drewN ?_ _ | refine blk_drew ?_ | refine blk_alloc ?_ _)); exact BK436.out)) : gb436 ≠ gb437)); have n9_ := Aside0.mk ((by rw [hg]; exact Nat.ne_of_gt (blk_lt (g := gb436) (o := .cells #[.int .i64 a1_0, .int .i64 a1_1, .int .i64 a1_2, .int .i64 a1_3] 45 (0, 0)) (by (with_reducible repeat (first | refine blk_drewN ?_ _ | refine blk_drew ?_ | refine blk_alloc ?_ _)); exact BK436.out)) : gb437 ≠ gb436)); clear BK435; clear BK436; clear HB; have BK435 := n0_; have BK436 := n1_; have HB := n2_; have BK437 := n3_; have GW437 := n4_; have GE437 := n5_; have NB435_437 := n6_; have NB437_435 := n7_; have NB436_437 := n8_; have NB437_436 := n9_; clear n0_ n1_ n2_ n3_ n4_ n5_ n6_ n7_ n8_ n9_; clear hb hbox hg; have hnb25 := NB435_436.out; have hnc25 := NB436_435.out; have hnb26 := NB435_437.out; have hnc26 := NB437_435.out; have hcz27_0 : w24.cell? ⟨gb435, 0, none⟩ = some (.int .i64 a0_0) := (blk_cell BK435.out 0).trans rfl; have hcz27_1 : w24.cell? ⟨gb435, 1, none⟩ = some (.slice A0_1 l0_1.length c0_1) := (blk_cell BK435.out 1).trans rfl; have hfz27_0 := blk_frozen BK435.out 0; have hfz27_1 := blk_frozen BK435.out 1) | ((with_reducible refine gate_callee (f := 77) rfl ?_); refine goesL_ (some 9) rfl rfl Try.func77 (by kernel_rfl) rfl #[.agg #[.int .i64 a0_0, .slice A0_1 l0_1.length c0_1], .func (.func 78) #[] #[.pointer (some ⟨gb436, 0, none⟩), .pointer (some ⟨gb435, 0, none⟩)]] rfl (by (try simp only [List.map_toArray, List.map_cons, List.map_nil]); first | done | rfl | (simp only [List.length_drop, List.length_take]; rfl)) ?_; (with_reducible refine (impl_setCode_at_impl_PutTile_1.calls a0_0 _ _ l0_1 gb436 a1_0 a1_1 a1_2 a1_3 gb435 a0_0 A0_1 c0_1 l0_1 t438 _ ?side1 ?side2 ?side3 ?side4 ?side5 ?side6 A3.out).mono ?_); (case side1 => repeat (first | exact (Kd.C_below HR0_1.out HB.out) | (with_reducible refine Kd.C_alloc ?_ _) | (with_reducible refine Kd.C_drewN ?_ _) | (with_reducible refine Kd.C_drew ?_))); (case side2 => exact HC0_1.out); (case side3 => repeat (first | exact (Kd.C_below HR0_1.out HB.out) | (with_reducible refine Kd.C_alloc ?_ _) | (with_reducible refine Kd.C_drewN ?_ _) | (with_reducible refine Kd.C_drew ?_))); (case side4 => exact HC0_1.out); (case side5 => exact (by (with_reducible repeat (first | refine blk_drewN ?_ _ | refine blk_drew ?_ | refine blk_alloc ?_ _)); exact BK436.out)); (case side6 => exact (by (with_reducible repeat (first | refine blk_drewN ?_ _ | refine blk_drew ?_ | refine blk_alloc ?_ _)); exact BK435.out)); rintro e w28 ⟨rfl, hb⟩; refine ⟨_, rfl, ?_⟩; have n0_ := Aside0.mk (blk_below (g := gb435) (o := .cells #[.int .i64 a0_0, .slice A0_1 l0_1.length c0_1] 26 (0, 0)) (by (with_reducible repeat (first | refine blk_drewN ?_ _ | refine blk_drew ?_ | refine blk_alloc ?_ _)); exact BK435.out) hb); have n1_ := Aside0.mk (blk_below (g := gb436) (o := .cells #[.int .i64 a1_0, .int .i64 a1_1, .int .i64 a1_2, .int .i64 a1_3] 45 (0, 0)) (by (with_reducible repeat (first | refine blk_drewN ?_ _ | refine blk_drew ?_ | refine blk_alloc ?_ _)); exact BK436.out) hb); have n2_ := Aside0.mk (blk_below (g := gb437) (o := .cells #[.int .i64 0, .slice none 0 0] 26 (0, 0)) (by (with_reducible repeat (first | refine blk_drewN ?_ _ | refine blk_drew ?_ | refine blk_alloc ?_ _)); exact BK437.out) hb); have n3_ := Aside0.mk (below_step (by repeat (first | (with_reducible first | exact HB.out | apply below_alloc | apply pw_below_drewN | apply below_drew1 | refine below_set ?_ GE435.out | refine below_set ?_ GE436.out | refine below_set ?_ GE437.out) | exact HB.out)) hb); clear BK435; clear BK436; clear BK437; clear HB; have BK435 := n0_; have BK436 := n1_; have BK437 := n2_; have HB := n3_; clear n0_ n1_ n2_ n3_; (try clear hb); (try clear hb2); (try clear hk); (try clear hi); have hcz29_0 : w28.cell? ⟨gb435, 0, none⟩ = some (.int .i64 a0_0) := (blk_cell BK435.out 0).trans rfl; have hcz29_1 : w28.cell? ⟨gb435, 1, none⟩ = some (.slice A0_1 l0_1.length c0_1) := (blk_cell BK435.out 1).trans rfl; have hfz29_0 := blk_frozen BK435.out 0; have hfz29_1 := blk_frozen BK435.out 1; have hnb30 := NB436_437.out; have hnc30 := NB437_436.out; have hcz31_0 : w28.cell? ⟨gb436, 0, none⟩ = some (.int .i64 a1_0) := (blk_cell BK436.out 0).trans rfl; have hcz31_1 : w28.cell? ⟨gb436, 1, none⟩ = some (.int .i64 a1_1) := (blk_cell BK436.out 1).trans rfl; have hcz31_2 : w28.cell? ⟨gb436, 2, none⟩ = some (.int .i64 a1_2) := (blk_cell BK436.out 2).trans rfl; have hcz31_3 : w28.cell? ⟨gb436, 3, none⟩ = some (.int .i64 a1_3) := (blk_cell BK436.out 3).trans rfl; have hfz31_0 := blk_frozen BK436.out 0; have hfz31_1 := blk_frozen BK436.out 1; have hfz31_2 := blk_frozen BK436.out 2; have hfz31_3 := blk_frozen BK436.out 3) | ((with_reducible refine gate_callee (f := 79) rfl ?_); refine goesL_ (some 19) rfl rfl Try.func79 (by kernel_rfl) rfl #[.slice A0_1 l0_1.length c0_1, .agg #[.int .i64 a1_0, .int .i64 a1_1, .int .i64 a1_2, .int .i64 a1_3]] rfl (by (try simp only [List.map_toArray, List.map_cons, List.map_nil]); first | done | rfl | (simp only [List.length_drop, List.length_take]; rfl)) ?_; (with_reducible refine (slices_Contains_impl_Tile_impl_Tile.calls _ _ l0_1 a1_0 a1_1 a1_2 a1_3 false _ ?side1 ?side2 A5.out).mono ?_); (case side1 => repeat (first | exact (Kd.C_below HR0_1.out HB.out) | (with_reducible refine Kd.C_alloc ?_ _) | (with_reducible refine Kd.C_drewN ?_ _) | (with_reducible refine Kd.C_drew ?_))); (case side2 => exact HC0_1.out); rintro e w32 ⟨rfl, hb⟩; refine ⟨_, rfl, ?_⟩; have n0_ := Aside0.mk (blk_below (g := gb435) (o := .cells #[.int .i64 a0_0, .slice A0_1 l0_1.length c0_1] 26 (0, 0)) (by (with_reducible repeat (first | refine blk_drewN ?_ _ | refine blk_drew ?_ | refine blk_alloc ?_ _)); exact BK435.out) hb); have n1_ := Aside0.mk (blk_below (g := gb436) (o := .cells #[.int .i64 a1_0, .int .i64 a1_1, .int .i64 a1_2, .int .i64 a1_3] 45 (0, 0)) (by (with_reducible repeat (first | refine blk_drewN ?_ _ | refine blk_drew ?_ | refine blk_alloc ?_ _)); exact BK436.out) hb); have n2_ := Aside0.mk (blk_below (g := gb437) (o := .cells #[.int .i64 0, .slice none 0 0] 26 (0, 0)) (by (with_reducible repeat (first | refine blk_drewN ?_ _ | refine blk_drew ?_ | refine blk_alloc ?_ _)); exact BK437.out) hb); have n3_ := Aside0.mk (below_step (by repeat (first | (with_reducible first | exact HB.out | apply below_alloc | apply pw_below_drewN | apply below_drew1 | refine below_set ?_ GE435.out | refine below_set ?_ GE436.out | refine below_set ?_ GE437.out) | exact HB.out)) hb); clear BK435; clear BK436; clear BK437; clear HB; have BK435 := n0_; have BK436 := n1_; have BK437 := n2_; have HB := n3_; clear n0_ n1_ n2_ n3_; (try clear hb); (try clear hb2); (try clear hk); (try clear hi)))
    have n0_ := Aside0.mk (blk_drew BK435.out)
    have n1_ := Aside0.mk (blk_drew BK436.out)
    have n2_ := Aside0.mk (blk_drew BK437.out)
    have n3_ := Aside0.mk (below_drew1 HB.out)
    clear BK435
    clear BK436
    clear BK437
    clear HB
    have BK435 := n0_
    have BK436 := n1_
    have BK437 := n2_
    have HB := n3_
    clear n0_ n1_ n2_ n3_
    refine start_ (n := 13) (S := fun w' => w'.cell? ⟨gb435, 0, none⟩ = some (.int .i64 a0_0) ∧ w'.cell? ⟨gb435, 1, none⟩ = some (.slice A0_1 l0_1.length c0_1) ∧ w'.cell? ⟨gb436, 0, none⟩ = some (.int .i64 a1_0) ∧ w'.cell? ⟨gb436, 1, none⟩ = some (.int .i64 a1_1) ∧ w'.cell? ⟨gb436, 2, none⟩ = some (.int .i64 a1_2) ∧ w'.cell? ⟨gb436, 3, none⟩ = some (.int .i64 a1_3)) (ds := []) #[false, false, false, false, false, false, false, false, false, false, false, false, false] (by kernel_rfl) rfl rfl ⟨(blk_cell BK435.out 0).trans rfl, (blk_cell BK435.out 1).trans rfl, (blk_cell BK436.out 0).trans rfl, (blk_cell BK436.out 1).trans rfl, (blk_cell BK436.out 2).trans rfl, (blk_cell BK436.out 3).trans rfl⟩ (fun hHeld => ?_); refine with_tabW impl_PutTile.tab6 impl_PutTile.bits6 (fun HT_ HW_ => ?_)
    generalize w32.drew = w33 at BK435 BK436 BK437 HB hHeld ⊢
    refine pure_ (i := 0) (N := some 21) (v := ?_) (a' := ?_) #[true, false, false, false, false, false, false, false, false, false, false, false, false] rfl rfl (any_of HT_.out (by kernel_rfl)) (fun _ _ _ h => h) (Or.inl ⟨by rfl, ?_⟩) ?_ ?_
    rotate_left
    ·intro w'
     go_simp
     with_reducible rfl
    rotate_left
    ·simp only [Act.put, List.setIfInBounds_toArray, List.set_cons_zero, List.set_cons_succ, i64_w, i32_w]
     rfl
    refine pure_ (i := 2) (N := some 23) (v := ?_) (a' := ?_) #[true, false, true, false, false, false, false, false, false, false, false, false, false] rfl rfl (any_of HT_.out (by kernel_rfl)) (fun _ _ _ h => h) (Or.inl ⟨by rfl, ?_⟩) ?_ ?_
    rotate_left
    ·intro w'
     go_simp
     with_reducible rfl
    rotate_left
    ·simp only [Act.put, List.setIfInBounds_toArray, List.set_cons_zero, List.set_cons_succ, i64_w, i32_w]
     rfl
    refine take_ (i := 1) (N := some 22) (v := ?_) (a' := ?_) #[true, true, true, false, false, false, false, false, false, false, false, false, false] rfl rfl (take_ofW HT_.out HW_.out (by kernel_rfl)) (fun _ _ _ h => h) (Or.inl ⟨by rfl, ?_⟩) hHeld ?_ ?_
    rotate_left
    ·rintro w' ⟨s0, s1, s2, s3, s4, s5⟩
     go_simp
     with_reducible rfl
    rotate_left
    ·simp only [Act.put, List.setIfInBounds_toArray, List.set_cons_zero, List.set_cons_succ, i64_w, i32_w]
     rfl
    refine take_ (i := 3) (N := some 24) (v := ?_) (a' := ?_) #[true, true, true, true, false, false, false, false, false, false, false, false, false] rfl rfl (take_ofW HT_.out HW_.out (by kernel_rfl)) (fun _ _ _ h => h) (Or.inl ⟨by rfl, ?_⟩) hHeld ?_ ?_
    rotate_left
    ·rintro w' ⟨s0, s1, s2, s3, s4, s5⟩
     go_simp
     with_reducible rfl
    rotate_left
    ·simp only [Act.put, List.setIfInBounds_toArray, List.set_cons_zero, List.set_cons_succ, i64_w, i32_w]
     rfl
    refine take_ (i := 5) (N := some 26) (v := ?_) (a' := ?_) #[true, true, true, true, false, true, false, false, false, false, false, false, false] rfl rfl (take_ofW HT_.out HW_.out (by kernel_rfl)) (fun _ _ _ h => h) (Or.inl ⟨by rfl, ?_⟩) hHeld ?_ ?_
    rotate_left
    ·rintro w' ⟨s0, s1, s2, s3, s4, s5⟩
     go_simp
     with_reducible rfl
    rotate_left
    ·simp only [Act.put, List.setIfInBounds_toArray, List.set_cons_zero, List.set_cons_succ, i64_w, i32_w]
     rfl
    refine join_ (σ := Value × Value) 6 #[true, true, true, true, true, true, true, false, false, false, false, false, false] (fun s_ => [(25, s_.1), (27, s_.2)]) (fun s_ w' => (w'.cell? ⟨gb435, 0, none⟩ = some (.int .i64 a0_0) ∧ w'.cell? ⟨gb435, 1, none⟩ = some (.slice A0_1 l0_1.length c0_1) ∧ w'.cell? ⟨gb436, 0, none⟩ = some (.int .i64 a1_0) ∧ w'.cell? ⟨gb436, 1, none⟩ = some (.int .i64 a1_1) ∧ w'.cell? ⟨gb436, 2, none⟩ = some (.int .i64 a1_2) ∧ w'.cell? ⟨gb436, 3, none⟩ = some (.int .i64 a1_3)) ∧ (Kd.R k45 45 w' w.heap.size (fun k_ => some k_ ≠ (s_.2 : Value).ownBlock ∧ k_ ≠ gb436) s_.1 t440) ∧ (Kd.R k45 45 w' w.heap.size (fun k_ => some k_ ≠ (s_.1 : Value).ownBlock ∧ k_ ≠ gb436) s_.2 y443) ∧ (w'.heap[gb435]? = some (.cells #[.int .i64 a0_0, .slice A0_1 l0_1.length c0_1] 26 (0, 0))) ∧ (w'.heap[gb436]? = some (.cells #[.int .i64 a1_0, .int .i64 a1_1, .int .i64 a1_2, .int .i64 a1_3] 45 (0, 0))) ∧ (w'.heap[gb437]? = some (.cells #[.int .i64 0, .slice none 0 0] 26 (0, 0))) ∧ (Below w.heap.size w w')) ?_ ?_
    rotate_left
    ·intro hCont
     refine two_ (i := 4) (j := 6) (Ni := some 25) (Nj := some 27) #[true, true, true, true, true, true, false, false, false, false, false, false, false] #[true, true, true, true, false, true, true, false, false, false, false, false, false] rfl rfl rfl rfl (two_of HT_.out (by kernel_rfl)) (by decide) (by decide) (fun K hK => ?_) (fun K hK => ?_)
     ·skip
      refine goes_ Try.func72 (by kernel_rfl) rfl #[.slice A0_1 l0_1.length c0_1] (by rfl) rfl rfl (by (try simp only [List.map_toArray, List.map_cons, List.map_nil]); first | done | rfl | (simp only [List.length_drop, List.length_take]; rfl)) ?_
      with_reducible refine (slices_Clone_impl_Tile_impl_Tile.calls _ _ l0_1 t440 _ ?side1 ?side2 A19.out).mono ?_
      (case side1 => repeat (first | exact (Kd.C_below HR0_1.out HB.out) | (with_reducible refine Kd.C_alloc ?_ _) | (with_reducible refine Kd.C_drewN ?_ _) | (with_reducible refine Kd.C_drew ?_)))
      (case side2 => exact HC0_1.out)
      rintro e w34 ⟨v441, rfl, ho0, hb⟩
      refine ⟨_, rfl, ?_⟩
      have n0_ := Aside0.mk (Kd.R_lower (Kd.R_newB ho0 (g := gb436) (o := .cells #[.int .i64 a1_0, .int .i64 a1_1, .int .i64 a1_2, .int .i64 a1_3] 45 (0, 0)) (by (with_reducible repeat (first | refine blk_drewN ?_ _ | refine blk_drew ?_ | refine blk_alloc ?_ _)); exact BK436.out)) (below_size (by repeat (first | (with_reducible first | exact HB.out | apply below_alloc | apply pw_below_drewN | apply below_drew1 | refine below_set ?_ GE435.out | refine below_set ?_ GE436.out | refine below_set ?_ GE437.out) | exact HB.out))))
      have n1_ := Aside0.mk (blk_below (g := gb435) (o := .cells #[.int .i64 a0_0, .slice A0_1 l0_1.length c0_1] 26 (0, 0)) (by (with_reducible repeat (first | refine blk_drewN ?_ _ | refine blk_drew ?_ | refine blk_alloc ?_ _)); exact BK435.out) hb)
      have n2_ := Aside0.mk (blk_below (g := gb436) (o := .cells #[.int .i64 a1_0, .int .i64 a1_1, .int .i64 a1_2, .int .i64 a1_3] 45 (0, 0)) (by (with_reducible repeat (first | refine blk_drewN ?_ _ | refine blk_drew ?_ | refine blk_alloc ?_ _)); exact BK436.out) hb)
      have n3_ := Aside0.mk (blk_below (g := gb437) (o := .cells #[.int .i64 0, .slice none 0 0] 26 (0, 0)) (by (with_reducible repeat (first | refine blk_drewN ?_ _ | refine blk_drew ?_ | refine blk_alloc ?_ _)); exact BK437.out) hb)
      have n4_ := Aside0.mk (below_step (by repeat (first | (with_reducible first | exact HB.out | apply below_alloc | apply pw_below_drewN | apply below_drew1 | refine below_set ?_ GE435.out | refine below_set ?_ GE436.out | refine below_set ?_ GE437.out) | exact HB.out)) hb)
      clear BK435
      clear BK436
      clear BK437
      clear HB
      have HO442 := n0_
      have BK435 := n1_
      have BK436 := n2_
      have BK437 := n3_
      have HB := n4_
      clear n0_ n1_ n2_ n3_ n4_
      (try clear hb)
      (try clear hb2)
      (try clear hk)
      (try clear hi)
      (try clear ho0)
      refine hK.out _ _ ⟨(blk_cell BK435.out 0).trans rfl, (blk_cell BK435.out 1).trans rfl, (blk_cell BK436.out 0).trans rfl, (blk_cell BK436.out 1).trans rfl, (blk_cell BK436.out 2).trans rfl, (blk_cell BK436.out 3).trans rfl⟩ (fun hHeld => ?_)
      clear hK K
      refine norm_ (a' := ?_) ?_ ?_
      rotate_left
      ·show Act.put _ (some 25) _ = _
       simp only [Act.put, List.setIfInBounds_toArray, List.set_cons_zero, List.set_cons_succ, i64_w, i32_w]
       rfl
      refine one_ (i := 6) (N := some 27) #[true, true, true, true, true, true, true, false, false, false, false, false, false] rfl rfl (one_of HT_.out (by kernel_rfl)) (by decide) (fun K hK => ?_)
      refine Kd.R_lit_step k45 _ 45 ?hg (N := 27) ?hd (xs := ([(⟨a1_0, a1_1, a1_2, a1_3⟩ : S45)] : List (S45))) (inner := [.int .i64 a1_0, .int .i64 a1_1, .int .i64 a1_2, .int .i64 a1_3]) (ok := fun _ => True) (okp := fun _ => True) ?hr ?hp (fun _ hk => hk) trivial (Below.refl _ _) (Nat.le_refl _) (by simp) ?_; (case hd => rfl); (case hg => rfl); (case hr => first | (go_simp; done) | (go_simp; rfl)); (case hp => exact (Reps.c4 (show Kd.M k45 _ _ _ (⟨a1_0, a1_1, a1_2, a1_3⟩ : S45) [.int .i64 a1_0, .int .i64 a1_1, .int .i64 a1_2, .int .i64 a1_3] from (k45_mkM _ _ _ (⟨a1_0, a1_1, a1_2, a1_3⟩ : S45) )) (Reps.none _ _)))
      intro v444 w35 ho36 hb hg_ hnew_
      clear hg_ hnew_
      (first | rw [← Ny443.out] at ho36 | (simp only [Int.reduceToNat] at ho36; rw [← Ny443.out] at ho36))
      have n0_ := Aside0.mk (Kd.R_elder' (by (with_reducible repeat (first | apply Kd.R_alloc | apply Kd.R_drewN | apply Kd.R_drew)); exact HO442.out) (Kd.R_base ho36) hb)
      have n1_ := Aside0.mk (Kd.R_lower (Kd.R_newB (Kd.R_new' ho36 (Kd.R_lt (by (with_reducible repeat (first | apply Kd.R_alloc | apply Kd.R_drewN | apply Kd.R_drew)); exact HO442.out))) (g := gb436) (o := .cells #[.int .i64 a1_0, .int .i64 a1_1, .int .i64 a1_2, .int .i64 a1_3] 45 (0, 0)) (by (with_reducible repeat (first | refine blk_drewN ?_ _ | refine blk_drew ?_ | refine blk_alloc ?_ _)); exact BK436.out)) (below_size (by repeat (first | (with_reducible first | exact HB.out | apply below_alloc | apply pw_below_drewN | apply below_drew1 | refine below_set ?_ GE435.out | refine below_set ?_ GE436.out | refine below_set ?_ GE437.out) | exact HB.out))))
      have n2_ := Aside0.mk (blk_below (g := gb435) (o := .cells #[.int .i64 a0_0, .slice A0_1 l0_1.length c0_1] 26 (0, 0)) (by (with_reducible repeat (first | refine blk_drewN ?_ _ | refine blk_drew ?_ | refine blk_alloc ?_ _)); exact BK435.out) hb)
      have n3_ := Aside0.mk (blk_below (g := gb436) (o := .cells #[.int .i64 a1_0, .int .i64 a1_1, .int .i64 a1_2, .int .i64 a1_3] 45 (0, 0)) (by (with_reducible repeat (first | refine blk_drewN ?_ _ | refine blk_drew ?_ | refine blk_alloc ?_ _)); exact BK436.out) hb)
      have n4_ := Aside0.mk (blk_below (g := gb437) (o := .cells #[.int .i64 0, .slice none 0 0] 26 (0, 0)) (by (with_reducible repeat (first | refine blk_drewN ?_ _ | refine blk_drew ?_ | refine blk_alloc ?_ _)); exact BK437.out) hb)
      have n5_ := Aside0.mk (below_step (by repeat (first | (with_reducible first | exact HB.out | apply below_alloc | apply pw_below_drewN | apply below_drew1 | refine below_set ?_ GE435.out | refine below_set ?_ GE436.out | refine below_set ?_ GE437.out) | exact HB.out)) hb)
      clear HO442
      clear BK435
      clear BK436
      clear BK437
      clear HB
      have HO442 := n0_
      have HO445 := n1_
      have BK435 := n2_
      have BK436 := n3_
      have BK437 := n4_
      have HB := n5_
      clear n0_ n1_ n2_ n3_ n4_ n5_
      clear hb ho36
      refine hK.out _ _ ⟨(blk_cell BK435.out 0).trans rfl, (blk_cell BK435.out 1).trans rfl, (blk_cell BK436.out 0).trans rfl, (blk_cell BK436.out 1).trans rfl, (blk_cell BK436.out 2).trans rfl, (blk_cell BK436.out 3).trans rfl⟩ (fun hHeld => ?_)
      clear hK K
      refine norm_ (a' := ?_) ?_ ?_
      rotate_left
      ·show Act.put _ (some 27) _ = _
       simp only [Act.put, List.setIfInBounds_toArray, List.set_cons_zero, List.set_cons_succ, i64_w, i32_w]
       rfl
      exact norm_ (by simp only [putAll, Act.put, List.setIfInBounds_toArray, List.set_cons_zero, List.set_cons_succ]) (hCont (v441, v444) _ ⟨hHeld, (by (with_reducible repeat (first | apply Kd.R_alloc | apply Kd.R_drewN | apply Kd.R_drew)); exact Kd.R_mono HO442.out (fun _ hk => ⟨hk.2, hk.1.2⟩)), (by (with_reducible repeat (first | apply Kd.R_alloc | apply Kd.R_drewN | apply Kd.R_drew)); exact Kd.R_mono HO445.out (fun _ hk => ⟨hk.1.2, hk.2⟩)), (by (with_reducible repeat (first | refine blk_drewN ?_ _ | refine blk_drew ?_ | refine blk_alloc ?_ _)); exact BK435.out), (by (with_reducible repeat (first | refine blk_drewN ?_ _ | refine blk_drew ?_ | refine blk_alloc ?_ _)); exact BK436.out), (by (with_reducible repeat (first | refine blk_drewN ?_ _ | refine blk_drew ?_ | refine blk_alloc ?_ _)); exact BK437.out), (by repeat (first | (with_reducible first | exact HB.out | apply below_alloc | apply pw_below_drewN | apply below_drew1 | refine below_set ?_ GE435.out | refine below_set ?_ GE436.out | refine below_set ?_ GE437.out) | exact HB.out))⟩)
     ·skip
      refine Kd.R_lit_step k45 _ 45 ?hg (N := 27) ?hd (xs := ([(⟨a1_0, a1_1, a1_2, a1_3⟩ : S45)] : List (S45))) (inner := [.int .i64 a1_0, .int .i64 a1_1, .int .i64 a1_2, .int .i64 a1_3]) (ok := fun _ => True) (okp := fun _ => True) ?hr ?hp (fun _ hk => hk) trivial (Below.refl _ _) (Nat.le_refl _) (by simp) ?_; (case hd => rfl); (case hg => rfl); (case hr => first | (go_simp; done) | (go_simp; rfl)); (case hp => exact (Reps.c4 (show Kd.M k45 _ _ _ (⟨a1_0, a1_1, a1_2, a1_3⟩ : S45) [.int .i64 a1_0, .int .i64 a1_1, .int .i64 a1_2, .int .i64 a1_3] from (k45_mkM _ _ _ (⟨a1_0, a1_1, a1_2, a1_3⟩ : S45) )) (Reps.none _ _)))
      intro v444 w34 ho35 hb hg_ hnew_
      clear hg_ hnew_
      (first | rw [← Ny443.out] at ho35 | (simp only [Int.reduceToNat] at ho35; rw [← Ny443.out] at ho35))
      have n0_ := Aside0.mk (Kd.R_lower (Kd.R_newB ho35 (g := gb436) (o := .cells #[.int .i64 a1_0, .int .i64 a1_1, .int .i64 a1_2, .int .i64 a1_3] 45 (0, 0)) (by (with_reducible repeat (first | refine blk_drewN ?_ _ | refine blk_drew ?_ | refine blk_alloc ?_ _)); exact BK436.out)) (below_size (by repeat (first | (with_reducible first | exact HB.out | apply below_alloc | apply pw_below_drewN | apply below_drew1 | refine below_set ?_ GE435.out | refine below_set ?_ GE436.out | refine below_set ?_ GE437.out) | exact HB.out))))
      have n1_ := Aside0.mk (blk_below (g := gb435) (o := .cells #[.int .i64 a0_0, .slice A0_1 l0_1.length c0_1] 26 (0, 0)) (by (with_reducible repeat (first | refine blk_drewN ?_ _ | refine blk_drew ?_ | refine blk_alloc ?_ _)); exact BK435.out) hb)
      have n2_ := Aside0.mk (blk_below (g := gb436) (o := .cells #[.int .i64 a1_0, .int .i64 a1_1, .int .i64 a1_2, .int .i64 a1_3] 45 (0, 0)) (by (with_reducible repeat (first | refine blk_drewN ?_ _ | refine blk_drew ?_ | refine blk_alloc ?_ _)); exact BK436.out) hb)
      have n3_ := Aside0.mk (blk_below (g := gb437) (o := .cells #[.int .i64 0, .slice none 0 0] 26 (0, 0)) (by (with_reducible repeat (first | refine blk_drewN ?_ _ | refine blk_drew ?_ | refine blk_alloc ?_ _)); exact BK437.out) hb)
      have n4_ := Aside0.mk (below_step (by repeat (first | (with_reducible first | exact HB.out | apply below_alloc | apply pw_below_drewN | apply below_drew1 | refine below_set ?_ GE435.out | refine below_set ?_ GE436.out | refine below_set ?_ GE437.out) | exact HB.out)) hb)
      clear BK435
      clear BK436
      clear BK437
      clear HB
      have HO445 := n0_
      have BK435 := n1_
      have BK436 := n2_
      have BK437 := n3_
      have HB := n4_
      clear n0_ n1_ n2_ n3_ n4_
      clear hb ho35
      refine hK.out _ _ ⟨(blk_cell BK435.out 0).trans rfl, (blk_cell BK435.out 1).trans rfl, (blk_cell BK436.out 0).trans rfl, (blk_cell BK436.out 1).trans rfl, (blk_cell BK436.out 2).trans rfl, (blk_cell BK436.out 3).trans rfl⟩ (fun hHeld => ?_)
      clear hK K
      refine norm_ (a' := ?_) ?_ ?_
      rotate_left
      ·show Act.put _ (some 27) _ = _
       simp only [Act.put, List.setIfInBounds_toArray, List.set_cons_zero, List.set_cons_succ, i64_w, i32_w]
       rfl
      refine one_ (i := 4) (N := some 25) #[true, true, true, true, true, true, true, false, false, false, false, false, false] rfl rfl (one_of HT_.out (by kernel_rfl)) (by decide) (fun K hK => ?_)
      refine goes_ Try.func72 (by kernel_rfl) rfl #[.slice A0_1 l0_1.length c0_1] (by rfl) rfl rfl (by (try simp only [List.map_toArray, List.map_cons, List.map_nil]); first | done | rfl | (simp only [List.length_drop, List.length_take]; rfl)) ?_
      with_reducible refine (slices_Clone_impl_Tile_impl_Tile.calls _ _ l0_1 t440 _ ?side1 ?side2 A19.out).mono ?_
      (case side1 => repeat (first | exact (Kd.C_below HR0_1.out HB.out) | (with_reducible refine Kd.C_alloc ?_ _) | (with_reducible refine Kd.C_drewN ?_ _) | (with_reducible refine Kd.C_drew ?_)))
      (case side2 => exact HC0_1.out)
      rintro e w36 ⟨v441, rfl, ho0, hb⟩
      refine ⟨_, rfl, ?_⟩
      have n0_ := Aside0.mk (Kd.R_elder' (by (with_reducible repeat (first | apply Kd.R_alloc | apply Kd.R_drewN | apply Kd.R_drew)); exact HO445.out) (Kd.R_base ho0) hb)
      have n1_ := Aside0.mk (Kd.R_lower (Kd.R_newB (Kd.R_new' ho0 (Kd.R_lt (by (with_reducible repeat (first | apply Kd.R_alloc | apply Kd.R_drewN | apply Kd.R_drew)); exact HO445.out))) (g := gb436) (o := .cells #[.int .i64 a1_0, .int .i64 a1_1, .int .i64 a1_2, .int .i64 a1_3] 45 (0, 0)) (by (with_reducible repeat (first | refine blk_drewN ?_ _ | refine blk_drew ?_ | refine blk_alloc ?_ _)); exact BK436.out)) (below_size (by repeat (first | (with_reducible first | exact HB.out | apply below_alloc | apply pw_below_drewN | apply below_drew1 | refine below_set ?_ GE435.out | refine below_set ?_ GE436.out | refine below_set ?_ GE437.out) | exact HB.out))))
      have n2_ := Aside0.mk (blk_below (g := gb435) (o := .cells #[.int .i64 a0_0, .slice A0_1 l0_1.length c0_1] 26 (0, 0)) (by (with_reducible repeat (first | refine blk_drewN ?_ _ | refine blk_drew ?_ | refine blk_alloc ?_ _)); exact BK435.out) hb)
      have n3_ := Aside0.mk (blk_below (g := gb436) (o := .cells #[.int .i64 a1_0, .int .i64 a1_1, .int .i64 a1_2, .int .i64 a1_3] 45 (0, 0)) (by (with_reducible repeat (first | refine blk_drewN ?_ _ | refine blk_drew ?_ | refine blk_alloc ?_ _)); exact BK436.out) hb)
      have n4_ := Aside0.mk (blk_below (g := gb437) (o := .cells #[.int .i64 0, .slice none 0 0] 26 (0, 0)) (by (with_reducible repeat (first | refine blk_drewN ?_ _ | refine blk_drew ?_ | refine blk_alloc ?_ _)); exact BK437.out) hb)
      have n5_ := Aside0.mk (below_step (by repeat (first | (with_reducible first | exact HB.out | apply below_alloc | apply pw_below_drewN | apply below_drew1 | refine below_set ?_ GE435.out | refine below_set ?_ GE436.out | refine below_set ?_ GE437.out) | exact HB.out)) hb)
      clear HO445
      clear BK435
      clear BK436
      clear BK437
      clear HB
      have HO445 := n0_
      have HO442 := n1_
      have BK435 := n2_
      have BK436 := n3_
      have BK437 := n4_
      have HB := n5_
      clear n0_ n1_ n2_ n3_ n4_ n5_
      (try clear hb)
      (try clear hb2)
      (try clear hk)
      (try clear hi)
      (try clear ho0)
      refine hK.out _ _ ⟨(blk_cell BK435.out 0).trans rfl, (blk_cell BK435.out 1).trans rfl, (blk_cell BK436.out 0).trans rfl, (blk_cell BK436.out 1).trans rfl, (blk_cell BK436.out 2).trans rfl, (blk_cell BK436.out 3).trans rfl⟩ (fun hHeld => ?_)
      clear hK K
      refine norm_ (a' := ?_) ?_ ?_
      rotate_left
      ·show Act.put _ (some 25) _ = _
       simp only [Act.put, List.setIfInBounds_toArray, List.set_cons_zero, List.set_cons_succ, i64_w, i32_w]
       rfl
      exact norm_ (by simp only [putAll, Act.put, List.setIfInBounds_toArray, List.set_cons_zero, List.set_cons_succ]) (hCont (v441, v444) _ ⟨hHeld, (by (with_reducible repeat (first | apply Kd.R_alloc | apply Kd.R_drewN | apply Kd.R_drew)); exact Kd.R_mono HO442.out (fun _ hk => ⟨hk.1.2, hk.2⟩)), (by (with_reducible repeat (first | apply Kd.R_alloc | apply Kd.R_drewN | apply Kd.R_drew)); exact Kd.R_mono HO445.out (fun _ hk => ⟨hk.2, hk.1.2⟩)), (by (with_reducible repeat (first | refine blk_drewN ?_ _ | refine blk_drew ?_ | refine blk_alloc ?_ _)); exact BK435.out), (by (with_reducible repeat (first | refine blk_drewN ?_ _ | refine blk_drew ?_ | refine blk_alloc ?_ _)); exact BK436.out), (by (with_reducible repeat (first | refine blk_drewN ?_ _ | refine blk_drew ?_ | refine blk_alloc ?_ _)); exact BK437.out), (by repeat (first | (with_reducible first | exact HB.out | apply below_alloc | apply pw_below_drewN | apply below_drew1 | refine below_set ?_ GE435.out | refine below_set ?_ GE436.out | refine below_set ?_ GE437.out) | exact HB.out))⟩)
    rintro ⟨v441, v444⟩ w37 ⟨hS_, h0_, h1_, h2_, h3_, h4_, h5_⟩
    have n0_ : Aside0 (Kd.R k45 45 w37 w.heap.size (fun k_ => some k_ ≠ (v444 : Value).ownBlock ∧ k_ ≠ gb436) v441 t440) := ⟨h0_⟩
    have n1_ : Aside0 (Kd.R k45 45 w37 w.heap.size (fun k_ => some k_ ≠ (v441 : Value).ownBlock ∧ k_ ≠ gb436) v444 y443) := ⟨h1_⟩
    have n2_ : Aside0 (w37.heap[gb435]? = some (.cells #[.int .i64 a0_0, .slice A0_1 l0_1.length c0_1] 26 (0, 0))) := ⟨h2_⟩
    have n3_ : Aside0 (w37.heap[gb436]? = some (.cells #[.int .i64 a1_0, .int .i64 a1_1, .int .i64 a1_2, .int .i64 a1_3] 45 (0, 0))) := ⟨h3_⟩
    have n4_ : Aside0 (w37.heap[gb437]? = some (.cells #[.int .i64 0, .slice none 0 0] 26 (0, 0))) := ⟨h4_⟩
    have n5_ : Aside0 (Below w.heap.size w w37) := ⟨h5_⟩
    clear BK435
    clear BK436
    clear BK437
    clear HB
    clear h0_ h1_ h2_ h3_ h4_ h5_
    have HO442 := n0_
    have HO445 := n1_
    have BK435 := n2_
    have BK436 := n3_
    have BK437 := n4_
    have HB := n5_
    clear n0_ n1_ n2_ n3_ n4_ n5_
    have hHeld : w37.cell? ⟨gb435, 0, none⟩ = some (.int .i64 a0_0) ∧ w37.cell? ⟨gb435, 1, none⟩ = some (.slice A0_1 l0_1.length c0_1) ∧ w37.cell? ⟨gb436, 0, none⟩ = some (.int .i64 a1_0) ∧ w37.cell? ⟨gb436, 1, none⟩ = some (.int .i64 a1_1) ∧ w37.cell? ⟨gb436, 2, none⟩ = some (.int .i64 a1_2) ∧ w37.cell? ⟨gb436, 3, none⟩ = some (.int .i64 a1_3) := hS_
    obtain ⟨Ao39, co39, eo39⟩ := Kd.R_slice HO445.out
    (first | subst eo39 | (injection eo39 with f1_ f2_ f3_; have f4_ := f1_.symm; have f5_ := f3_.symm; clear f1_ f2_ f3_; subst f4_; subst f5_))
    refine norm_ (a' := ?_) ?_ ?_
    rotate_left
    ·simp only [putAll, Act.put, List.setIfInBounds_toArray, List.set_cons_zero, List.set_cons_succ]
     rfl
    refine one_ (i := 7) (N := some 28) #[true, true, true, true, true, true, true, true, false, false, false, false, false] rfl rfl (one_of HT_.out (by kernel_rfl)) (by decide) (fun K hK => ?_)
    refine Kd.R_append_rows_step k45 (w0 := w) w.heap.size (by rfl) (.tmp 25) (.tmp 27) 24 45 (.agg #[(.int .i64 0), (.int .i64 0), (.int .i64 0), (.int .i64 0)]) 32 rfl Try.underlying24 info45 rfl (by decide) (by omega) v441 t440 y443 _ _ _ (fun k_ => some k_ ≠ (.slice Ao39 y443.length co39 : Value).ownBlock ∧ k_ ≠ gb436) (fun _ => False) rfl rfl ?aO ?aR (fun _ _ h => h) (fun _ h => h.elim) ?aF ?aB ?aS ?aL ?_
    (case aR => repeat (first | exact (Kd.R_reads' HO445.out).2.2 | (with_reducible refine Kd.C_alloc ?_ _) | (with_reducible refine Kd.C_drewN ?_ _) | (with_reducible refine Kd.C_drew ?_)))
    (case aB => exact (by repeat (first | (with_reducible first | exact HB.out | apply below_alloc | apply pw_below_drewN | apply below_drew1 | refine below_set ?_ GE435.out | refine below_set ?_ GE436.out | refine below_set ?_ GE437.out) | exact HB.out)))
    (case aF => exact (fun k_ hk => ⟨Kd.fresh' (Kd.R_lt (by (with_reducible repeat (first | apply Kd.R_alloc | apply Kd.R_drewN | apply Kd.R_drew)); exact HO445.out)) k_ hk, Kd.freshB (g := gb436) (o := .cells #[.int .i64 a1_0, .int .i64 a1_1, .int .i64 a1_2, .int .i64 a1_3] 45 (0, 0)) (by (with_reducible repeat (first | refine blk_drewN ?_ _ | refine blk_drew ?_ | refine blk_alloc ?_ _)); exact BK436.out) k_ hk⟩))
    (case aO => exact (by (with_reducible repeat (first | apply Kd.R_alloc | apply Kd.R_drewN | apply Kd.R_drew)); exact HO442.out))
    (case aS => exact (below_size (by repeat (first | (with_reducible first | exact HB.out | apply below_alloc | apply pw_below_drewN | apply below_drew1 | refine below_set ?_ GE435.out | refine below_set ?_ GE436.out | refine below_set ?_ GE437.out) | exact HB.out))))
    (case aL => have := LMc20.out; omega)
    intro v447 w38 ho hb hg hat
    rw [← Ny446.out] at ho
    have n0_ := Aside0.mk (blk_grown (g := gb435) (o := .cells #[.int .i64 a0_0, .slice A0_1 l0_1.length c0_1] 26 (0, 0)) (by (with_reducible repeat (first | refine blk_drewN ?_ _ | refine blk_drew ?_ | refine blk_alloc ?_ _)); exact BK435.out) hg (Kd.R_ne HO442.out BK435.out (by decide)))
    have n1_ := Aside0.mk (blk_grown (g := gb436) (o := .cells #[.int .i64 a1_0, .int .i64 a1_1, .int .i64 a1_2, .int .i64 a1_3] 45 (0, 0)) (by (with_reducible repeat (first | refine blk_drewN ?_ _ | refine blk_drew ?_ | refine blk_alloc ?_ _)); exact BK436.out) hg (Kd.R_away HO442.out (fun _ hk => hk.2)))
    have n2_ := Aside0.mk (blk_grown (g := gb437) (o := .cells #[.int .i64 0, .slice none 0 0] 26 (0, 0)) (by (with_reducible repeat (first | refine blk_drewN ?_ _ | refine blk_drew ?_ | refine blk_alloc ?_ _)); exact BK437.out) hg (Kd.R_ne HO442.out BK437.out (by decide)))
    have n3_ := Aside0.mk (Kd.R_after (ok := (fun k_ => k_ ≠ gb436)) (by (with_reducible repeat (first | apply Kd.R_alloc | apply Kd.R_drewN | apply Kd.R_drew)); exact Kd.R_mono HO445.out (fun _ hk => ⟨hk.2, hk.1⟩)) hg hat)
    have n4_ := Aside0.mk (hb)
    have n5_ := Aside0.mk (ho)
    clear BK435
    clear BK436
    clear BK437
    clear HO445
    clear HB
    clear HO442
    have BK435 := n0_
    have BK436 := n1_
    have BK437 := n2_
    have HO445 := n3_
    have HB := n4_
    have HO448 := n5_
    clear n0_ n1_ n2_ n3_ n4_ n5_
    clear ho hb hg hat
    obtain ⟨Ao40, co40, eo40⟩ := Kd.R_slice HO448.out
    (first | subst eo40 | (injection eo40 with f1_ f2_ f3_; have f4_ := f1_.symm; have f5_ := f3_.symm; clear f1_ f2_ f3_; subst f4_; subst f5_))
    refine hK.out _ _ ⟨(blk_cell BK435.out 0).trans rfl, (blk_cell BK435.out 1).trans rfl, (blk_cell BK436.out 0).trans rfl, (blk_cell BK436.out 1).trans rfl, (blk_cell BK436.out 2).trans rfl, (blk_cell BK436.out 3).trans rfl⟩ (fun hHeld => ?_)
    clear hK K
    refine norm_ (a' := ?_) ?_ ?_
    rotate_left
    ·show Act.put _ (some 28) _ = _
     simp only [Act.put, List.setIfInBounds_toArray, List.set_cons_zero, List.set_cons_succ, i64_w, i32_w]
     rfl
    refine one_ (i := 8) (N := some 29) #[true, true, true, true, true, true, true, true, true, false, false, false, false] rfl rfl (one_of HT_.out (by kernel_rfl)) (by decide) (fun K hK => ?_)
    refine goes_ Try.func57 (by kernel_rfl) rfl #[.int .i64 a0_0, .slice Ao40 y446.length co40] (by rfl) rfl rfl (by (try simp only [List.map_toArray, List.map_cons, List.map_nil]); first | done | rfl | (simp only [List.length_drop, List.length_take]; rfl)) ?_
    with_reducible refine (impl_limited.calls a0_0 _ _ y446 t449 t450 t453 _ ?side1 ?side2 A21.out).mono ?_
    (case side1 => repeat (first | exact (Kd.R_reads' HO448.out).2.2 | (with_reducible refine Kd.C_alloc ?_ _) | (with_reducible refine Kd.C_drewN ?_ _) | (with_reducible refine Kd.C_drew ?_)))
    (case side2 => exact (Kd.R_reads' HO448.out).2.1)
    rintro e w41 ⟨v451, rfl, ho0, hb⟩
    refine ⟨_, rfl, ?_⟩
    have n0_ := Aside0.mk (Kd.R_elder' (by (with_reducible repeat (first | apply Kd.R_alloc | apply Kd.R_drewN | apply Kd.R_drew)); exact HO445.out) (Kd.R_base ho0) hb)
    have n1_ := Aside0.mk (Kd.R_elder' (by (with_reducible repeat (first | apply Kd.R_alloc | apply Kd.R_drewN | apply Kd.R_drew)); exact HO448.out) (Kd.R_base ho0) hb)
    have n2_ := Aside0.mk (Kd.R_lower (Kd.R_newB (Kd.R_new' (Kd.R_new' ho0 (Kd.R_lt (by (with_reducible repeat (first | apply Kd.R_alloc | apply Kd.R_drewN | apply Kd.R_drew)); exact HO445.out))) (Kd.R_lt (by (with_reducible repeat (first | apply Kd.R_alloc | apply Kd.R_drewN | apply Kd.R_drew)); exact HO448.out))) (g := gb436) (o := .cells #[.int .i64 a1_0, .int .i64 a1_1, .int .i64 a1_2, .int .i64 a1_3] 45 (0, 0)) (by (with_reducible repeat (first | refine blk_drewN ?_ _ | refine blk_drew ?_ | refine blk_alloc ?_ _)); exact BK436.out)) (below_size (by repeat (first | (with_reducible first | exact HB.out | apply below_alloc | apply pw_below_drewN | apply below_drew1 | refine below_set ?_ GE435.out | refine below_set ?_ GE436.out | refine below_set ?_ GE437.out) | exact HB.out))))
    have n3_ := Aside0.mk (blk_below (g := gb435) (o := .cells #[.int .i64 a0_0, .slice A0_1 l0_1.length c0_1] 26 (0, 0)) (by (with_reducible repeat (first | refine blk_drewN ?_ _ | refine blk_drew ?_ | refine blk_alloc ?_ _)); exact BK435.out) hb)
    have n4_ := Aside0.mk (blk_below (g := gb436) (o := .cells #[.int .i64 a1_0, .int .i64 a1_1, .int .i64 a1_2, .int .i64 a1_3] 45 (0, 0)) (by (with_reducible repeat (first | refine blk_drewN ?_ _ | refine blk_drew ?_ | refine blk_alloc ?_ _)); exact BK436.out) hb)
    have n5_ := Aside0.mk (blk_below (g := gb437) (o := .cells #[.int .i64 0, .slice none 0 0] 26 (0, 0)) (by (with_reducible repeat (first | refine blk_drewN ?_ _ | refine blk_drew ?_ | refine blk_alloc ?_ _)); exact BK437.out) hb)
    have n6_ := Aside0.mk (below_step (by repeat (first | (with_reducible first | exact HB.out | apply below_alloc | apply pw_below_drewN | apply below_drew1 | refine below_set ?_ GE435.out | refine below_set ?_ GE436.out | refine below_set ?_ GE437.out) | exact HB.out)) hb)
    clear HO445
    clear HO448
    clear BK435
    clear BK436
    clear BK437
    clear HB
    have HO445 := n0_
    have HO448 := n1_
    have HO452 := n2_
    have BK435 := n3_
    have BK436 := n4_
    have BK437 := n5_
    have HB := n6_
    clear n0_ n1_ n2_ n3_ n4_ n5_ n6_
    (try clear hb)
    (try clear hb2)
    (try clear hk)
    (try clear hi)
    (try clear ho0)
    obtain ⟨Ao43, co43, eo43⟩ := Kd.R_slice HO452.out
    (first | subst eo43 | (injection eo43 with f1_ f2_ f3_; have f4_ := f1_.symm; have f5_ := f3_.symm; clear f1_ f2_ f3_; subst f4_; subst f5_))
    refine hK.out _ _ ⟨(blk_cell BK435.out 0).trans rfl, (blk_cell BK435.out 1).trans rfl, (blk_cell BK436.out 0).trans rfl, (blk_cell BK436.out 1).trans rfl, (blk_cell BK436.out 2).trans rfl, (blk_cell BK436.out 3).trans rfl⟩ (fun hHeld => ?_)
    clear hK K
    refine norm_ (a' := ?_) ?_ ?_
    rotate_left
    ·show Act.put _ (some 29) _ = _
     simp only [Act.put, List.setIfInBounds_toArray, List.set_cons_zero, List.set_cons_succ, i64_w, i32_w]
     rfl
    refine pure_ (i := 9) (N := some 30) (v := ?_) (a' := ?_) #[true, true, true, true, true, true, true, true, true, true, false, false, false] rfl rfl (any_of HT_.out (by kernel_rfl)) (fun _ _ _ h => h) (Or.inl ⟨by rfl, ?_⟩) ?_ ?_
    rotate_left
    ·intro w'
     go_simp
     with_reducible rfl
    rotate_left
    ·simp only [Act.put, List.setIfInBounds_toArray, List.set_cons_zero, List.set_cons_succ, i64_w, i32_w]
     rfl
    refine pure_ (i := 10) (N := some 31) (v := ?_) (a' := ?_) #[true, true, true, true, true, true, true, true, true, true, true, false, false] rfl rfl (any_of HT_.out (by kernel_rfl)) (fun _ _ _ h => h) (Or.inl ⟨by rfl, ?_⟩) ?_ ?_
    rotate_left
    ·intro w'
     go_simp
     with_reducible rfl
    rotate_left
    ·simp only [Act.put, List.setIfInBounds_toArray, List.set_cons_zero, List.set_cons_succ, i64_w, i32_w]
     rfl
    refine one_ (i := 11) (N := none) #[true, true, true, true, true, true, true, true, true, true, true, true, false] rfl rfl (one_of HT_.out (by kernel_rfl)) (by decide) (fun K hK => ?_)
    have hs42 : w41.cell? ⟨gb437, 0, none⟩ = some (.int .i64 0) := (blk_cell BK437.out 0).trans rfl
    have hfs42 := blk_frozen BK437.out 0
    have hns42_0 := NB435_437.out
    have hns42_1 := NB436_437.out
    have hms42_0 := NB437_435.out
    have hms42_1 := NB437_436.out
    have hs44 : w41.cell? ⟨gb437, 1, none⟩ = some (.slice none 0 0) := (blk_cell BK437.out 1).trans rfl
    have hfs44 := blk_frozen BK437.out 1
    have hns44_0 := NB435_437.out
    have hns44_1 := NB436_437.out
    have hms44_0 := NB437_435.out
    have hms44_1 := NB437_436.out
    refine skip_ (w1 := ?_) (by rfl) rfl ?_ ?_
    rotate_left
    ·go_simp
     rfl
    refine hK.out _ _ ⟨((cell_far (p := ⟨gb437, _, none⟩) NB435_437.out _).trans (((cell_far (p := ⟨gb437, _, none⟩) NB435_437.out _).trans (hHeld.1)))), ((cell_far (p := ⟨gb437, _, none⟩) NB435_437.out _).trans (((cell_far (p := ⟨gb437, _, none⟩) NB435_437.out _).trans (hHeld.2.1)))), ((cell_far (p := ⟨gb437, _, none⟩) NB436_437.out _).trans (((cell_far (p := ⟨gb437, _, none⟩) NB436_437.out _).trans (hHeld.2.2.1)))), ((cell_far (p := ⟨gb437, _, none⟩) NB436_437.out _).trans (((cell_far (p := ⟨gb437, _, none⟩) NB436_437.out _).trans (hHeld.2.2.2.1)))), ((cell_far (p := ⟨gb437, _, none⟩) NB436_437.out _).trans (((cell_far (p := ⟨gb437, _, none⟩) NB436_437.out _).trans (hHeld.2.2.2.2.1)))), ((cell_far (p := ⟨gb437, _, none⟩) NB436_437.out _).trans (((cell_far (p := ⟨gb437, _, none⟩) NB436_437.out _).trans (hHeld.2.2.2.2.2))))⟩ (fun hHeld => ?_)
    clear hK K
    refine pure_ (i := 12) (N := some 5) (v := ?_) (a' := ?_) #[true, true, true, true, true, true, true, true, true, true, true, true, true] rfl rfl (any_of HT_.out (by kernel_rfl)) (fun _ _ _ h => h) (Or.inl ⟨by rfl, ?_⟩) ?_ ?_
    rotate_left
    ·intro w'
     go_simp
     with_reducible rfl
    rotate_left
    ·simp only [Act.put, List.setIfInBounds_toArray, List.set_cons_zero, List.set_cons_succ, i64_w, i32_w]
     rfl
    refine done_ (done_of HT_.out (by kernel_rfl)) ?_
    try go_wp2
    refine bodyPost_ret (results_ct rfl _ _ gb437 26 #[.int .i64 t449, .slice Ao43 t450.length co43] (0, 0) _ rfl (by (with_reducible repeat (first | refine blk_drewN ?_ _ | refine blk_drew ?_ | refine blk_alloc ?_ _)); refine blk_put (cs := #[.int .i64 t449, .slice none 0 0]) ?_ 1 _ rfl; (with_reducible repeat (first | refine blk_drewN ?_ _ | refine blk_drew ?_ | refine blk_alloc ?_ _)); refine blk_put (cs := #[.int .i64 0, .slice none 0 0]) ?_ 0 _ rfl; (with_reducible repeat (first | refine blk_drewN ?_ _ | refine blk_drew ?_ | refine blk_alloc ?_ _)); exact BK437.out) Try.underlying26 rfl (by kernel_rfl)) rfl ?_
    exact ⟨_, by first | rfl | (simp [errW_none, errW_some] <;> rfl) | (simp [*, errW_none, errW_some] <;> rfl), by (with_reducible repeat (first | apply Kd.R_alloc | apply Kd.R_drewN | apply Kd.R_drew)); exact Kd.R_mono (Kd.R_far (p := ⟨gb437, 1, none⟩) (Kd.R_far (p := ⟨gb437, 0, none⟩) (Kd.R_types HO452.out BK437.out (by decide)) (fun _ hk => hk.2) (.int .i64 t449)) (fun _ hk => hk.2) (.slice Ao43 t450.length co43)) (fun _ hk => trivial), by repeat (first | (with_reducible first | exact HB.out | apply below_alloc | apply pw_below_drewN | apply below_drew1 | refine below_set ?_ GE435.out | refine below_set ?_ GE436.out | refine below_set ?_ GE437.out) | exact HB.out)⟩
   ·rw [if_neg c20] at H
    exact absurd H (by simp)
 ·rw [if_neg c4] at H
  have c4b0 : (t438 == 0) = false := beq_eq_false_iff_ne.mpr c4
  have c4b1 : (t438 != 0) = true := bne_iff_ne.mpr c4
  simp only [Option.some.injEq, Prod.mk.injEq] at H
  obtain ⟨rfl, rfl, rfl⟩ := H
  go_enter Try.func38, Try.ntmps38
  go_wp2_with (first | ((with_reducible refine gate_dst (N := 2) rfl ?_); refine box_event ?hg (N := 2) ?hd (cs := #[.int .i64 a0_0, .slice A0_1 l0_1.length c0_1]) (t := 26) ?hr ?_; (case hd => rfl); (case hg => rfl); (case hr => first | (go_simp; done) | (go_simp; rfl)); intro gb435 hg w45 hbox hb; have n0_ := Aside0.mk (below_step (by repeat (first | (with_reducible first | exact HB.out | apply below_alloc | apply pw_below_drewN | apply below_drew1) | exact HB.out)) hb); have n1_ := Aside0.mk (hbox); have n2_ := Aside0.mk ((by rw [hg]; exact (below_size (by repeat (first | (with_reducible first | exact HB.out | apply below_alloc | apply pw_below_drewN | apply below_drew1) | exact HB.out))) : w.heap.size ≤ gb435)); have n3_ := Aside0.mk ((by rw [hg]; exact (below_size (by repeat (first | (with_reducible first | exact HB.out | apply below_alloc | apply pw_below_drewN | apply below_drew1) | exact HB.out))) : w.heap.size ≤ gb435)); clear HB; have HB := n0_; have BK435 := n1_; have GW435 := n2_; have GE435 := n3_; clear n0_ n1_ n2_ n3_; clear hb hbox hg) | ((with_reducible refine gate_dst (N := 3) rfl ?_); refine box_event ?hg (N := 3) ?hd (cs := #[.int .i64 a1_0, .int .i64 a1_1, .int .i64 a1_2, .int .i64 a1_3]) (t := 45) ?hr ?_; (case hd => rfl); (case hg => rfl); (case hr => first | (go_simp; done) | (go_simp; rfl)); intro gb436 hg w46 hbox hb; have n0_ := Aside0.mk (blk_below (g := gb435) (o := .cells #[.int .i64 a0_0, .slice A0_1 l0_1.length c0_1] 26 (0, 0)) (by (with_reducible repeat (first | refine blk_drewN ?_ _ | refine blk_drew ?_ | refine blk_alloc ?_ _)); exact BK435.out) hb); have n1_ := Aside0.mk (below_step (by repeat (first | (with_reducible first | exact HB.out | apply below_alloc | apply pw_below_drewN | apply below_drew1 | refine below_set ?_ GE435.out) | exact HB.out)) hb); have n2_ := Aside0.mk (hbox); have n3_ := Aside0.mk ((by rw [hg]; exact (below_size (by repeat (first | (with_reducible first | exact HB.out | apply below_alloc | apply pw_below_drewN | apply below_drew1 | refine below_set ?_ GE435.out) | exact HB.out))) : w.heap.size ≤ gb436)); have n4_ := Aside0.mk ((by rw [hg]; exact (below_size (by repeat (first | (with_reducible first | exact HB.out | apply below_alloc | apply pw_below_drewN | apply below_drew1 | refine below_set ?_ GE435.out) | exact HB.out))) : w.heap.size ≤ gb436)); have n5_ := Aside0.mk ((by rw [hg]; exact Nat.ne_of_lt (blk_lt (g := gb435) (o := .cells #[.int .i64 a0_0, .slice A0_1 l0_1.length c0_1] 26 (0, 0)) (by (with_reducible repeat (first | refine blk_drewN ?_ _ | refine blk_drew ?_ | refine blk_alloc ?_ _)); exact BK435.out)) : gb435 ≠ gb436)); have n6_ := Aside0.mk ((by rw [hg]; exact Nat.ne_of_gt (blk_lt (g := gb435) (o := .cells #[.int .i64 a0_0, .slice A0_1 l0_1.length c0_1] 26 (0, 0)) (by (with_reducible repeat (first | refine blk_drewN ?_ _ | refine blk_drew ?_ | refine blk_alloc ?_ _)); exact BK435.out)) : gb436 ≠ gb435)); clear BK435; clear HB; have BK435 := n0_; have HB := n1_; have BK436 := n2_; have GW436 := n3_; have GE436 := n4_; have NB435_436 := n5_; have NB436_435 := n6_; clear n0_ n1_ n2_ n3_ n4_ n5_ n6_; clear hb hbox hg) | ((with_reducible refine gate_dst (N := 4) rfl ?_); refine box_event ?hg (N := 4) ?hd (cs := #[.int .i64 0, .slice none 0 0]) (t := 26) ?hr ?_; (case hd => rfl); (case hg => rfl); (case hr => first | (go_simp; done) | (go_simp; rfl)); intro gb437 hg w47 hbox hb; have n0_ := Aside0.mk (blk_below (g := gb435) (o := .cells #[.int .i64 a0_0, .slice A0_1 l0_1.length c0_1] 26 (0, 0)) (by (with_reducible repeat (first | refine blk_drewN ?_ _ | refine blk_drew ?_ | refine blk_alloc ?_ _)); exact BK435.out) hb); have n1_ := Aside0.mk (blk_below (g := gb436) (o := .cells #[.int .i64 a1_0, .int .i64 a1_1, .int .i64 a1_2, .int .i64 a1_3] 45 (0, 0)) (by (with_reducible repeat (first | refine blk_drewN ?_ _ | refine blk_drew ?_ | refine blk_alloc ?_ _)); exact BK436.out) hb); have n2_ := Aside0.mk (below_step (by repeat (first | (with_reducible first | exact HB.out | apply below_alloc | apply pw_below_drewN | apply below_drew1 | refine below_set ?_ GE435.out | refine below_set ?_ GE436.out) | exact HB.out)) hb); have n3_ := Aside0.mk (hbox); have n4_ := Aside0.mk ((by rw [hg]; exact (below_size (by repeat (first | (with_reducible first | exact HB.out | apply below_alloc | apply pw_below_drewN | apply below_drew1 | refine below_set ?_ GE435.out | refine below_set ?_ GE436.out) | exact HB.out))) : w.heap.size ≤ gb437)); have n5_ := Aside0.mk ((by rw [hg]; exact (below_size (by repeat (first | (with_reducible first | exact HB.out | apply below_alloc | apply pw_below_drewN | apply below_drew1 | refine below_set ?_ GE435.out | refine below_set ?_ GE436.out) | exact HB.out))) : w.heap.size ≤ gb437)); have n6_ := Aside0.mk ((by rw [hg]; exact Nat.ne_of_lt (blk_lt (g := gb435) (o := .cells #[.int .i64 a0_0, .slice A0_1 l0_1.length c0_1] 26 (0, 0)) (by (with_reducible repeat (first | refine blk_drewN ?_ _ | refine blk_drew ?_ | refine blk_alloc ?_ _)); exact BK435.out)) : gb435 ≠ gb437)); have n7_ := Aside0.mk ((by rw [hg]; exact Nat.ne_of_gt (blk_lt (g := gb435) (o := .cells #[.int .i64 a0_0, .slice A0_1 l0_1.length c0_1] 26 (0, 0)) (by (with_reducible repeat (first | refine blk_drewN ?_ _ | refine blk_drew ?_ | refine blk_alloc ?_ _)); exact BK435.out)) : gb437 ≠ gb435)); have n8_ := Aside0.mk ((by rw [hg]; exact Nat.ne_of_lt (blk_lt (g := gb436) (o := .cells #[.int .i64 a1_0, .int .i64 a1_1, .int .i64 a1_2, .int .i64 a1_3] 45 (0, 0)) (by (with_reducible repeat (first | refine blk_drewN ?_ _ | refine blk_drew ?_ | refine blk_alloc ?_ _)); exact BK436.out)) : gb436 ≠ gb437)); have n9_ := Aside0.mk ((by rw [hg]; exact Nat.ne_of_gt (blk_lt (g := gb436) (o := .cells #[.int .i64 a1_0, .int .i64 a1_1, .int .i64 a1_2, .int .i64 a1_3] 45 (0, 0)) (by (with_reducible repeat (first | refine blk_drewN ?_ _ | refine blk_drew ?_ | refine blk_alloc ?_ _)); exact BK436.out)) : gb437 ≠ gb436)); clear BK435; clear BK436; clear HB; have BK435 := n0_; have BK436 := n1_; have HB := n2_; have BK437 := n3_; have GW437 := n4_; have GE437 := n5_; have NB435_437 := n6_; have NB437_435 := n7_; have NB436_437 := n8_; have NB437_436 := n9_; clear n0_ n1_ n2_ n3_ n4_ n5_ n6_ n7_ n8_ n9_; clear hb hbox hg; have hnb48 := NB435_436.out; have hnc48 := NB436_435.out; have hnb49 := NB435_437.out; have hnc49 := NB437_435.out; have hcz50_0 : w47.cell? ⟨gb435, 0, none⟩ = some (.int .i64 a0_0) := (blk_cell BK435.out 0).trans rfl; have hcz50_1 : w47.cell? ⟨gb435, 1, none⟩ = some (.slice A0_1 l0_1.length c0_1) := (blk_cell BK435.out 1).trans rfl; have hfz50_0 := blk_frozen BK435.out 0; have hfz50_1 := blk_frozen BK435.out 1) | ((with_reducible refine gate_callee (f := 77) rfl ?_); refine goesL_ (some 9) rfl rfl Try.func77 (by kernel_rfl) rfl #[.agg #[.int .i64 a0_0, .slice A0_1 l0_1.length c0_1], .func (.func 78) #[] #[.pointer (some ⟨gb436, 0, none⟩), .pointer (some ⟨gb435, 0, none⟩)]] rfl (by (try simp only [List.map_toArray, List.map_cons, List.map_nil]); first | done | rfl | (simp only [List.length_drop, List.length_take]; rfl)) ?_; (with_reducible refine (impl_setCode_at_impl_PutTile_1.calls a0_0 _ _ l0_1 gb436 a1_0 a1_1 a1_2 a1_3 gb435 a0_0 A0_1 c0_1 l0_1 t438 _ ?side1 ?side2 ?side3 ?side4 ?side5 ?side6 A3.out).mono ?_); (case side1 => repeat (first | exact (Kd.C_below HR0_1.out HB.out) | (with_reducible refine Kd.C_alloc ?_ _) | (with_reducible refine Kd.C_drewN ?_ _) | (with_reducible refine Kd.C_drew ?_))); (case side2 => exact HC0_1.out); (case side3 => repeat (first | exact (Kd.C_below HR0_1.out HB.out) | (with_reducible refine Kd.C_alloc ?_ _) | (with_reducible refine Kd.C_drewN ?_ _) | (with_reducible refine Kd.C_drew ?_))); (case side4 => exact HC0_1.out); (case side5 => exact (by (with_reducible repeat (first | refine blk_drewN ?_ _ | refine blk_drew ?_ | refine blk_alloc ?_ _)); exact BK436.out)); (case side6 => exact (by (with_reducible repeat (first | refine blk_drewN ?_ _ | refine blk_drew ?_ | refine blk_alloc ?_ _)); exact BK435.out)); rintro e w51 ⟨rfl, hb⟩; refine ⟨_, rfl, ?_⟩; have n0_ := Aside0.mk (blk_below (g := gb435) (o := .cells #[.int .i64 a0_0, .slice A0_1 l0_1.length c0_1] 26 (0, 0)) (by (with_reducible repeat (first | refine blk_drewN ?_ _ | refine blk_drew ?_ | refine blk_alloc ?_ _)); exact BK435.out) hb); have n1_ := Aside0.mk (blk_below (g := gb436) (o := .cells #[.int .i64 a1_0, .int .i64 a1_1, .int .i64 a1_2, .int .i64 a1_3] 45 (0, 0)) (by (with_reducible repeat (first | refine blk_drewN ?_ _ | refine blk_drew ?_ | refine blk_alloc ?_ _)); exact BK436.out) hb); have n2_ := Aside0.mk (blk_below (g := gb437) (o := .cells #[.int .i64 0, .slice none 0 0] 26 (0, 0)) (by (with_reducible repeat (first | refine blk_drewN ?_ _ | refine blk_drew ?_ | refine blk_alloc ?_ _)); exact BK437.out) hb); have n3_ := Aside0.mk (below_step (by repeat (first | (with_reducible first | exact HB.out | apply below_alloc | apply pw_below_drewN | apply below_drew1 | refine below_set ?_ GE435.out | refine below_set ?_ GE436.out | refine below_set ?_ GE437.out) | exact HB.out)) hb); clear BK435; clear BK436; clear BK437; clear HB; have BK435 := n0_; have BK436 := n1_; have BK437 := n2_; have HB := n3_; clear n0_ n1_ n2_ n3_; (try clear hb); (try clear hb2); (try clear hk); (try clear hi); have hnb52 := NB437_436.out; have hnc52 := NB436_437.out; have hcz53_0 : w51.cell? ⟨gb437, 0, none⟩ = some (.int .i64 0) := (blk_cell BK437.out 0).trans rfl; have hcz53_1 : w51.cell? ⟨gb437, 1, none⟩ = some (.slice none 0 0) := (blk_cell BK437.out 1).trans rfl; have hfz53_0 := blk_frozen BK437.out 0; have hfz53_1 := blk_frozen BK437.out 1))
  refine bodyPost_ret (results_ct rfl _ _ gb437 26 #[.int .i64 0, .slice none 0 0] (0, 0) _ rfl (by (with_reducible repeat (first | refine blk_drewN ?_ _ | refine blk_drew ?_ | refine blk_alloc ?_ _)); refine blk_put (cs := #[.int .i64 0, .slice none 0 0]) ?_ 1 _ rfl; (with_reducible repeat (first | refine blk_drewN ?_ _ | refine blk_drew ?_ | refine blk_alloc ?_ _)); refine blk_put (cs := #[.int .i64 0, .slice none 0 0]) ?_ 0 _ rfl; (with_reducible repeat (first | refine blk_drewN ?_ _ | refine blk_drew ?_ | refine blk_alloc ?_ _)); exact BK437.out) Try.underlying26 rfl (by kernel_rfl)) rfl ?_
  exact ⟨_, by first | rfl | (simp [errW_none, errW_some] <;> rfl) | (simp [*, errW_none, errW_some] <;> rfl), by first | exact Kd.R_nil _ _ _ _ _ | exact Kd.N_nil _ _ _ _ _ | exact Kd.V_nil _ _ _ _ _ | exact Kd.Q_nil _ _ _ _ _ | exact Kd.S_nil _ _ _ _ _, by repeat (first | (with_reducible first | exact HB.out | apply below_alloc | apply pw_below_drewN | apply below_drew1 | refine below_set ?_ GE435.out | refine below_set ?_ GE436.out | refine below_set ?_ GE437.out) | exact HB.out)⟩

end Go.Proofs.Ytnjmgmdpkogocaa.Q

/-
  PutTile: what both return.
-/
namespace Go.Proofs.Ytnjmgmdpkogocaa
open Go Go.RowKit Go.Proofs Go.Proofs.YtnjmgmdpkogocaaW.PrintWords Go.Proofs.YtnjmgmdpkogocaaW.PrintMore Go.Proofs.Ytnjmgmdpkogocaa.Q
set_option linter.unusedVariables false
set_option linter.unusedSimpArgs false

def putR (C : Int) (ts : List T4) (t : T4) : (Int × List T4) × Int :=
  if isS C ts = true then if tileB t (wrap64 (C - 1)) = true then if hasT ts t = true then ((0, []), 5) else limR C (ts ++ [t]) else ((0, []), 2) else ((0, []), 1)
theorem putR_len (C : Int) (ts : List T4) (t : T4) : (putR C ts t).1.2.length ≤ 1048576 := by
  unfold putR
  split
  · split
    · split
      · simp
      · exact limR_len C _
    · simp
  · simp
theorem specPut_f (C : Int) (l : List STile) (t0 t1 t2 t3 : Int) (hl : l.length ≤ 35184372088832) : spec_PutTile.f C l t0 t1 t2 t3 = some (flat (putR C (l.map toT) ⟨t0, t1, t2, t3⟩)) := by
  have hin : inLim l.length = true := by simpa [inLim] using hl
  have e1 : spec_l01Is.f C l = some (isS C (l.map toT)) := by rw [spec_l01Is.f, if_pos hin]
  have e2 : spec_l01Tile.f C t0 t1 t2 t3 = some (tileB ⟨t0, t1, t2, t3⟩ (wrap64 (C - 1))) := rfl
  have e3 : spec_l01Has.f C l t0 t1 t2 t3 = some (hasT (l.map toT) ⟨t0, t1, t2, t3⟩) := by rw [spec_l01Has.f, if_pos hin]
  rw [spec_PutTile.f, e1, e2, e3, putR]
  simp only [Option.bind_some]
  cases hs : isS C (l.map toT)
  · rfl
  · have h1 := isS_lens hs
    rw [List.length_map] at h1
    rw [if_pos rfl, if_pos rfl]
    cases tileB ⟨t0, t1, t2, t3⟩ (wrap64 (C - 1))
    · rfl
    · rw [if_pos rfl, if_pos rfl]
      cases hasT (l.map toT) ⟨t0, t1, t2, t3⟩
      · have b1 : ([] : List STile).length + l.length < 4398046511104 := by simp; omega
        have b2 : ([] ++ l).length + [(⟨t0, t1, t2, t3⟩ : STile)].length < 4398046511104 := by simp; omega
        rw [if_neg (show ¬ (false = true) by simp), if_neg (show ¬ (false = true) by simp), if_pos b1]
        rw [if_pos b2, specMade_f C _ (by simp; omega), Option.bind_some, told_f, Option.bind_some, List.nil_append, List.map_append]
        rfl
      · rfl
theorem implPut_f (C : Int) (l : List STile) (t0 t1 t2 t3 : Int) (hl : l.length ≤ 35184372088832) : impl_PutTile.f C l t0 t1 t2 t3 = some (flat (putR C (l.map toT) ⟨t0, t1, t2, t3⟩)) := by
  have hin : inLim l.length = true := by simpa [inLim] using hl
  have e1 : impl_IsSet.f C l = some (isS C (l.map toT)) := by rw [impl_IsSet.f, if_pos hin]
  have e2 : impl_PutTile_1.f t0 t1 t2 t3 C l = some (tileB ⟨t0, t1, t2, t3⟩ (wrap64 (C - 1))) := rfl
  have e3 : slices_Contains_impl_Tile_impl_Tile.f l t0 t1 t2 t3 = some (hasT (l.map toT) ⟨t0, t1, t2, t3⟩) := by rw [slices_Contains_impl_Tile_impl_Tile.f, if_pos hin]
  rw [impl_PutTile.f, impl_setCode_at_impl_PutTile_1.f, e1, e2, e3, putR]
  simp only [Option.bind_some]
  cases hs : isS C (l.map toT)
  · rfl
  · have h1 := isS_lens hs
    rw [List.length_map] at h1
    rw [if_pos rfl, if_pos rfl]
    cases tileB ⟨t0, t1, t2, t3⟩ (wrap64 (C - 1))
    · rfl
    · have h6 : lim6 l.length = true := by simp [lim6]; omega
      rw [if_pos rfl, if_pos rfl, Option.bind_some, if_pos rfl]
      cases hasT (l.map toT) ⟨t0, t1, t2, t3⟩
      · have b2 : l.length + [(⟨t0, t1, t2, t3⟩ : STile)].length < 4398046511104 := by simp; omega
        rw [if_neg (show ¬ (false = true) by simp), if_neg (show ¬ (false = true) by simp), slices_Clone_impl_Tile_impl_Tile.f, if_pos h6, Option.bind_some]
        rw [if_pos b2, limited_f C _ (by simp; omega), Option.bind_some, List.map_append]
        rfl
      · rfl
theorem specPutTile_any (C : Int) (A : Option Addr) (ts : List T4) (n c : Nat) (p0 p1 p2 p3 : Int) (w : World) (hn : n = ts.length) (hA : RT w A ts) (hnc : n ≤ c) (hl : n ≤ 35184372088832) :
    Calls Try.prog 36 #[.agg #[.int .i64 C, .slice A n c], .agg #[.int .i64 p0, .int .i64 p1, .int .i64 p2, .int .i64 p3]] w fun e w' => ∃ v xc xs code, putR C ts ⟨p0, p1, p2, p3⟩ = ((xc, xs), code) ∧ e = .returned (.tuple #[.agg #[.int .i64 xc, v], .int .i64 code]) ∧ OW w' w.heap.size w'.heap.size 45 4 v xs.length (tcells xs) ∧ Below w.heap.size w w' := by
  subst hn
  have hk := specPut_f C (ts.map toS) p0 p1 p2 p3 (by simpa using hl)
  rw [map_toTS] at hk
  have h := spec_PutTile.calls C A c (ts.map toS) _ _ _ _ _ _ _ w (C_of_rt hA (by omega)) (by simpa using hnc) hk
  rw [List.length_map] at h
  exact h.mono fun e w' ⟨v, he, hR, hB⟩ => ⟨v, _, _, _, rfl, he, ow_of_RT hR, hB⟩
theorem implPutTile_any (C : Int) (A : Option Addr) (ts : List T4) (n c : Nat) (p0 p1 p2 p3 : Int) (w : World) (hn : n = ts.length) (hA : RT w A ts) (hnc : n ≤ c) (hl : n ≤ 35184372088832) :
    Calls Try.prog 38 #[.agg #[.int .i64 C, .slice A n c], .agg #[.int .i64 p0, .int .i64 p1, .int .i64 p2, .int .i64 p3]] w fun e w' => ∃ v xc xs code, putR C ts ⟨p0, p1, p2, p3⟩ = ((xc, xs), code) ∧ e = .returned (.tuple #[.agg #[.int .i64 xc, v], .int .i64 code]) ∧ OW w' w.heap.size w'.heap.size 45 4 v xs.length (tcells xs) ∧ Below w.heap.size w w' := by
  subst hn
  have hk := implPut_f C (ts.map toS) p0 p1 p2 p3 (by simpa using hl)
  rw [map_toTS] at hk
  have h := impl_PutTile.calls C A c (ts.map toS) _ _ _ _ _ _ _ w (C_of_rt hA (by omega)) (by simpa using hnc) hk
  rw [List.length_map] at h
  exact h.mono fun e w' ⟨v, he, hR, hB⟩ => ⟨v, _, _, _, rfl, he, ow_of_RT hR, hB⟩
end Go.Proofs.Ytnjmgmdpkogocaa

/-
  The walk of the law FnExactPutTile.
-/
namespace Go.Proofs.Ytnjmgmdpkogocaa
open Go Go.RowKit Go.Proofs
set_option linter.unusedVariables false
set_option linter.unusedSimpArgs false

theorem toTile_all (p0 p1 p2 p3 : Int) (w : World) :
    Calls Try.prog 37 #[.agg #[.int .i64 p0, .int .i64 p1, .int .i64 p2, .int .i64 p3]] w fun e w' => e = .returned (.agg #[.int .i64 p0, .int .i64 p1, .int .i64 p2, .int .i64 p3]) ∧ Below w.heap.size w w' := toTile_any ⟨p0, p1, p2, p3⟩ w
set_option maxHeartbeats 16000000 in
set_option maxRecDepth 100000 in
theorem lawPutTile_any (w : World) (C0 : Int) (A0 : Option Addr) (ts0 : List T4) (n0 c0 : Nat) (hn0 : n0 = ts0.length) (hA0 : RT w A0 ts0) (hnc0 : n0 ≤ c0) (hl0 : n0 ≤ 35184372088832) (hC0 : -9223372036854775808 ≤ C0 ∧ C0 ≤ 9223372036854775807) (p1_0 p1_1 p1_2 p1_3 : Int) :
    Calls Try.prog 10 #[.agg #[.int .i64 C0, .slice A0 n0 c0], .agg #[.int .i64 p1_0, .int .i64 p1_1, .int .i64 p1_2, .int .i64 p1_3]] w fun e w' => e = .returned (.bool true) ∧ Below w.heap.size w w' := by
  subst hn0
  have HA0 := Lib.hid hA0; clear hA0
  by_cases hbig0 : (1048576 : Int) < ((ts0.length : Nat) : Int)
  · go_enter Try.func10, Try.ntmps10
    go_wp2_with fail
    refine namec2 ?_
    intro w1 b0 b1 hz hB
    have tw1 : w.heap.size + 2 ≤ w1.heap.size := by omega
    clear hz
    have sw1 : w.heap.size ≤ w1.heap.size := hB.size
    have hE := Lib.hid (hB)
    clear hB
    refine (szSet_any C0 A0 ts0.length c0 (1048576) w1 (by omega) (by omega) (by omega)).mono ?_
    rintro e w2 ⟨rfl, hB⟩
    rw [if_pos (show (1048576 : Int) < (ts0.length : Nat) by omega)]
    replace b0 := b0.below hB b0.lt
    replace b1 := b1.below hB b1.lt
    have sw2 : w1.heap.size ≤ w2.heap.size := hB.size
    replace hE := Lib.hid (below_to hE.out hB)
    clear hB
    go_wp2_with fail
    go_ret
    exact ⟨rfl, hE.out⟩
  · replace hbig0 : ((ts0.length : Nat) : Int) ≤ 1048576 := by omega
    obtain ⟨r_, hr_⟩ : ∃ r, putR C0 ts0 ⟨p1_0, p1_1, p1_2, p1_3⟩ = r := ⟨_, rfl⟩
    obtain ⟨⟨rc1, r1⟩, r2⟩ := r_
    have hb1 : r1.length ≤ 1048576 := by have h_ := putR_len C0 ts0 ⟨p1_0, p1_1, p1_2, p1_3⟩; rw [hr_] at h_; exact h_
    have HR := Lib.hid hr_; clear hr_
    go_enter Try.func10, Try.ntmps10
    go_wp2_with fail
    refine namec2 ?_
    intro w1 b0 b1 hz hB
    have tw1 : w.heap.size + 2 ≤ w1.heap.size := by omega
    clear hz
    have sw1 : w.heap.size ≤ w1.heap.size := hB.size
    have hE := Lib.hid (hB)
    clear hB
    refine (szSet_any C0 A0 ts0.length c0 (1048576) w1 (by omega) (by omega) (by omega)).mono ?_
    rintro e w2 ⟨rfl, hB⟩
    rw [if_neg (show ¬ (1048576 : Int) < (ts0.length : Nat) by omega)]
    replace b0 := b0.below hB b0.lt
    replace b1 := b1.below hB b1.lt
    have sw2 : w1.heap.size ≤ w2.heap.size := hB.size
    replace hE := Lib.hid (below_to hE.out hB)
    clear hB
    have l0 := b0.lt
    have c0_0 : w2.cell? ⟨w.heap.size, 0, none⟩ = some (.int .i64 C0) := b0.cell rfl
    have c0_1 : w2.cell? ⟨w.heap.size, 1, none⟩ = some (.slice A0 ts0.length c0) := b0.cell rfl
    have l1 := b1.lt
    have c1_0 : w2.cell? ⟨w.heap.size + 1, 0, none⟩ = some (.int .i64 p1_0) := b1.cell rfl
    have c1_1 : w2.cell? ⟨w.heap.size + 1, 1, none⟩ = some (.int .i64 p1_1) := b1.cell rfl
    have c1_2 : w2.cell? ⟨w.heap.size + 1, 2, none⟩ = some (.int .i64 p1_2) := b1.cell rfl
    have c1_3 : w2.cell? ⟨w.heap.size + 1, 3, none⟩ = some (.int .i64 p1_3) := b1.cell rfl
    go_wp2_with fail
    clear l0 c0_0 c0_1 l1 c1_0 c1_1 c1_2 c1_3
    have hD : Below w2.heap.size w2 w2.drew := (Below.refl _ _).drew
    replace b0 := b0.below hD b0.lt
    replace b1 := b1.below hD b1.lt
    replace hE := Lib.hid (below_to hE.out hD)
    clear hD
    have d1_w2 : w2.heap.size ≤ w2.drew.heap.size := Nat.le_refl _
    have d2_w2 : w2.drew.heap.size ≤ w2.heap.size := Nat.le_refl _
    refine region_join (R := fun a0_ a_ w_ => ∃ gv2_ : Nat, ∃ A1_ : Option Addr, ∃ c1_ : Nat, ∃ loO1_ : Nat, ∃ hiO1_ : Nat, ∃ A2_ : Option Addr, ∃ c2_ : Nat, ∃ loO2_ : Nat, ∃ hiO2_ : Nat, a_ = ((((((((((a0_.put (some 22) (.agg #[.int .i64 C0, .slice A0 ts0.length c0])).put (some 23) (.agg #[.int .i64 C0, .slice A1_ ts0.length c1_])).put (some 24) (.agg #[.int .i64 p1_0, .int .i64 p1_1, .int .i64 p1_2, .int .i64 p1_3])).put (some 25) (.agg #[.int .i64 p1_0, .int .i64 p1_1, .int .i64 p1_2, .int .i64 p1_3])).put (some 26) (.tuple #[.agg #[.int .i64 rc1, .slice A2_ r1.length c2_], .int .i64 r2])).put (some 21) (.tuple #[.agg #[.int .i64 rc1, .slice A2_ r1.length c2_], .int .i64 r2])).put (some 27) (.agg #[.int .i64 rc1, .slice A2_ r1.length c2_])).put (some 28) (.int .i64 r2)).put (some 6) (.pointer (some ⟨gv2_, 0, none⟩))).put (some 7) (.int .i64 r2)) ∧ Below w2.drew.heap.size w2.drew w_ ∧ OW w_ loO1_ hiO1_ 45 4 (.slice A1_ ts0.length c1_) ts0.length (tcells ts0) ∧ OW w_ loO2_ hiO2_ 45 4 (.slice A2_ r1.length c2_) r1.length (tcells r1) ∧ BK w_ gv2_ #[.int .i64 rc1, .slice A2_ r1.length c2_] 26 ∧ w2.drew.heap.size ≤ loO1_ ∧ loO1_ ≤ hiO1_ ∧ (gv2_ < loO1_ ∨ hiO1_ ≤ gv2_) ∧ hiO1_ ≤ loO2_ ∧ loO2_ ≤ hiO2_ ∧ (gv2_ < loO2_ ∨ hiO2_ ≤ gv2_) ∧ w2.drew.heap.size ≤ gv2_) ?_ ?_
    · have hS := Lib.hid (Below.refl w2.drew.heap.size w2.drew)
      have g0_ := b0.lt
      have g1_ := b1.lt
      go_region_held3 (fun w_ => w_.cell? ⟨w.heap.size, 0, none⟩ = some (.int .i64 C0) ∧ w_.cell? ⟨w.heap.size, 1, none⟩ = some (.slice A0 ts0.length c0) ∧ w_.cell? ⟨w.heap.size + 1, 0, none⟩ = some (.int .i64 p1_0) ∧ w_.cell? ⟨w.heap.size + 1, 1, none⟩ = some (.int .i64 p1_1) ∧ w_.cell? ⟨w.heap.size + 1, 2, none⟩ = some (.int .i64 p1_2) ∧ w_.cell? ⟨w.heap.size + 1, 3, none⟩ = some (.int .i64 p1_3)) (first | exact ⟨b0.cell rfl, b0.cell rfl, b1.cell rfl, b1.cell rfl, b1.cell rfl, b1.cell rfl⟩ | exact ⟨(b0.alloc _).cell rfl, (b0.alloc _).cell rfl, (b1.alloc _).cell rfl, (b1.alloc _).cell rfl, (b1.alloc _).cell rfl, (b1.alloc _).cell rfl⟩ | exact ⟨(b0.far2 (by omega) _ _).cell rfl, (b0.far2 (by omega) _ _).cell rfl, (b1.far2 (by omega) _ _).cell rfl, (b1.far2 (by omega) _ _).cell rfl, (b1.far2 (by omega) _ _).cell rfl, (b1.far2 (by omega) _ _).cell rfl⟩ | fail)
        (first
          | (go_at_call 24; refine at_world w2.drew ?_; refine (toSet_any C0 A0 ts0 ts0.length c0 _ rfl (HA0.out.below hE.out) (by omega)).mono ?_; rintro e w3 ⟨v_, rfl, hO, hB⟩; obtain ⟨A1_, c1_, rfl, -, -⟩ := hO.reads; have O1 := Lib.hid (OW.of hO); clear hO; replace b0 := b0.below hB b0.lt; replace b1 := b1.below hB b1.lt; have sw3 : w2.drew.heap.size ≤ w3.heap.size := hB.size; replace hE := Lib.hid (below_to hE.out hB); replace hS := Lib.hid (below_to hS.out hB); (try (replace b6 := b6.below hB b6.lt; have z0_ := b6.cell (k := 0) (v := .int .i64 0) rfl; have z1_ := b6.cell (k := 1) (v := .slice none 0 0) rfl; have y0_ := b6.frozen 0; have y1_ := b6.frozen 1; have y2_ := b6.lt)); clear hB)
          | (go_at_call 24; refine at_alloc (w := w2.drew) ?_; intro wA hA hzA b6_; have b6 : BK wA w2.heap.size _ _ := b6_; clear b6_; replace b0 := b0.below hA b0.lt; replace b1 := b1.below hA b1.lt; replace hE := Lib.hid (below_to hE.out hA); replace hS := Lib.hid (below_to hS.out hA); clear hA; refine (toSet_any C0 A0 ts0 ts0.length c0 _ rfl (HA0.out.below hE.out) (by omega)).mono ?_; rintro e w3 ⟨v_, rfl, hO, hB⟩; obtain ⟨A1_, c1_, rfl, -, -⟩ := hO.reads; have O1 := Lib.hid (OW.of hO); clear hO; replace b0 := b0.below hB b0.lt; replace b1 := b1.below hB b1.lt; have sw3 : wA.heap.size ≤ w3.heap.size := hB.size; replace hE := Lib.hid (below_to hE.out hB); replace hS := Lib.hid (below_to hS.out hB); (try (replace b6 := b6.below hB b6.lt; have z0_ := b6.cell (k := 0) (v := .int .i64 0) rfl; have z1_ := b6.cell (k := 1) (v := .slice none 0 0) rfl; have y0_ := b6.frozen 0; have y1_ := b6.frozen 1; have y2_ := b6.lt)); clear hB)
          | (go_at_call 37; refine at_world w3 ?_; refine (toTile_all p1_0 p1_1 p1_2 p1_3 _).mono ?_; rintro e w4 ⟨rfl, hB⟩; replace b0 := b0.below hB b0.lt; replace b1 := b1.below hB b1.lt; replace O1 := Lib.hid (O1.out.to hB); have sw4 : w3.heap.size ≤ w4.heap.size := hB.size; replace hE := Lib.hid (below_to hE.out hB); replace hS := Lib.hid (below_to hS.out hB); (try (replace b6 := b6.below hB b6.lt; have z0_ := b6.cell (k := 0) (v := .int .i64 0) rfl; have z1_ := b6.cell (k := 1) (v := .slice none 0 0) rfl; have y0_ := b6.frozen 0; have y1_ := b6.frozen 1; have y2_ := b6.lt)); clear hB)
          | (go_at_call 37; refine at_alloc (w := w3) ?_; intro wA hA hzA b6_; have b6 : BK wA w3.heap.size _ _ := b6_; clear b6_; replace b0 := b0.below hA b0.lt; replace b1 := b1.below hA b1.lt; replace O1 := Lib.hid (O1.out.to hA); replace hE := Lib.hid (below_to hE.out hA); replace hS := Lib.hid (below_to hS.out hA); clear hA; refine (toTile_all p1_0 p1_1 p1_2 p1_3 _).mono ?_; rintro e w4 ⟨rfl, hB⟩; replace b0 := b0.below hB b0.lt; replace b1 := b1.below hB b1.lt; replace O1 := Lib.hid (O1.out.to hB); have sw4 : wA.heap.size ≤ w4.heap.size := hB.size; replace hE := Lib.hid (below_to hE.out hB); replace hS := Lib.hid (below_to hS.out hB); (try (replace b6 := b6.below hB b6.lt; have z0_ := b6.cell (k := 0) (v := .int .i64 0) rfl; have z1_ := b6.cell (k := 1) (v := .slice none 0 0) rfl; have y0_ := b6.frozen 0; have y1_ := b6.frozen 1; have y2_ := b6.lt)); clear hB)
          | (go_at_call 36; refine at_world w4 ?_; refine (specPutTile_any C0 A1_ ts0 ts0.length c1_ p1_0 p1_1 p1_2 p1_3 _ rfl (rt_of O1.out rfl) (le_of O1.out) (by omega) ).mono ?_; rintro e w5 ⟨v0_, xc0_, x0_, x1_, hR_, rfl, hO0, hB⟩; obtain ⟨rfl, rfl, rfl⟩ : rc1 = xc0_ ∧ r1 = x0_ ∧ r2 = x1_ := (by have h_ := HR.out.symm.trans hR_; simpa [and_assoc] using h_); clear hR_; obtain ⟨A2_, c2_, rfl, -⟩ := hO0.form; have O2 := Lib.hid hO0; clear hO0; replace b0 := b0.below hB b0.lt; replace b1 := b1.below hB b1.lt; replace O1 := Lib.hid (O1.out.to hB); have sw5 : w4.heap.size ≤ w5.heap.size := hB.size; replace hE := Lib.hid (below_to hE.out hB); replace hS := Lib.hid (below_to hS.out hB); (try (replace b6 := b6.below hB b6.lt; have z0_ := b6.cell (k := 0) (v := .int .i64 0) rfl; have z1_ := b6.cell (k := 1) (v := .slice none 0 0) rfl; have y0_ := b6.frozen 0; have y1_ := b6.frozen 1; have y2_ := b6.lt)); clear hB)
          | (go_at_call 36; refine at_alloc (w := w4) ?_; intro wA hA hzA b6_; have b6 : BK wA w4.heap.size _ _ := b6_; clear b6_; replace b0 := b0.below hA b0.lt; replace b1 := b1.below hA b1.lt; replace O1 := Lib.hid (O1.out.to hA); replace hE := Lib.hid (below_to hE.out hA); replace hS := Lib.hid (below_to hS.out hA); clear hA; refine (specPutTile_any C0 A1_ ts0 ts0.length c1_ p1_0 p1_1 p1_2 p1_3 _ rfl (rt_of O1.out rfl) (le_of O1.out) (by omega) ).mono ?_; rintro e w5 ⟨v0_, xc0_, x0_, x1_, hR_, rfl, hO0, hB⟩; obtain ⟨rfl, rfl, rfl⟩ : rc1 = xc0_ ∧ r1 = x0_ ∧ r2 = x1_ := (by have h_ := HR.out.symm.trans hR_; simpa [and_assoc] using h_); clear hR_; obtain ⟨A2_, c2_, rfl, -⟩ := hO0.form; have O2 := Lib.hid hO0; clear hO0; replace b0 := b0.below hB b0.lt; replace b1 := b1.below hB b1.lt; replace O1 := Lib.hid (O1.out.to hB); have sw5 : wA.heap.size ≤ w5.heap.size := hB.size; replace hE := Lib.hid (below_to hE.out hB); replace hS := Lib.hid (below_to hS.out hB); (try (replace b6 := b6.below hB b6.lt; have z0_ := b6.cell (k := 0) (v := .int .i64 0) rfl; have z1_ := b6.cell (k := 1) (v := .slice none 0 0) rfl; have y0_ := b6.frozen 0; have y1_ := b6.frozen 1; have y2_ := b6.lt)); clear hB))
      all_goals first
        | (refine ⟨_, A1_, c1_, _, _, A2_, c2_, _, _, ?_, leaf_store hS.out ?_ _ _, O1.out.store ?_ _ _, O2.out.store ?_ _ _, b6.store2 _ _, ?_, ?_, ?_, ?_, ?_, ?_, ?_⟩ <;> first | omega | (simp only [Act.put, List.setIfInBounds_toArray, List.set_cons_zero, List.set_cons_succ]))
        | (refine ⟨_, A1_, c1_, _, _, A2_, c2_, _, _, ?_, below_al hS.out _, O1.out.to (new_below _ _), O2.out.to (new_below _ _), BK.new _ _ _, ?_, ?_, ?_, ?_, ?_, ?_, ?_⟩ <;> first | omega | (simp only [Act.put, List.setIfInBounds_toArray, List.set_cons_zero, List.set_cons_succ]))
    · intro a_ w6 hR_
      obtain ⟨gv2_, A1_, c1_, loO1_, hiO1_, A2_, c2_, loO2_, hiO2_, rfl, hB, hOO1, hOO2, b2, qw6_0, qw6_1, qw6_2, qw6_3, qw6_4, qw6_5, qw6_6⟩ := hR_
      simp only [Act.put, List.setIfInBounds_toArray, List.set_cons_zero, List.set_cons_succ]
      have O1 := Lib.hid hOO1; have topO1 := hOO1.top; clear hOO1
      have O2 := Lib.hid hOO2; have topO2 := hOO2.top; clear hOO2
      replace b0 := b0.below hB b0.lt
      replace b1 := b1.below hB b1.lt
      have sw6 : w2.drew.heap.size ≤ w6.heap.size := hB.size
      replace hE := Lib.hid (below_to hE.out hB)
      have kw6 := b2.lt
      clear hB
      have l0 := b0.lt
      have c0_0 : w6.cell? ⟨w.heap.size, 0, none⟩ = some (.int .i64 C0) := b0.cell rfl
      have c0_1 : w6.cell? ⟨w.heap.size, 1, none⟩ = some (.slice A0 ts0.length c0) := b0.cell rfl
      have l1 := b1.lt
      have c1_0 : w6.cell? ⟨w.heap.size + 1, 0, none⟩ = some (.int .i64 p1_0) := b1.cell rfl
      have c1_1 : w6.cell? ⟨w.heap.size + 1, 1, none⟩ = some (.int .i64 p1_1) := b1.cell rfl
      have c1_2 : w6.cell? ⟨w.heap.size + 1, 2, none⟩ = some (.int .i64 p1_2) := b1.cell rfl
      have c1_3 : w6.cell? ⟨w.heap.size + 1, 3, none⟩ = some (.int .i64 p1_3) := b1.cell rfl
      have l2 := b2.lt
      have c2_0 : w6.cell? ⟨gv2_, 0, none⟩ = some (.int .i64 rc1) := b2.cell rfl
      have c2_1 : w6.cell? ⟨gv2_, 1, none⟩ = some (.slice A2_ r1.length c2_) := b2.cell rfl
      go_wp2_with fail
      clear l0 c0_0 c0_1 l1 c1_0 c1_1 c1_2 c1_3 l2 c2_0 c2_1
      refine (toSet_any C0 A0 ts0 ts0.length c0 w6 rfl (HA0.out.below hE.out) (by omega)).mono ?_
      rintro e w7 ⟨v_, rfl, hO, hB⟩
      obtain ⟨A3_, c3_, rfl, -, -⟩ := hO.reads
      have O3 := Lib.hid (OW.of hO)
      clear hO
      replace b0 := b0.below hB b0.lt
      replace b1 := b1.below hB b1.lt
      replace b2 := b2.below hB b2.lt
      replace O1 := Lib.hid (O1.out.to hB)
      replace O2 := Lib.hid (O2.out.to hB)
      have sw7 : w6.heap.size ≤ w7.heap.size := hB.size
      replace hE := Lib.hid (below_to hE.out hB)
      clear hB
      have l0 := b0.lt
      have c0_0 : w7.cell? ⟨w.heap.size, 0, none⟩ = some (.int .i64 C0) := b0.cell rfl
      have c0_1 : w7.cell? ⟨w.heap.size, 1, none⟩ = some (.slice A0 ts0.length c0) := b0.cell rfl
      have l1 := b1.lt
      have c1_0 : w7.cell? ⟨w.heap.size + 1, 0, none⟩ = some (.int .i64 p1_0) := b1.cell rfl
      have c1_1 : w7.cell? ⟨w.heap.size + 1, 1, none⟩ = some (.int .i64 p1_1) := b1.cell rfl
      have c1_2 : w7.cell? ⟨w.heap.size + 1, 2, none⟩ = some (.int .i64 p1_2) := b1.cell rfl
      have c1_3 : w7.cell? ⟨w.heap.size + 1, 3, none⟩ = some (.int .i64 p1_3) := b1.cell rfl
      have l2 := b2.lt
      have c2_0 : w7.cell? ⟨gv2_, 0, none⟩ = some (.int .i64 rc1) := b2.cell rfl
      have c2_1 : w7.cell? ⟨gv2_, 1, none⟩ = some (.slice A2_ r1.length c2_) := b2.cell rfl
      go_wp2_with fail
      clear l0 c0_0 c0_1 l1 c1_0 c1_1 c1_2 c1_3 l2 c2_0 c2_1
      refine name1 ?_
      intro w8 b3 hz hB
      have tw8 : w7.heap.size + 1 ≤ w8.heap.size := by omega
      clear hz
      replace b0 := b0.below hB b0.lt
      replace b1 := b1.below hB b1.lt
      replace b2 := b2.below hB b2.lt
      replace O1 := Lib.hid (O1.out.to hB)
      replace O2 := Lib.hid (O2.out.to hB)
      replace O3 := Lib.hid (O3.out.to hB)
      have sw8 : w7.heap.size ≤ w8.heap.size := hB.size
      replace hE := Lib.hid (below_to hE.out hB)
      clear hB
      have hD : Below w8.heap.size w8 w8.drew := (Below.refl _ _).drew
      replace b0 := b0.below hD b0.lt
      replace b1 := b1.below hD b1.lt
      replace b2 := b2.below hD b2.lt
      replace b3 := b3.below hD b3.lt
      replace O1 := Lib.hid (O1.out.to hD)
      replace O2 := Lib.hid (O2.out.to hD)
      replace O3 := Lib.hid (O3.out.to hD)
      replace hE := Lib.hid (below_to hE.out hD)
      clear hD
      have d1_w8 : w8.heap.size ≤ w8.drew.heap.size := Nat.le_refl _
      have d2_w8 : w8.drew.heap.size ≤ w8.heap.size := Nat.le_refl _
      refine region_join (R := fun a0_ a_ w_ => ∃ gv4_ : Nat, ∃ A4_ : Option Addr, ∃ c4_ : Nat, ∃ loO4_ : Nat, ∃ hiO4_ : Nat, a_ = (((((((((a0_.put (some 32) (.agg #[.int .i64 C0, .slice A3_ ts0.length c3_])).put (some 33) (.agg #[.int .i64 p1_0, .int .i64 p1_1, .int .i64 p1_2, .int .i64 p1_3])).put (some 34) (.agg #[.int .i64 p1_0, .int .i64 p1_1, .int .i64 p1_2, .int .i64 p1_3])).put (some 35) (.tuple #[.agg #[.int .i64 rc1, .slice A4_ r1.length c4_], .int .i64 r2])).put (some 31) (.tuple #[.agg #[.int .i64 rc1, .slice A4_ r1.length c4_], .int .i64 r2])).put (some 36) (.agg #[.int .i64 rc1, .slice A4_ r1.length c4_])).put (some 37) (.int .i64 r2)).put (some 9) (.pointer (some ⟨gv4_, 0, none⟩))).put (some 10) (.int .i64 r2)) ∧ Below w8.drew.heap.size w8.drew w_ ∧ OW w_ loO4_ hiO4_ 45 4 (.slice A4_ r1.length c4_) r1.length (tcells r1) ∧ BK w_ gv4_ #[.int .i64 rc1, .slice A4_ r1.length c4_] 26 ∧ w8.drew.heap.size ≤ loO4_ ∧ loO4_ ≤ hiO4_ ∧ (gv4_ < loO4_ ∨ hiO4_ ≤ gv4_) ∧ w8.drew.heap.size ≤ gv4_) ?_ ?_
      · have hS := Lib.hid (Below.refl w8.drew.heap.size w8.drew)
        have g0_ := b0.lt
        have g1_ := b1.lt
        have g2_ := b2.lt
        have g3_ := b3.lt
        go_region_held3 (fun w_ => w_.cell? ⟨w.heap.size, 0, none⟩ = some (.int .i64 C0) ∧ w_.cell? ⟨w.heap.size, 1, none⟩ = some (.slice A0 ts0.length c0) ∧ w_.cell? ⟨w.heap.size + 1, 0, none⟩ = some (.int .i64 p1_0) ∧ w_.cell? ⟨w.heap.size + 1, 1, none⟩ = some (.int .i64 p1_1) ∧ w_.cell? ⟨w.heap.size + 1, 2, none⟩ = some (.int .i64 p1_2) ∧ w_.cell? ⟨w.heap.size + 1, 3, none⟩ = some (.int .i64 p1_3) ∧ w_.cell? ⟨gv2_, 0, none⟩ = some (.int .i64 rc1) ∧ w_.cell? ⟨gv2_, 1, none⟩ = some (.slice A2_ r1.length c2_) ∧ w_.cell? ⟨w7.heap.size, 0, none⟩ = some (.int .i64 C0) ∧ w_.cell? ⟨w7.heap.size, 1, none⟩ = some (.slice A3_ ts0.length c3_)) (first | exact ⟨b0.cell rfl, b0.cell rfl, b1.cell rfl, b1.cell rfl, b1.cell rfl, b1.cell rfl, b2.cell rfl, b2.cell rfl, b3.cell rfl, b3.cell rfl⟩ | exact ⟨(b0.alloc _).cell rfl, (b0.alloc _).cell rfl, (b1.alloc _).cell rfl, (b1.alloc _).cell rfl, (b1.alloc _).cell rfl, (b1.alloc _).cell rfl, (b2.alloc _).cell rfl, (b2.alloc _).cell rfl, (b3.alloc _).cell rfl, (b3.alloc _).cell rfl⟩ | exact ⟨(b0.far2 (by omega) _ _).cell rfl, (b0.far2 (by omega) _ _).cell rfl, (b1.far2 (by omega) _ _).cell rfl, (b1.far2 (by omega) _ _).cell rfl, (b1.far2 (by omega) _ _).cell rfl, (b1.far2 (by omega) _ _).cell rfl, (b2.far2 (by omega) _ _).cell rfl, (b2.far2 (by omega) _ _).cell rfl, (b3.far2 (by omega) _ _).cell rfl, (b3.far2 (by omega) _ _).cell rfl⟩ | fail)
          (first
            | (go_at_call 37; refine at_world w8.drew ?_; refine (toTile_all p1_0 p1_1 p1_2 p1_3 _).mono ?_; rintro e w9 ⟨rfl, hB⟩; replace b0 := b0.below hB b0.lt; replace b1 := b1.below hB b1.lt; replace b2 := b2.below hB b2.lt; replace b3 := b3.below hB b3.lt; replace O1 := Lib.hid (O1.out.to hB); replace O2 := Lib.hid (O2.out.to hB); replace O3 := Lib.hid (O3.out.to hB); have sw9 : w8.drew.heap.size ≤ w9.heap.size := hB.size; replace hE := Lib.hid (below_to hE.out hB); replace hS := Lib.hid (below_to hS.out hB); (try (replace b6 := b6.below hB b6.lt; have z0_ := b6.cell (k := 0) (v := .int .i64 0) rfl; have z1_ := b6.cell (k := 1) (v := .slice none 0 0) rfl; have y0_ := b6.frozen 0; have y1_ := b6.frozen 1; have y2_ := b6.lt)); clear hB)
            | (go_at_call 37; refine at_alloc (w := w8.drew) ?_; intro wA hA hzA b6_; have b6 : BK wA w8.heap.size _ _ := b6_; clear b6_; replace b0 := b0.below hA b0.lt; replace b1 := b1.below hA b1.lt; replace b2 := b2.below hA b2.lt; replace b3 := b3.below hA b3.lt; replace O1 := Lib.hid (O1.out.to hA); replace O2 := Lib.hid (O2.out.to hA); replace O3 := Lib.hid (O3.out.to hA); replace hE := Lib.hid (below_to hE.out hA); replace hS := Lib.hid (below_to hS.out hA); clear hA; refine (toTile_all p1_0 p1_1 p1_2 p1_3 _).mono ?_; rintro e w9 ⟨rfl, hB⟩; replace b0 := b0.below hB b0.lt; replace b1 := b1.below hB b1.lt; replace b2 := b2.below hB b2.lt; replace b3 := b3.below hB b3.lt; replace O1 := Lib.hid (O1.out.to hB); replace O2 := Lib.hid (O2.out.to hB); replace O3 := Lib.hid (O3.out.to hB); have sw9 : wA.heap.size ≤ w9.heap.size := hB.size; replace hE := Lib.hid (below_to hE.out hB); replace hS := Lib.hid (below_to hS.out hB); (try (replace b6 := b6.below hB b6.lt; have z0_ := b6.cell (k := 0) (v := .int .i64 0) rfl; have z1_ := b6.cell (k := 1) (v := .slice none 0 0) rfl; have y0_ := b6.frozen 0; have y1_ := b6.frozen 1; have y2_ := b6.lt)); clear hB)
            | (go_at_call 38; refine at_world w9 ?_; refine (implPutTile_any C0 A3_ ts0 ts0.length c3_ p1_0 p1_1 p1_2 p1_3 _ rfl (rt_of O3.out rfl) (le_of O3.out) (by omega) ).mono ?_; rintro e w10 ⟨v0_, xc0_, x0_, x1_, hR_, rfl, hO0, hB⟩; obtain ⟨rfl, rfl, rfl⟩ : rc1 = xc0_ ∧ r1 = x0_ ∧ r2 = x1_ := (by have h_ := HR.out.symm.trans hR_; simpa [and_assoc] using h_); clear hR_; obtain ⟨A4_, c4_, rfl, -⟩ := hO0.form; have O4 := Lib.hid hO0; clear hO0; replace b0 := b0.below hB b0.lt; replace b1 := b1.below hB b1.lt; replace b2 := b2.below hB b2.lt; replace b3 := b3.below hB b3.lt; replace O1 := Lib.hid (O1.out.to hB); replace O2 := Lib.hid (O2.out.to hB); replace O3 := Lib.hid (O3.out.to hB); have sw10 : w9.heap.size ≤ w10.heap.size := hB.size; replace hE := Lib.hid (below_to hE.out hB); replace hS := Lib.hid (below_to hS.out hB); (try (replace b6 := b6.below hB b6.lt; have z0_ := b6.cell (k := 0) (v := .int .i64 0) rfl; have z1_ := b6.cell (k := 1) (v := .slice none 0 0) rfl; have y0_ := b6.frozen 0; have y1_ := b6.frozen 1; have y2_ := b6.lt)); clear hB)
            | (go_at_call 38; refine at_alloc (w := w9) ?_; intro wA hA hzA b6_; have b6 : BK wA w9.heap.size _ _ := b6_; clear b6_; replace b0 := b0.below hA b0.lt; replace b1 := b1.below hA b1.lt; replace b2 := b2.below hA b2.lt; replace b3 := b3.below hA b3.lt; replace O1 := Lib.hid (O1.out.to hA); replace O2 := Lib.hid (O2.out.to hA); replace O3 := Lib.hid (O3.out.to hA); replace hE := Lib.hid (below_to hE.out hA); replace hS := Lib.hid (below_to hS.out hA); clear hA; refine (implPutTile_any C0 A3_ ts0 ts0.length c3_ p1_0 p1_1 p1_2 p1_3 _ rfl (rt_of O3.out rfl) (le_of O3.out) (by omega) ).mono ?_; rintro e w10 ⟨v0_, xc0_, x0_, x1_, hR_, rfl, hO0, hB⟩; obtain ⟨rfl, rfl, rfl⟩ : rc1 = xc0_ ∧ r1 = x0_ ∧ r2 = x1_ := (by have h_ := HR.out.symm.trans hR_; simpa [and_assoc] using h_); clear hR_; obtain ⟨A4_, c4_, rfl, -⟩ := hO0.form; have O4 := Lib.hid hO0; clear hO0; replace b0 := b0.below hB b0.lt; replace b1 := b1.below hB b1.lt; replace b2 := b2.below hB b2.lt; replace b3 := b3.below hB b3.lt; replace O1 := Lib.hid (O1.out.to hB); replace O2 := Lib.hid (O2.out.to hB); replace O3 := Lib.hid (O3.out.to hB); have sw10 : wA.heap.size ≤ w10.heap.size := hB.size; replace hE := Lib.hid (below_to hE.out hB); replace hS := Lib.hid (below_to hS.out hB); (try (replace b6 := b6.below hB b6.lt; have z0_ := b6.cell (k := 0) (v := .int .i64 0) rfl; have z1_ := b6.cell (k := 1) (v := .slice none 0 0) rfl; have y0_ := b6.frozen 0; have y1_ := b6.frozen 1; have y2_ := b6.lt)); clear hB))
        all_goals first
          | (refine ⟨_, A4_, c4_, _, _, ?_, leaf_store hS.out ?_ _ _, O4.out.store ?_ _ _, b6.store2 _ _, ?_, ?_, ?_, ?_⟩ <;> first | omega | (simp only [Act.put, List.setIfInBounds_toArray, List.set_cons_zero, List.set_cons_succ]))
          | (refine ⟨_, A4_, c4_, _, _, ?_, below_al hS.out _, O4.out.to (new_below _ _), BK.new _ _ _, ?_, ?_, ?_, ?_⟩ <;> first | omega | (simp only [Act.put, List.setIfInBounds_toArray, List.set_cons_zero, List.set_cons_succ]))
      · intro a_ w11 hR_
        obtain ⟨gv4_, A4_, c4_, loO4_, hiO4_, rfl, hB, hOO4, b4, qw11_0, qw11_1, qw11_2, qw11_3⟩ := hR_
        simp only [Act.put, List.setIfInBounds_toArray, List.set_cons_zero, List.set_cons_succ]
        have O4 := Lib.hid hOO4; have topO4 := hOO4.top; clear hOO4
        replace b0 := b0.below hB b0.lt
        replace b1 := b1.below hB b1.lt
        replace b2 := b2.below hB b2.lt
        replace b3 := b3.below hB b3.lt
        replace O1 := Lib.hid (O1.out.to hB)
        replace O2 := Lib.hid (O2.out.to hB)
        replace O3 := Lib.hid (O3.out.to hB)
        have sw11 : w8.drew.heap.size ≤ w11.heap.size := hB.size
        replace hE := Lib.hid (below_to hE.out hB)
        have kw11 := b4.lt
        clear hB
        have l0 := b0.lt
        have c0_0 : w11.cell? ⟨w.heap.size, 0, none⟩ = some (.int .i64 C0) := b0.cell rfl
        have c0_1 : w11.cell? ⟨w.heap.size, 1, none⟩ = some (.slice A0 ts0.length c0) := b0.cell rfl
        have l1 := b1.lt
        have c1_0 : w11.cell? ⟨w.heap.size + 1, 0, none⟩ = some (.int .i64 p1_0) := b1.cell rfl
        have c1_1 : w11.cell? ⟨w.heap.size + 1, 1, none⟩ = some (.int .i64 p1_1) := b1.cell rfl
        have c1_2 : w11.cell? ⟨w.heap.size + 1, 2, none⟩ = some (.int .i64 p1_2) := b1.cell rfl
        have c1_3 : w11.cell? ⟨w.heap.size + 1, 3, none⟩ = some (.int .i64 p1_3) := b1.cell rfl
        have l2 := b2.lt
        have c2_0 : w11.cell? ⟨gv2_, 0, none⟩ = some (.int .i64 rc1) := b2.cell rfl
        have c2_1 : w11.cell? ⟨gv2_, 1, none⟩ = some (.slice A2_ r1.length c2_) := b2.cell rfl
        have l3 := b3.lt
        have c3_0 : w11.cell? ⟨w7.heap.size, 0, none⟩ = some (.int .i64 C0) := b3.cell rfl
        have c3_1 : w11.cell? ⟨w7.heap.size, 1, none⟩ = some (.slice A3_ ts0.length c3_) := b3.cell rfl
        have l4 := b4.lt
        have c4_0 : w11.cell? ⟨gv4_, 0, none⟩ = some (.int .i64 rc1) := b4.cell rfl
        have c4_1 : w11.cell? ⟨gv4_, 1, none⟩ = some (.slice A4_ r1.length c4_) := b4.cell rfl
        go_wp2_with fail
        clear l0 c0_0 c0_1 l1 c1_0 c1_1 c1_2 c1_3 l2 c2_0 c2_1 l3 c3_0 c3_1 l4 c4_0 c4_1
        refine (eqSet_any rc1 rc1 A4_ A2_ r1 r1 r1.length r1.length c4_ c2_ w11 rfl rfl (rt_of O4.out rfl) (rt_of O2.out rfl) (by omega) (by omega)).mono ?_
        rintro e w12 ⟨rfl, hB⟩
        simp only [decide_true, Bool.and_self]
        replace b0 := b0.below hB b0.lt
        replace b1 := b1.below hB b1.lt
        replace b2 := b2.below hB b2.lt
        replace b3 := b3.below hB b3.lt
        replace b4 := b4.below hB b4.lt
        replace O1 := Lib.hid (O1.out.to hB)
        replace O2 := Lib.hid (O2.out.to hB)
        replace O3 := Lib.hid (O3.out.to hB)
        replace O4 := Lib.hid (O4.out.to hB)
        have sw12 : w11.heap.size ≤ w12.heap.size := hB.size
        replace hE := Lib.hid (below_to hE.out hB)
        clear hB
        have l0 := b0.lt
        have c0_0 : w12.cell? ⟨w.heap.size, 0, none⟩ = some (.int .i64 C0) := b0.cell rfl
        have c0_1 : w12.cell? ⟨w.heap.size, 1, none⟩ = some (.slice A0 ts0.length c0) := b0.cell rfl
        have l1 := b1.lt
        have c1_0 : w12.cell? ⟨w.heap.size + 1, 0, none⟩ = some (.int .i64 p1_0) := b1.cell rfl
        have c1_1 : w12.cell? ⟨w.heap.size + 1, 1, none⟩ = some (.int .i64 p1_1) := b1.cell rfl
        have c1_2 : w12.cell? ⟨w.heap.size + 1, 2, none⟩ = some (.int .i64 p1_2) := b1.cell rfl
        have c1_3 : w12.cell? ⟨w.heap.size + 1, 3, none⟩ = some (.int .i64 p1_3) := b1.cell rfl
        have l2 := b2.lt
        have c2_0 : w12.cell? ⟨gv2_, 0, none⟩ = some (.int .i64 rc1) := b2.cell rfl
        have c2_1 : w12.cell? ⟨gv2_, 1, none⟩ = some (.slice A2_ r1.length c2_) := b2.cell rfl
        have l3 := b3.lt
        have c3_0 : w12.cell? ⟨w7.heap.size, 0, none⟩ = some (.int .i64 C0) := b3.cell rfl
        have c3_1 : w12.cell? ⟨w7.heap.size, 1, none⟩ = some (.slice A3_ ts0.length c3_) := b3.cell rfl
        have l4 := b4.lt
        have c4_0 : w12.cell? ⟨gv4_, 0, none⟩ = some (.int .i64 rc1) := b4.cell rfl
        have c4_1 : w12.cell? ⟨gv4_, 1, none⟩ = some (.slice A4_ r1.length c4_) := b4.cell rfl
        go_wp2_with fail
        clear l0 c0_0 c0_1 l1 c1_0 c1_1 c1_2 c1_3 l2 c2_0 c2_1 l3 c3_0 c3_1 l4 c4_0 c4_1
        have hD : Below w12.heap.size w12 w12.drew := (Below.refl _ _).drew
        replace b0 := b0.below hD b0.lt
        replace b1 := b1.below hD b1.lt
        replace b2 := b2.below hD b2.lt
        replace b3 := b3.below hD b3.lt
        replace b4 := b4.below hD b4.lt
        replace O1 := Lib.hid (O1.out.to hD)
        replace O2 := Lib.hid (O2.out.to hD)
        replace O3 := Lib.hid (O3.out.to hD)
        replace O4 := Lib.hid (O4.out.to hD)
        replace hE := Lib.hid (below_to hE.out hD)
        clear hD
        have d1_w12 : w12.heap.size ≤ w12.drew.heap.size := Nat.le_refl _
        have d2_w12 : w12.drew.heap.size ≤ w12.heap.size := Nat.le_refl _
        go_region_held3 (fun w_ => w_.cell? ⟨w.heap.size, 0, none⟩ = some (.int .i64 C0) ∧ w_.cell? ⟨w.heap.size, 1, none⟩ = some (.slice A0 ts0.length c0) ∧ w_.cell? ⟨w.heap.size + 1, 0, none⟩ = some (.int .i64 p1_0) ∧ w_.cell? ⟨w.heap.size + 1, 1, none⟩ = some (.int .i64 p1_1) ∧ w_.cell? ⟨w.heap.size + 1, 2, none⟩ = some (.int .i64 p1_2) ∧ w_.cell? ⟨w.heap.size + 1, 3, none⟩ = some (.int .i64 p1_3) ∧ w_.cell? ⟨gv2_, 0, none⟩ = some (.int .i64 rc1) ∧ w_.cell? ⟨gv2_, 1, none⟩ = some (.slice A2_ r1.length c2_) ∧ w_.cell? ⟨w7.heap.size, 0, none⟩ = some (.int .i64 C0) ∧ w_.cell? ⟨w7.heap.size, 1, none⟩ = some (.slice A3_ ts0.length c3_) ∧ w_.cell? ⟨gv4_, 0, none⟩ = some (.int .i64 rc1) ∧ w_.cell? ⟨gv4_, 1, none⟩ = some (.slice A4_ r1.length c4_)) (first | exact ⟨b0.cell rfl, b0.cell rfl, b1.cell rfl, b1.cell rfl, b1.cell rfl, b1.cell rfl, b2.cell rfl, b2.cell rfl, b3.cell rfl, b3.cell rfl, b4.cell rfl, b4.cell rfl⟩)
          (first
            | (go_at_call 24; refine (toSet_any C0 A0 ts0 ts0.length c0 w12.drew rfl (HA0.out.below hE.out) (by omega)).mono ?_; rintro e w13 ⟨v_, rfl, hO, hB⟩; obtain ⟨A5_, c5_, rfl, -, -⟩ := hO.reads; have O5 := Lib.hid (OW.of hO); clear hO; replace b0 := b0.below hB b0.lt; replace b1 := b1.below hB b1.lt; replace b2 := b2.below hB b2.lt; replace b3 := b3.below hB b3.lt; replace b4 := b4.below hB b4.lt; replace O1 := Lib.hid (O1.out.to hB); replace O2 := Lib.hid (O2.out.to hB); replace O3 := Lib.hid (O3.out.to hB); replace O4 := Lib.hid (O4.out.to hB); have sw13 : w12.drew.heap.size ≤ w13.heap.size := hB.size; replace hE := Lib.hid (below_to hE.out hB); clear hB)
            | (go_at_call 17; refine (eqSet_any C0 C0 A3_ A5_ ts0 ts0 ts0.length ts0.length c3_ c5_ w13 rfl rfl (rt_of O3.out rfl) (rt_of O5.out rfl) (by omega) (by omega)).mono ?_; rintro e w14 ⟨rfl, hB⟩; simp only [decide_true, Bool.and_self]; replace b0 := b0.below hB b0.lt; replace b1 := b1.below hB b1.lt; replace b2 := b2.below hB b2.lt; replace b3 := b3.below hB b3.lt; replace b4 := b4.below hB b4.lt; replace O1 := Lib.hid (O1.out.to hB); replace O2 := Lib.hid (O2.out.to hB); replace O3 := Lib.hid (O3.out.to hB); replace O4 := Lib.hid (O4.out.to hB); replace O5 := Lib.hid (O5.out.to hB); have sw14 : w13.heap.size ≤ w14.heap.size := hB.size; replace hE := Lib.hid (below_to hE.out hB); clear hB))
        have l0 := b0.lt
        have c0_0 : w14.cell? ⟨w.heap.size, 0, none⟩ = some (.int .i64 C0) := b0.cell rfl
        have c0_1 : w14.cell? ⟨w.heap.size, 1, none⟩ = some (.slice A0 ts0.length c0) := b0.cell rfl
        have l1 := b1.lt
        have c1_0 : w14.cell? ⟨w.heap.size + 1, 0, none⟩ = some (.int .i64 p1_0) := b1.cell rfl
        have c1_1 : w14.cell? ⟨w.heap.size + 1, 1, none⟩ = some (.int .i64 p1_1) := b1.cell rfl
        have c1_2 : w14.cell? ⟨w.heap.size + 1, 2, none⟩ = some (.int .i64 p1_2) := b1.cell rfl
        have c1_3 : w14.cell? ⟨w.heap.size + 1, 3, none⟩ = some (.int .i64 p1_3) := b1.cell rfl
        have l2 := b2.lt
        have c2_0 : w14.cell? ⟨gv2_, 0, none⟩ = some (.int .i64 rc1) := b2.cell rfl
        have c2_1 : w14.cell? ⟨gv2_, 1, none⟩ = some (.slice A2_ r1.length c2_) := b2.cell rfl
        have l3 := b3.lt
        have c3_0 : w14.cell? ⟨w7.heap.size, 0, none⟩ = some (.int .i64 C0) := b3.cell rfl
        have c3_1 : w14.cell? ⟨w7.heap.size, 1, none⟩ = some (.slice A3_ ts0.length c3_) := b3.cell rfl
        have l4 := b4.lt
        have c4_0 : w14.cell? ⟨gv4_, 0, none⟩ = some (.int .i64 rc1) := b4.cell rfl
        have c4_1 : w14.cell? ⟨gv4_, 1, none⟩ = some (.slice A4_ r1.length c4_) := b4.cell rfl
        go_wp2_with fail
        clear l0 c0_0 c0_1 l1 c1_0 c1_1 c1_2 c1_3 l2 c2_0 c2_1 l3 c3_0 c3_1 l4 c4_0 c4_1
        obtain ⟨m_O3, hm_O3⟩ : ∃ m, m = ts0.length * 4 := ⟨_, rfl⟩
        have bm_O3 : m_O3 ≤ 40000000 := by omega
        have Hm_O3 := Lib.hid hm_O3; clear hm_O3
        refine (markSet_m w6.heap.size w7.heap.size C0 (.slice A3_ ts0.length c3_) ts0.length m_O3 (tcells ts0) (1) w14 Hm_O3.out O3.out (by omega) (by omega) (by omega)).mono ?_
        rintro e w15 ⟨rfl, hO, hK⟩
        clear O3
        have O3 := Lib.hid hO
        clear hO
        replace b0 := b0.only hK (by omega)
        replace b1 := b1.only hK (by omega)
        replace b2 := b2.only hK (by omega)
        replace b3 := b3.only hK (by omega)
        replace b4 := b4.only hK (by omega)
        replace O1 := Lib.hid (O1.out.only hK (by omega))
        replace O2 := Lib.hid (O2.out.only hK (by omega))
        replace O4 := Lib.hid (O4.out.only hK (by omega))
        replace O5 := Lib.hid (O5.out.only hK (by omega))
        have sw15 : w14.heap.size ≤ w15.heap.size := hK.size
        replace hE := Lib.hid (below_only hE.out hK (by omega))
        clear hK
        have l0 := b0.lt
        have c0_0 : w15.cell? ⟨w.heap.size, 0, none⟩ = some (.int .i64 C0) := b0.cell rfl
        have c0_1 : w15.cell? ⟨w.heap.size, 1, none⟩ = some (.slice A0 ts0.length c0) := b0.cell rfl
        have l1 := b1.lt
        have c1_0 : w15.cell? ⟨w.heap.size + 1, 0, none⟩ = some (.int .i64 p1_0) := b1.cell rfl
        have c1_1 : w15.cell? ⟨w.heap.size + 1, 1, none⟩ = some (.int .i64 p1_1) := b1.cell rfl
        have c1_2 : w15.cell? ⟨w.heap.size + 1, 2, none⟩ = some (.int .i64 p1_2) := b1.cell rfl
        have c1_3 : w15.cell? ⟨w.heap.size + 1, 3, none⟩ = some (.int .i64 p1_3) := b1.cell rfl
        have l2 := b2.lt
        have c2_0 : w15.cell? ⟨gv2_, 0, none⟩ = some (.int .i64 rc1) := b2.cell rfl
        have c2_1 : w15.cell? ⟨gv2_, 1, none⟩ = some (.slice A2_ r1.length c2_) := b2.cell rfl
        have l3 := b3.lt
        have c3_0 : w15.cell? ⟨w7.heap.size, 0, none⟩ = some (.int .i64 C0) := b3.cell rfl
        have c3_1 : w15.cell? ⟨w7.heap.size, 1, none⟩ = some (.slice A3_ ts0.length c3_) := b3.cell rfl
        have l4 := b4.lt
        have c4_0 : w15.cell? ⟨gv4_, 0, none⟩ = some (.int .i64 rc1) := b4.cell rfl
        have c4_1 : w15.cell? ⟨gv4_, 1, none⟩ = some (.slice A4_ r1.length c4_) := b4.cell rfl
        go_wp2_with fail
        clear l0 c0_0 c0_1 l1 c1_0 c1_1 c1_2 c1_3 l2 c2_0 c2_1 l3 c3_0 c3_1 l4 c4_0 c4_1
        refine (eqSet_any rc1 rc1 A4_ A2_ r1 r1 r1.length r1.length c4_ c2_ w15 rfl rfl (rt_of O4.out rfl) (rt_of O2.out rfl) (by omega) (by omega)).mono ?_
        rintro e w16 ⟨rfl, hB⟩
        simp only [decide_true, Bool.and_self]
        replace b0 := b0.below hB b0.lt
        replace b1 := b1.below hB b1.lt
        replace b2 := b2.below hB b2.lt
        replace b3 := b3.below hB b3.lt
        replace b4 := b4.below hB b4.lt
        replace O1 := Lib.hid (O1.out.to hB)
        replace O2 := Lib.hid (O2.out.to hB)
        replace O3 := Lib.hid (O3.out.to hB)
        replace O4 := Lib.hid (O4.out.to hB)
        replace O5 := Lib.hid (O5.out.to hB)
        have sw16 : w15.heap.size ≤ w16.heap.size := hB.size
        replace hE := Lib.hid (below_to hE.out hB)
        clear hB
        have l0 := b0.lt
        have c0_0 : w16.cell? ⟨w.heap.size, 0, none⟩ = some (.int .i64 C0) := b0.cell rfl
        have c0_1 : w16.cell? ⟨w.heap.size, 1, none⟩ = some (.slice A0 ts0.length c0) := b0.cell rfl
        have l1 := b1.lt
        have c1_0 : w16.cell? ⟨w.heap.size + 1, 0, none⟩ = some (.int .i64 p1_0) := b1.cell rfl
        have c1_1 : w16.cell? ⟨w.heap.size + 1, 1, none⟩ = some (.int .i64 p1_1) := b1.cell rfl
        have c1_2 : w16.cell? ⟨w.heap.size + 1, 2, none⟩ = some (.int .i64 p1_2) := b1.cell rfl
        have c1_3 : w16.cell? ⟨w.heap.size + 1, 3, none⟩ = some (.int .i64 p1_3) := b1.cell rfl
        have l2 := b2.lt
        have c2_0 : w16.cell? ⟨gv2_, 0, none⟩ = some (.int .i64 rc1) := b2.cell rfl
        have c2_1 : w16.cell? ⟨gv2_, 1, none⟩ = some (.slice A2_ r1.length c2_) := b2.cell rfl
        have l3 := b3.lt
        have c3_0 : w16.cell? ⟨w7.heap.size, 0, none⟩ = some (.int .i64 C0) := b3.cell rfl
        have c3_1 : w16.cell? ⟨w7.heap.size, 1, none⟩ = some (.slice A3_ ts0.length c3_) := b3.cell rfl
        have l4 := b4.lt
        have c4_0 : w16.cell? ⟨gv4_, 0, none⟩ = some (.int .i64 rc1) := b4.cell rfl
        have c4_1 : w16.cell? ⟨gv4_, 1, none⟩ = some (.slice A4_ r1.length c4_) := b4.cell rfl
        go_wp2_with fail
        clear l0 c0_0 c0_1 l1 c1_0 c1_1 c1_2 c1_3 l2 c2_0 c2_1 l3 c3_0 c3_1 l4 c4_0 c4_1
        obtain ⟨m_O4, hm_O4⟩ : ∃ m, m = r1.length * 4 := ⟨_, rfl⟩
        have bm_O4 : m_O4 ≤ 40000000 := by omega
        have Hm_O4 := Lib.hid hm_O4; clear hm_O4
        refine (markSet_m loO4_ hiO4_ rc1 (.slice A4_ r1.length c4_) r1.length m_O4 (tcells r1) (1) w16 Hm_O4.out O4.out (by omega) (by omega) (by omega)).mono ?_
        rintro e w17 ⟨rfl, hO, hK⟩
        clear O4
        have O4 := Lib.hid hO
        clear hO
        replace b0 := b0.only hK (by omega)
        replace b1 := b1.only hK (by omega)
        replace b2 := b2.only hK (by omega)
        replace b3 := b3.only hK (by omega)
        replace b4 := b4.only hK (by omega)
        replace O1 := Lib.hid (O1.out.only hK (by omega))
        replace O2 := Lib.hid (O2.out.only hK (by omega))
        replace O3 := Lib.hid (O3.out.only hK (by omega))
        replace O5 := Lib.hid (O5.out.only hK (by omega))
        have sw17 : w16.heap.size ≤ w17.heap.size := hK.size
        replace hE := Lib.hid (below_only hE.out hK (by omega))
        clear hK
        have l0 := b0.lt
        have c0_0 : w17.cell? ⟨w.heap.size, 0, none⟩ = some (.int .i64 C0) := b0.cell rfl
        have c0_1 : w17.cell? ⟨w.heap.size, 1, none⟩ = some (.slice A0 ts0.length c0) := b0.cell rfl
        have l1 := b1.lt
        have c1_0 : w17.cell? ⟨w.heap.size + 1, 0, none⟩ = some (.int .i64 p1_0) := b1.cell rfl
        have c1_1 : w17.cell? ⟨w.heap.size + 1, 1, none⟩ = some (.int .i64 p1_1) := b1.cell rfl
        have c1_2 : w17.cell? ⟨w.heap.size + 1, 2, none⟩ = some (.int .i64 p1_2) := b1.cell rfl
        have c1_3 : w17.cell? ⟨w.heap.size + 1, 3, none⟩ = some (.int .i64 p1_3) := b1.cell rfl
        have l2 := b2.lt
        have c2_0 : w17.cell? ⟨gv2_, 0, none⟩ = some (.int .i64 rc1) := b2.cell rfl
        have c2_1 : w17.cell? ⟨gv2_, 1, none⟩ = some (.slice A2_ r1.length c2_) := b2.cell rfl
        have l3 := b3.lt
        have c3_0 : w17.cell? ⟨w7.heap.size, 0, none⟩ = some (.int .i64 C0) := b3.cell rfl
        have c3_1 : w17.cell? ⟨w7.heap.size, 1, none⟩ = some (.slice A3_ ts0.length c3_) := b3.cell rfl
        have l4 := b4.lt
        have c4_0 : w17.cell? ⟨gv4_, 0, none⟩ = some (.int .i64 rc1) := b4.cell rfl
        have c4_1 : w17.cell? ⟨gv4_, 1, none⟩ = some (.slice A4_ r1.length c4_) := b4.cell rfl
        go_wp2_with fail
        clear l0 c0_0 c0_1 l1 c1_0 c1_1 c1_2 c1_3 l2 c2_0 c2_1 l3 c3_0 c3_1 l4 c4_0 c4_1
        refine (heldSet_m loO4_ hiO4_ rc1 (.slice A4_ r1.length c4_) r1.length m_O4 (1) w17 Hm_O4.out O4.out (by omega) (by omega) (by omega)).mono ?_
        rintro e w18 ⟨rfl, hB⟩
        replace b0 := b0.below hB b0.lt
        replace b1 := b1.below hB b1.lt
        replace b2 := b2.below hB b2.lt
        replace b3 := b3.below hB b3.lt
        replace b4 := b4.below hB b4.lt
        replace O1 := Lib.hid (O1.out.to hB)
        replace O2 := Lib.hid (O2.out.to hB)
        replace O3 := Lib.hid (O3.out.to hB)
        replace O4 := Lib.hid (O4.out.to hB)
        replace O5 := Lib.hid (O5.out.to hB)
        have sw18 : w17.heap.size ≤ w18.heap.size := hB.size
        replace hE := Lib.hid (below_to hE.out hB)
        clear hB
        have l0 := b0.lt
        have c0_0 : w18.cell? ⟨w.heap.size, 0, none⟩ = some (.int .i64 C0) := b0.cell rfl
        have c0_1 : w18.cell? ⟨w.heap.size, 1, none⟩ = some (.slice A0 ts0.length c0) := b0.cell rfl
        have l1 := b1.lt
        have c1_0 : w18.cell? ⟨w.heap.size + 1, 0, none⟩ = some (.int .i64 p1_0) := b1.cell rfl
        have c1_1 : w18.cell? ⟨w.heap.size + 1, 1, none⟩ = some (.int .i64 p1_1) := b1.cell rfl
        have c1_2 : w18.cell? ⟨w.heap.size + 1, 2, none⟩ = some (.int .i64 p1_2) := b1.cell rfl
        have c1_3 : w18.cell? ⟨w.heap.size + 1, 3, none⟩ = some (.int .i64 p1_3) := b1.cell rfl
        have l2 := b2.lt
        have c2_0 : w18.cell? ⟨gv2_, 0, none⟩ = some (.int .i64 rc1) := b2.cell rfl
        have c2_1 : w18.cell? ⟨gv2_, 1, none⟩ = some (.slice A2_ r1.length c2_) := b2.cell rfl
        have l3 := b3.lt
        have c3_0 : w18.cell? ⟨w7.heap.size, 0, none⟩ = some (.int .i64 C0) := b3.cell rfl
        have c3_1 : w18.cell? ⟨w7.heap.size, 1, none⟩ = some (.slice A3_ ts0.length c3_) := b3.cell rfl
        have l4 := b4.lt
        have c4_0 : w18.cell? ⟨gv4_, 0, none⟩ = some (.int .i64 rc1) := b4.cell rfl
        have c4_1 : w18.cell? ⟨gv4_, 1, none⟩ = some (.slice A4_ r1.length c4_) := b4.cell rfl
        go_wp2_with fail
        clear l0 c0_0 c0_1 l1 c1_0 c1_1 c1_2 c1_3 l2 c2_0 c2_1 l3 c3_0 c3_1 l4 c4_0 c4_1
        have hD : Below w18.heap.size w18 w18.drew := (Below.refl _ _).drew
        replace b0 := b0.below hD b0.lt
        replace b1 := b1.below hD b1.lt
        replace b2 := b2.below hD b2.lt
        replace b3 := b3.below hD b3.lt
        replace b4 := b4.below hD b4.lt
        replace O1 := Lib.hid (O1.out.to hD)
        replace O2 := Lib.hid (O2.out.to hD)
        replace O3 := Lib.hid (O3.out.to hD)
        replace O4 := Lib.hid (O4.out.to hD)
        replace O5 := Lib.hid (O5.out.to hD)
        replace hE := Lib.hid (below_to hE.out hD)
        clear hD
        have d1_w18 : w18.heap.size ≤ w18.drew.heap.size := Nat.le_refl _
        have d2_w18 : w18.drew.heap.size ≤ w18.heap.size := Nat.le_refl _
        refine region_join (R := fun a0_ a_ w_ => ∃ gv5_ : Nat, ∃ A6_ : Option Addr, ∃ c6_ : Nat, ∃ loO6_ : Nat, ∃ hiO6_ : Nat, ∃ A7_ : Option Addr, ∃ c7_ : Nat, ∃ loO7_ : Nat, ∃ hiO7_ : Nat, a_ = ((((((((((a0_.put (some 80) (.agg #[.int .i64 C0, .slice A0 ts0.length c0])).put (some 81) (.agg #[.int .i64 C0, .slice A6_ ts0.length c6_])).put (some 82) (.agg #[.int .i64 p1_0, .int .i64 p1_1, .int .i64 p1_2, .int .i64 p1_3])).put (some 83) (.agg #[.int .i64 p1_0, .int .i64 p1_1, .int .i64 p1_2, .int .i64 p1_3])).put (some 84) (.tuple #[.agg #[.int .i64 rc1, .slice A7_ r1.length c7_], .int .i64 r2])).put (some 79) (.tuple #[.agg #[.int .i64 rc1, .slice A7_ r1.length c7_], .int .i64 r2])).put (some 85) (.agg #[.int .i64 rc1, .slice A7_ r1.length c7_])).put (some 86) (.int .i64 r2)).put (some 14) (.pointer (some ⟨gv5_, 0, none⟩))).put (some 15) (.int .i64 r2)) ∧ Below w18.drew.heap.size w18.drew w_ ∧ OW w_ loO6_ hiO6_ 45 4 (.slice A6_ ts0.length c6_) ts0.length (tcells ts0) ∧ OW w_ loO7_ hiO7_ 45 4 (.slice A7_ r1.length c7_) r1.length (tcells r1) ∧ BK w_ gv5_ #[.int .i64 rc1, .slice A7_ r1.length c7_] 26 ∧ w18.drew.heap.size ≤ loO6_ ∧ loO6_ ≤ hiO6_ ∧ (gv5_ < loO6_ ∨ hiO6_ ≤ gv5_) ∧ hiO6_ ≤ loO7_ ∧ loO7_ ≤ hiO7_ ∧ (gv5_ < loO7_ ∨ hiO7_ ≤ gv5_) ∧ w18.drew.heap.size ≤ gv5_) ?_ ?_
        · have hS := Lib.hid (Below.refl w18.drew.heap.size w18.drew)
          have g0_ := b0.lt
          have g1_ := b1.lt
          have g2_ := b2.lt
          have g3_ := b3.lt
          have g4_ := b4.lt
          go_region_held3 (fun w_ => w_.cell? ⟨w.heap.size, 0, none⟩ = some (.int .i64 C0) ∧ w_.cell? ⟨w.heap.size, 1, none⟩ = some (.slice A0 ts0.length c0) ∧ w_.cell? ⟨w.heap.size + 1, 0, none⟩ = some (.int .i64 p1_0) ∧ w_.cell? ⟨w.heap.size + 1, 1, none⟩ = some (.int .i64 p1_1) ∧ w_.cell? ⟨w.heap.size + 1, 2, none⟩ = some (.int .i64 p1_2) ∧ w_.cell? ⟨w.heap.size + 1, 3, none⟩ = some (.int .i64 p1_3) ∧ w_.cell? ⟨gv2_, 0, none⟩ = some (.int .i64 rc1) ∧ w_.cell? ⟨gv2_, 1, none⟩ = some (.slice A2_ r1.length c2_) ∧ w_.cell? ⟨w7.heap.size, 0, none⟩ = some (.int .i64 C0) ∧ w_.cell? ⟨w7.heap.size, 1, none⟩ = some (.slice A3_ ts0.length c3_) ∧ w_.cell? ⟨gv4_, 0, none⟩ = some (.int .i64 rc1) ∧ w_.cell? ⟨gv4_, 1, none⟩ = some (.slice A4_ r1.length c4_)) (first | exact ⟨b0.cell rfl, b0.cell rfl, b1.cell rfl, b1.cell rfl, b1.cell rfl, b1.cell rfl, b2.cell rfl, b2.cell rfl, b3.cell rfl, b3.cell rfl, b4.cell rfl, b4.cell rfl⟩ | exact ⟨(b0.alloc _).cell rfl, (b0.alloc _).cell rfl, (b1.alloc _).cell rfl, (b1.alloc _).cell rfl, (b1.alloc _).cell rfl, (b1.alloc _).cell rfl, (b2.alloc _).cell rfl, (b2.alloc _).cell rfl, (b3.alloc _).cell rfl, (b3.alloc _).cell rfl, (b4.alloc _).cell rfl, (b4.alloc _).cell rfl⟩ | exact ⟨(b0.far2 (by omega) _ _).cell rfl, (b0.far2 (by omega) _ _).cell rfl, (b1.far2 (by omega) _ _).cell rfl, (b1.far2 (by omega) _ _).cell rfl, (b1.far2 (by omega) _ _).cell rfl, (b1.far2 (by omega) _ _).cell rfl, (b2.far2 (by omega) _ _).cell rfl, (b2.far2 (by omega) _ _).cell rfl, (b3.far2 (by omega) _ _).cell rfl, (b3.far2 (by omega) _ _).cell rfl, (b4.far2 (by omega) _ _).cell rfl, (b4.far2 (by omega) _ _).cell rfl⟩ | fail)
            (first
              | (go_at_call 24; refine at_world w18.drew ?_; refine (toSet_any C0 A0 ts0 ts0.length c0 _ rfl (HA0.out.below hE.out) (by omega)).mono ?_; rintro e w19 ⟨v_, rfl, hO, hB⟩; obtain ⟨A6_, c6_, rfl, -, -⟩ := hO.reads; have O6 := Lib.hid (OW.of hO); clear hO; replace b0 := b0.below hB b0.lt; replace b1 := b1.below hB b1.lt; replace b2 := b2.below hB b2.lt; replace b3 := b3.below hB b3.lt; replace b4 := b4.below hB b4.lt; replace O1 := Lib.hid (O1.out.to hB); replace O2 := Lib.hid (O2.out.to hB); replace O3 := Lib.hid (O3.out.to hB); replace O4 := Lib.hid (O4.out.to hB); replace O5 := Lib.hid (O5.out.to hB); have sw19 : w18.drew.heap.size ≤ w19.heap.size := hB.size; replace hE := Lib.hid (below_to hE.out hB); replace hS := Lib.hid (below_to hS.out hB); (try (replace b6 := b6.below hB b6.lt; have z0_ := b6.cell (k := 0) (v := .int .i64 0) rfl; have z1_ := b6.cell (k := 1) (v := .slice none 0 0) rfl; have y0_ := b6.frozen 0; have y1_ := b6.frozen 1; have y2_ := b6.lt)); clear hB)
              | (go_at_call 24; refine at_alloc (w := w18.drew) ?_; intro wA hA hzA b6_; have b6 : BK wA w18.heap.size _ _ := b6_; clear b6_; replace b0 := b0.below hA b0.lt; replace b1 := b1.below hA b1.lt; replace b2 := b2.below hA b2.lt; replace b3 := b3.below hA b3.lt; replace b4 := b4.below hA b4.lt; replace O1 := Lib.hid (O1.out.to hA); replace O2 := Lib.hid (O2.out.to hA); replace O3 := Lib.hid (O3.out.to hA); replace O4 := Lib.hid (O4.out.to hA); replace O5 := Lib.hid (O5.out.to hA); replace hE := Lib.hid (below_to hE.out hA); replace hS := Lib.hid (below_to hS.out hA); clear hA; refine (toSet_any C0 A0 ts0 ts0.length c0 _ rfl (HA0.out.below hE.out) (by omega)).mono ?_; rintro e w19 ⟨v_, rfl, hO, hB⟩; obtain ⟨A6_, c6_, rfl, -, -⟩ := hO.reads; have O6 := Lib.hid (OW.of hO); clear hO; replace b0 := b0.below hB b0.lt; replace b1 := b1.below hB b1.lt; replace b2 := b2.below hB b2.lt; replace b3 := b3.below hB b3.lt; replace b4 := b4.below hB b4.lt; replace O1 := Lib.hid (O1.out.to hB); replace O2 := Lib.hid (O2.out.to hB); replace O3 := Lib.hid (O3.out.to hB); replace O4 := Lib.hid (O4.out.to hB); replace O5 := Lib.hid (O5.out.to hB); have sw19 : wA.heap.size ≤ w19.heap.size := hB.size; replace hE := Lib.hid (below_to hE.out hB); replace hS := Lib.hid (below_to hS.out hB); (try (replace b6 := b6.below hB b6.lt; have z0_ := b6.cell (k := 0) (v := .int .i64 0) rfl; have z1_ := b6.cell (k := 1) (v := .slice none 0 0) rfl; have y0_ := b6.frozen 0; have y1_ := b6.frozen 1; have y2_ := b6.lt)); clear hB)
              | (go_at_call 37; refine at_world w19 ?_; refine (toTile_all p1_0 p1_1 p1_2 p1_3 _).mono ?_; rintro e w20 ⟨rfl, hB⟩; replace b0 := b0.below hB b0.lt; replace b1 := b1.below hB b1.lt; replace b2 := b2.below hB b2.lt; replace b3 := b3.below hB b3.lt; replace b4 := b4.below hB b4.lt; replace O1 := Lib.hid (O1.out.to hB); replace O2 := Lib.hid (O2.out.to hB); replace O3 := Lib.hid (O3.out.to hB); replace O4 := Lib.hid (O4.out.to hB); replace O5 := Lib.hid (O5.out.to hB); replace O6 := Lib.hid (O6.out.to hB); have sw20 : w19.heap.size ≤ w20.heap.size := hB.size; replace hE := Lib.hid (below_to hE.out hB); replace hS := Lib.hid (below_to hS.out hB); (try (replace b6 := b6.below hB b6.lt; have z0_ := b6.cell (k := 0) (v := .int .i64 0) rfl; have z1_ := b6.cell (k := 1) (v := .slice none 0 0) rfl; have y0_ := b6.frozen 0; have y1_ := b6.frozen 1; have y2_ := b6.lt)); clear hB)
              | (go_at_call 37; refine at_alloc (w := w19) ?_; intro wA hA hzA b6_; have b6 : BK wA w19.heap.size _ _ := b6_; clear b6_; replace b0 := b0.below hA b0.lt; replace b1 := b1.below hA b1.lt; replace b2 := b2.below hA b2.lt; replace b3 := b3.below hA b3.lt; replace b4 := b4.below hA b4.lt; replace O1 := Lib.hid (O1.out.to hA); replace O2 := Lib.hid (O2.out.to hA); replace O3 := Lib.hid (O3.out.to hA); replace O4 := Lib.hid (O4.out.to hA); replace O5 := Lib.hid (O5.out.to hA); replace O6 := Lib.hid (O6.out.to hA); replace hE := Lib.hid (below_to hE.out hA); replace hS := Lib.hid (below_to hS.out hA); clear hA; refine (toTile_all p1_0 p1_1 p1_2 p1_3 _).mono ?_; rintro e w20 ⟨rfl, hB⟩; replace b0 := b0.below hB b0.lt; replace b1 := b1.below hB b1.lt; replace b2 := b2.below hB b2.lt; replace b3 := b3.below hB b3.lt; replace b4 := b4.below hB b4.lt; replace O1 := Lib.hid (O1.out.to hB); replace O2 := Lib.hid (O2.out.to hB); replace O3 := Lib.hid (O3.out.to hB); replace O4 := Lib.hid (O4.out.to hB); replace O5 := Lib.hid (O5.out.to hB); replace O6 := Lib.hid (O6.out.to hB); have sw20 : wA.heap.size ≤ w20.heap.size := hB.size; replace hE := Lib.hid (below_to hE.out hB); replace hS := Lib.hid (below_to hS.out hB); (try (replace b6 := b6.below hB b6.lt; have z0_ := b6.cell (k := 0) (v := .int .i64 0) rfl; have z1_ := b6.cell (k := 1) (v := .slice none 0 0) rfl; have y0_ := b6.frozen 0; have y1_ := b6.frozen 1; have y2_ := b6.lt)); clear hB)
              | (go_at_call 38; refine at_world w20 ?_; refine (implPutTile_any C0 A6_ ts0 ts0.length c6_ p1_0 p1_1 p1_2 p1_3 _ rfl (rt_of O6.out rfl) (le_of O6.out) (by omega) ).mono ?_; rintro e w21 ⟨v0_, xc0_, x0_, x1_, hR_, rfl, hO0, hB⟩; obtain ⟨rfl, rfl, rfl⟩ : rc1 = xc0_ ∧ r1 = x0_ ∧ r2 = x1_ := (by have h_ := HR.out.symm.trans hR_; simpa [and_assoc] using h_); clear hR_; obtain ⟨A7_, c7_, rfl, -⟩ := hO0.form; have O7 := Lib.hid hO0; clear hO0; replace b0 := b0.below hB b0.lt; replace b1 := b1.below hB b1.lt; replace b2 := b2.below hB b2.lt; replace b3 := b3.below hB b3.lt; replace b4 := b4.below hB b4.lt; replace O1 := Lib.hid (O1.out.to hB); replace O2 := Lib.hid (O2.out.to hB); replace O3 := Lib.hid (O3.out.to hB); replace O4 := Lib.hid (O4.out.to hB); replace O5 := Lib.hid (O5.out.to hB); replace O6 := Lib.hid (O6.out.to hB); have sw21 : w20.heap.size ≤ w21.heap.size := hB.size; replace hE := Lib.hid (below_to hE.out hB); replace hS := Lib.hid (below_to hS.out hB); (try (replace b6 := b6.below hB b6.lt; have z0_ := b6.cell (k := 0) (v := .int .i64 0) rfl; have z1_ := b6.cell (k := 1) (v := .slice none 0 0) rfl; have y0_ := b6.frozen 0; have y1_ := b6.frozen 1; have y2_ := b6.lt)); clear hB)
              | (go_at_call 38; refine at_alloc (w := w20) ?_; intro wA hA hzA b6_; have b6 : BK wA w20.heap.size _ _ := b6_; clear b6_; replace b0 := b0.below hA b0.lt; replace b1 := b1.below hA b1.lt; replace b2 := b2.below hA b2.lt; replace b3 := b3.below hA b3.lt; replace b4 := b4.below hA b4.lt; replace O1 := Lib.hid (O1.out.to hA); replace O2 := Lib.hid (O2.out.to hA); replace O3 := Lib.hid (O3.out.to hA); replace O4 := Lib.hid (O4.out.to hA); replace O5 := Lib.hid (O5.out.to hA); replace O6 := Lib.hid (O6.out.to hA); replace hE := Lib.hid (below_to hE.out hA); replace hS := Lib.hid (below_to hS.out hA); clear hA; refine (implPutTile_any C0 A6_ ts0 ts0.length c6_ p1_0 p1_1 p1_2 p1_3 _ rfl (rt_of O6.out rfl) (le_of O6.out) (by omega) ).mono ?_; rintro e w21 ⟨v0_, xc0_, x0_, x1_, hR_, rfl, hO0, hB⟩; obtain ⟨rfl, rfl, rfl⟩ : rc1 = xc0_ ∧ r1 = x0_ ∧ r2 = x1_ := (by have h_ := HR.out.symm.trans hR_; simpa [and_assoc] using h_); clear hR_; obtain ⟨A7_, c7_, rfl, -⟩ := hO0.form; have O7 := Lib.hid hO0; clear hO0; replace b0 := b0.below hB b0.lt; replace b1 := b1.below hB b1.lt; replace b2 := b2.below hB b2.lt; replace b3 := b3.below hB b3.lt; replace b4 := b4.below hB b4.lt; replace O1 := Lib.hid (O1.out.to hB); replace O2 := Lib.hid (O2.out.to hB); replace O3 := Lib.hid (O3.out.to hB); replace O4 := Lib.hid (O4.out.to hB); replace O5 := Lib.hid (O5.out.to hB); replace O6 := Lib.hid (O6.out.to hB); have sw21 : wA.heap.size ≤ w21.heap.size := hB.size; replace hE := Lib.hid (below_to hE.out hB); replace hS := Lib.hid (below_to hS.out hB); (try (replace b6 := b6.below hB b6.lt; have z0_ := b6.cell (k := 0) (v := .int .i64 0) rfl; have z1_ := b6.cell (k := 1) (v := .slice none 0 0) rfl; have y0_ := b6.frozen 0; have y1_ := b6.frozen 1; have y2_ := b6.lt)); clear hB))
          all_goals first
            | (refine ⟨_, A6_, c6_, _, _, A7_, c7_, _, _, ?_, leaf_store hS.out ?_ _ _, O6.out.store ?_ _ _, O7.out.store ?_ _ _, b6.store2 _ _, ?_, ?_, ?_, ?_, ?_, ?_, ?_⟩ <;> first | omega | (simp only [Act.put, List.setIfInBounds_toArray, List.set_cons_zero, List.set_cons_succ]))
            | (refine ⟨_, A6_, c6_, _, _, A7_, c7_, _, _, ?_, below_al hS.out _, O6.out.to (new_below _ _), O7.out.to (new_below _ _), BK.new _ _ _, ?_, ?_, ?_, ?_, ?_, ?_, ?_⟩ <;> first | omega | (simp only [Act.put, List.setIfInBounds_toArray, List.set_cons_zero, List.set_cons_succ]))
        · intro a_ w22 hR_
          obtain ⟨gv5_, A6_, c6_, loO6_, hiO6_, A7_, c7_, loO7_, hiO7_, rfl, hB, hOO6, hOO7, b5, qw22_0, qw22_1, qw22_2, qw22_3, qw22_4, qw22_5, qw22_6⟩ := hR_
          simp only [Act.put, List.setIfInBounds_toArray, List.set_cons_zero, List.set_cons_succ]
          have O6 := Lib.hid hOO6; have topO6 := hOO6.top; clear hOO6
          have O7 := Lib.hid hOO7; have topO7 := hOO7.top; clear hOO7
          replace b0 := b0.below hB b0.lt
          replace b1 := b1.below hB b1.lt
          replace b2 := b2.below hB b2.lt
          replace b3 := b3.below hB b3.lt
          replace b4 := b4.below hB b4.lt
          replace O1 := Lib.hid (O1.out.to hB)
          replace O2 := Lib.hid (O2.out.to hB)
          replace O3 := Lib.hid (O3.out.to hB)
          replace O4 := Lib.hid (O4.out.to hB)
          replace O5 := Lib.hid (O5.out.to hB)
          have sw22 : w18.drew.heap.size ≤ w22.heap.size := hB.size
          replace hE := Lib.hid (below_to hE.out hB)
          have kw22 := b5.lt
          clear hB
          have l0 := b0.lt
          have c0_0 : w22.cell? ⟨w.heap.size, 0, none⟩ = some (.int .i64 C0) := b0.cell rfl
          have c0_1 : w22.cell? ⟨w.heap.size, 1, none⟩ = some (.slice A0 ts0.length c0) := b0.cell rfl
          have l1 := b1.lt
          have c1_0 : w22.cell? ⟨w.heap.size + 1, 0, none⟩ = some (.int .i64 p1_0) := b1.cell rfl
          have c1_1 : w22.cell? ⟨w.heap.size + 1, 1, none⟩ = some (.int .i64 p1_1) := b1.cell rfl
          have c1_2 : w22.cell? ⟨w.heap.size + 1, 2, none⟩ = some (.int .i64 p1_2) := b1.cell rfl
          have c1_3 : w22.cell? ⟨w.heap.size + 1, 3, none⟩ = some (.int .i64 p1_3) := b1.cell rfl
          have l2 := b2.lt
          have c2_0 : w22.cell? ⟨gv2_, 0, none⟩ = some (.int .i64 rc1) := b2.cell rfl
          have c2_1 : w22.cell? ⟨gv2_, 1, none⟩ = some (.slice A2_ r1.length c2_) := b2.cell rfl
          have l3 := b3.lt
          have c3_0 : w22.cell? ⟨w7.heap.size, 0, none⟩ = some (.int .i64 C0) := b3.cell rfl
          have c3_1 : w22.cell? ⟨w7.heap.size, 1, none⟩ = some (.slice A3_ ts0.length c3_) := b3.cell rfl
          have l4 := b4.lt
          have c4_0 : w22.cell? ⟨gv4_, 0, none⟩ = some (.int .i64 rc1) := b4.cell rfl
          have c4_1 : w22.cell? ⟨gv4_, 1, none⟩ = some (.slice A4_ r1.length c4_) := b4.cell rfl
          have l5 := b5.lt
          have c5_0 : w22.cell? ⟨gv5_, 0, none⟩ = some (.int .i64 rc1) := b5.cell rfl
          have c5_1 : w22.cell? ⟨gv5_, 1, none⟩ = some (.slice A7_ r1.length c7_) := b5.cell rfl
          go_wp2_with fail
          clear l0 c0_0 c0_1 l1 c1_0 c1_1 c1_2 c1_3 l2 c2_0 c2_1 l3 c3_0 c3_1 l4 c4_0 c4_1 l5 c5_0 c5_1
          refine (eqSet_any rc1 rc1 A7_ A2_ r1 r1 r1.length r1.length c7_ c2_ w22 rfl rfl (rt_of O7.out rfl) (rt_of O2.out rfl) (by omega) (by omega)).mono ?_
          rintro e w23 ⟨rfl, hB⟩
          simp only [decide_true, Bool.and_self]
          replace b0 := b0.below hB b0.lt
          replace b1 := b1.below hB b1.lt
          replace b2 := b2.below hB b2.lt
          replace b3 := b3.below hB b3.lt
          replace b4 := b4.below hB b4.lt
          replace b5 := b5.below hB b5.lt
          replace O1 := Lib.hid (O1.out.to hB)
          replace O2 := Lib.hid (O2.out.to hB)
          replace O3 := Lib.hid (O3.out.to hB)
          replace O4 := Lib.hid (O4.out.to hB)
          replace O5 := Lib.hid (O5.out.to hB)
          replace O6 := Lib.hid (O6.out.to hB)
          replace O7 := Lib.hid (O7.out.to hB)
          have sw23 : w22.heap.size ≤ w23.heap.size := hB.size
          replace hE := Lib.hid (below_to hE.out hB)
          clear hB
          have l0 := b0.lt
          have c0_0 : w23.cell? ⟨w.heap.size, 0, none⟩ = some (.int .i64 C0) := b0.cell rfl
          have c0_1 : w23.cell? ⟨w.heap.size, 1, none⟩ = some (.slice A0 ts0.length c0) := b0.cell rfl
          have l1 := b1.lt
          have c1_0 : w23.cell? ⟨w.heap.size + 1, 0, none⟩ = some (.int .i64 p1_0) := b1.cell rfl
          have c1_1 : w23.cell? ⟨w.heap.size + 1, 1, none⟩ = some (.int .i64 p1_1) := b1.cell rfl
          have c1_2 : w23.cell? ⟨w.heap.size + 1, 2, none⟩ = some (.int .i64 p1_2) := b1.cell rfl
          have c1_3 : w23.cell? ⟨w.heap.size + 1, 3, none⟩ = some (.int .i64 p1_3) := b1.cell rfl
          have l2 := b2.lt
          have c2_0 : w23.cell? ⟨gv2_, 0, none⟩ = some (.int .i64 rc1) := b2.cell rfl
          have c2_1 : w23.cell? ⟨gv2_, 1, none⟩ = some (.slice A2_ r1.length c2_) := b2.cell rfl
          have l3 := b3.lt
          have c3_0 : w23.cell? ⟨w7.heap.size, 0, none⟩ = some (.int .i64 C0) := b3.cell rfl
          have c3_1 : w23.cell? ⟨w7.heap.size, 1, none⟩ = some (.slice A3_ ts0.length c3_) := b3.cell rfl
          have l4 := b4.lt
          have c4_0 : w23.cell? ⟨gv4_, 0, none⟩ = some (.int .i64 rc1) := b4.cell rfl
          have c4_1 : w23.cell? ⟨gv4_, 1, none⟩ = some (.slice A4_ r1.length c4_) := b4.cell rfl
          have l5 := b5.lt
          have c5_0 : w23.cell? ⟨gv5_, 0, none⟩ = some (.int .i64 rc1) := b5.cell rfl
          have c5_1 : w23.cell? ⟨gv5_, 1, none⟩ = some (.slice A7_ r1.length c7_) := b5.cell rfl
          go_wp2_with fail
          clear l0 c0_0 c0_1 l1 c1_0 c1_1 c1_2 c1_3 l2 c2_0 c2_1 l3 c3_0 c3_1 l4 c4_0 c4_1 l5 c5_0 c5_1
          refine (heldSet_m loO4_ hiO4_ rc1 (.slice A4_ r1.length c4_) r1.length m_O4 (1) w23 Hm_O4.out O4.out (by omega) (by omega) (by omega)).mono ?_
          rintro e w24 ⟨rfl, hB⟩
          replace b0 := b0.below hB b0.lt
          replace b1 := b1.below hB b1.lt
          replace b2 := b2.below hB b2.lt
          replace b3 := b3.below hB b3.lt
          replace b4 := b4.below hB b4.lt
          replace b5 := b5.below hB b5.lt
          replace O1 := Lib.hid (O1.out.to hB)
          replace O2 := Lib.hid (O2.out.to hB)
          replace O3 := Lib.hid (O3.out.to hB)
          replace O4 := Lib.hid (O4.out.to hB)
          replace O5 := Lib.hid (O5.out.to hB)
          replace O6 := Lib.hid (O6.out.to hB)
          replace O7 := Lib.hid (O7.out.to hB)
          have sw24 : w23.heap.size ≤ w24.heap.size := hB.size
          replace hE := Lib.hid (below_to hE.out hB)
          clear hB
          go_wp2_with fail
          go_ret
          exact ⟨rfl, hE.out⟩
end Go.Proofs.Ytnjmgmdpkogocaa

/-
  Parts of the proof, in their order: QSpecPutTile.
-/
import Derived.Test.YtnjmgmdpkogocaaPk17
import Derived.Test.YtnjmgmdpkogocaaPk18
import Derived.Test.YtnjmgmdpkogocaaPk20
-- Printed by a program of this session (the kit's print, turned: printpatch.py) out of Lean's print of the translation. Lean checks it.
namespace Go.Proofs.Ytnjmgmdpkogocaa.Q
open Go.RowKit Go.Proofs.YtnjmgmdpkogocaaW.PrintWords Go.Proofs.YtnjmgmdpkogocaaW.PrintLast Go.Proofs.YtnjmgmdpkogocaaW.PrintMore
attribute [local go_sem] max2_int min2_int max_two min_two max_three min_three max_four min_four   -- for this text's walks alone
set_option linter.unusedVariables false
set_option linter.unusedSimpArgs false

/-! ### spec_PutTile: function 36 -/
def spec_PutTile.f (a0_0 : Int) (l0_1 : List (S45)) (a1_0 : Int) (a1_1 : Int) (a1_2 : Int) (a1_3 : Int) : Option (Int × (List (S45)) × Int) := (spec_l01Is.f a0_0 l0_1).bind fun t408 => (if t408 = true then ((spec_l01Tile.f a0_0 a1_0 a1_1 a1_2 a1_3).bind fun t409 => (if t409 = true then ((spec_l01Has.f a0_0 l0_1 a1_0 a1_1 a1_2 a1_3).bind fun t410 => (if t410 = true then (some (0, ([] : List (S45)), 5)) else ((some (([] : List (S45)) : List (S45))).bind fun y411 => (if y411.length + l0_1.length < 4398046511104 then ((some (y411 ++ l0_1 : List (S45))).bind fun y414 => ((some (([(⟨a1_0, a1_1, a1_2, a1_3⟩ : S45)] : List (S45)) : List (S45))).bind fun y417 => (if y414.length + y417.length < 4398046511104 then ((spec_l01Made.f a0_0 (y414 ++ y417)).bind fun bt423 => ((spec_l01Told.f bt423.1 bt423.2).bind fun bt427 => (some (bt427.1, bt427.2.1, bt427.2.2)))) else (none)))) else (none))))) else (some (0, ([] : List (S45)), 2)))) else (some (0, ([] : List (S45)), 1)))
def spec_PutTile.T7 : Bool × List (List Nat × List Nat) := (true, [([], []), ([0], [0]), ([], []), ([], []), ([3], [3]), ([2, 4], [2, 4]), ([], []), ([6], [6]), ([5, 7, 5], [5, 7]), ([1, 8, 8], [1, 8]), ([9, 9], [9]), ([10], [10]), ([11], [11]), ([11], [11]), ([], []), ([14, 12, 10, 0, 1, 2, 3, 4, 5, 6, 7, 8, 9, 10, 11, 12, 14], [12, 14]), ([13, 15, 0, 1, 2, 3, 4, 5, 6, 7, 8, 9, 10, 11, 12, 13, 14, 15], [13])])
def spec_PutTile.B7 : List Nat := [0, 1, 0, 0, 8, 28, 0, 64, 252, 511, 1023, 2047, 4095, 4095, 0, 24575, 65535]
theorem spec_PutTile.tab7 : rtab .any (opsOf Try.f36 7) = spec_PutTile.T7 := by kernel_rfl
theorem spec_PutTile.bits7 : waitsOk spec_PutTile.T7.2 spec_PutTile.B7 = true := by kernel_rfl
set_option maxHeartbeats 8000000 in
set_option maxRecDepth 100000 in
theorem spec_PutTile.calls (a0_0 : Int) (A0_1 : Option Addr) (c0_1 : Nat) (l0_1 : List (S45)) (a1_0 : Int) (a1_1 : Int) (a1_2 : Int) (a1_3 : Int) (r1 : Int) (r2 : List (S45)) (r3 : Int) (w : World) (hr0_1 : Kd.C k45 w A0_1 l0_1.length l0_1) (hc0_1 : l0_1.length ≤ c0_1) (h : spec_PutTile.f a0_0 l0_1 a1_0 a1_1 a1_2 a1_3 = some (r1, r2, r3)) :
  Calls Try.prog 36 #[.agg #[.int .i64 a0_0, .slice A0_1 l0_1.length c0_1], .agg #[.int .i64 a1_0, .int .i64 a1_1, .int .i64 a1_2, .int .i64 a1_3]] w fun e w' => ∃ v1_ : Value, e = .returned (.tuple #[.agg #[.int .i64 r1, v1_], .int .i64 r3]) ∧ Kd.R k45 45 w' w.heap.size (fun _ => True) v1_ r2 ∧ Below w.heap.size w w' := by
 have hu26 := Try.underlying26
 have hu45 := Try.underlying45
 have HR0_1 := Aside0.mk hr0_1
 have HC0_1 := Aside0.mk hc0_1
 clear hr0_1 hc0_1
 have HB := Aside0.mk (Below.refl w.heap.size w)
 have H : ((spec_l01Is.f a0_0 l0_1).bind fun t408 => (if t408 = true then ((spec_l01Tile.f a0_0 a1_0 a1_1 a1_2 a1_3).bind fun t409 => (if t409 = true then ((spec_l01Has.f a0_0 l0_1 a1_0 a1_1 a1_2 a1_3).bind fun t410 => (if t410 = true then (some (0, ([] : List (S45)), 5)) else ((some (([] : List (S45)) : List (S45))).bind fun y411 => (if y411.length + l0_1.length < 4398046511104 then ((some (y411 ++ l0_1 : List (S45))).bind fun y414 => ((some (([(⟨a1_0, a1_1, a1_2, a1_3⟩ : S45)] : List (S45)) : List (S45))).bind fun y417 => (if y414.length + y417.length < 4398046511104 then ((spec_l01Made.f a0_0 (y414 ++ y417)).bind fun bt423 => ((spec_l01Told.f bt423.1 bt423.2).bind fun bt427 => (some (bt427.1, bt427.2.1, bt427.2.2)))) else (none)))) else (none))))) else (some (0, ([] : List (S45)), 2)))) else (some (0, ([] : List (S45)), 1)))) = some (r1, r2, r3) := h
 clear h
 replace H := Option.bind_eq_some_iff.mp H
 obtain ⟨t408, A30, H⟩ := H
 replace H : (if t408 = true then ((spec_l01Tile.f a0_0 a1_0 a1_1 a1_2 a1_3).bind fun t409 => (if t409 = true then ((spec_l01Has.f a0_0 l0_1 a1_0 a1_1 a1_2 a1_3).bind fun t410 => (if t410 = true then (some (0, ([] : List (S45)), 5)) else ((some (([] : List (S45)) : List (S45))).bind fun y411 => (if y411.length + l0_1.length < 4398046511104 then ((some (y411 ++ l0_1 : List (S45))).bind fun y414 => ((some (([(⟨a1_0, a1_1, a1_2, a1_3⟩ : S45)] : List (S45)) : List (S45))).bind fun y417 => (if y414.length + y417.length < 4398046511104 then ((spec_l01Made.f a0_0 (y414 ++ y417)).bind fun bt423 => ((spec_l01Told.f bt423.1 bt423.2).bind fun bt427 => (some (bt427.1, bt427.2.1, bt427.2.2)))) else (none)))) else (none))))) else (some (0, ([] : List (S45)), 2)))) else (some (0, ([] : List (S45)), 1))) = some (r1, r2, r3) := H
 have A3 := Aside0.mk A30
 clear A30
 by_cases c4 : t408 = true
 ·subst c4
  have H1 : ((spec_l01Tile.f a0_0 a1_0 a1_1 a1_2 a1_3).bind fun t409 => (if t409 = true then ((spec_l01Has.f a0_0 l0_1 a1_0 a1_1 a1_2 a1_3).bind fun t410 => (if t410 = true then (some (0, ([] : List (S45)), 5)) else ((some (([] : List (S45)) : List (S45))).bind fun y411 => (if y411.length + l0_1.length < 4398046511104 then ((some (y411 ++ l0_1 : List (S45))).bind fun y414 => ((some (([(⟨a1_0, a1_1, a1_2, a1_3⟩ : S45)] : List (S45)) : List (S45))).bind fun y417 => (if y414.length + y417.length < 4398046511104 then ((spec_l01Made.f a0_0 (y414 ++ y417)).bind fun bt423 => ((spec_l01Told.f bt423.1 bt423.2).bind fun bt427 => (some (bt427.1, bt427.2.1, bt427.2.2)))) else (none)))) else (none))))) else (some (0, ([] : List (S45)), 2)))) = some (r1, r2, r3) := by rw [if_pos rfl] at H; exact H
  clear H
  have H := H1
  clear H1
  replace H := Option.bind_eq_some_iff.mp H
  obtain ⟨t409, A50, H⟩ := H
  replace H : (if t409 = true then ((spec_l01Has.f a0_0 l0_1 a1_0 a1_1 a1_2 a1_3).bind fun t410 => (if t410 = true then (some (0, ([] : List (S45)), 5)) else ((some (([] : List (S45)) : List (S45))).bind fun y411 => (if y411.length + l0_1.length < 4398046511104 then ((some (y411 ++ l0_1 : List (S45))).bind fun y414 => ((some (([(⟨a1_0, a1_1, a1_2, a1_3⟩ : S45)] : List (S45)) : List (S45))).bind fun y417 => (if y414.length + y417.length < 4398046511104 then ((spec_l01Made.f a0_0 (y414 ++ y417)).bind fun bt423 => ((spec_l01Told.f bt423.1 bt423.2).bind fun bt427 => (some (bt427.1, bt427.2.1, bt427.2.2)))) else (none)))) else (none))))) else (some (0, ([] : List (S45)), 2))) = some (r1, r2, r3) := H
  have A5 := Aside0.mk A50
  clear A50
  by_cases c6 : t409 = true
  ·subst c6
   have H1 : ((spec_l01Has.f a0_0 l0_1 a1_0 a1_1 a1_2 a1_3).bind fun t410 => (if t410 = true then (some (0, ([] : List (S45)), 5)) else ((some (([] : List (S45)) : List (S45))).bind fun y411 => (if y411.length + l0_1.length < 4398046511104 then ((some (y411 ++ l0_1 : List (S45))).bind fun y414 => ((some (([(⟨a1_0, a1_1, a1_2, a1_3⟩ : S45)] : List (S45)) : List (S45))).bind fun y417 => (if y414.length + y417.length < 4398046511104 then ((spec_l01Made.f a0_0 (y414 ++ y417)).bind fun bt423 => ((spec_l01Told.f bt423.1 bt423.2).bind fun bt427 => (some (bt427.1, bt427.2.1, bt427.2.2)))) else (none)))) else (none))))) = some (r1, r2, r3) := by rw [if_pos rfl] at H; exact H
   clear H
   have H := H1
   clear H1
   replace H := Option.bind_eq_some_iff.mp H
   obtain ⟨t410, A70, H⟩ := H
   replace H : (if t410 = true then (some (0, ([] : List (S45)), 5)) else ((some (([] : List (S45)) : List (S45))).bind fun y411 => (if y411.length + l0_1.length < 4398046511104 then ((some (y411 ++ l0_1 : List (S45))).bind fun y414 => ((some (([(⟨a1_0, a1_1, a1_2, a1_3⟩ : S45)] : List (S45)) : List (S45))).bind fun y417 => (if y414.length + y417.length < 4398046511104 then ((spec_l01Made.f a0_0 (y414 ++ y417)).bind fun bt423 => ((spec_l01Told.f bt423.1 bt423.2).bind fun bt427 => (some (bt427.1, bt427.2.1, bt427.2.2)))) else (none)))) else (none)))) = some (r1, r2, r3) := H
   have A7 := Aside0.mk A70
   clear A70
   by_cases c8 : t410 = true
   ·subst c8
    have H1 : (some (0, ([] : List (S45)), 5)) = some (r1, r2, r3) := by rw [if_pos rfl] at H; exact H
    clear H
    have H := H1
    clear H1
    simp only [Option.some.injEq, Prod.mk.injEq] at H
    obtain ⟨rfl, rfl, rfl⟩ := H
    go_enter Try.func36, Try.ntmps36
    go_wp2_with (first | ((with_reducible refine gate_dst (N := 2) rfl ?_); refine box_event ?hg (N := 2) ?hd (cs := #[.int .i64 a0_0, .slice A0_1 l0_1.length c0_1]) (t := 26) ?hr ?_; (case hd => rfl); (case hg => rfl); (case hr => first | (go_simp; done) | (go_simp; rfl)); intro gb405 hg w9 hbox hb; have n0_ := Aside0.mk (below_step (by repeat (first | (with_reducible first | exact HB.out | apply lA_ | apply lN_ | apply lD_) | exact HB.out)) hb); have n1_ := Aside0.mk (hbox); have n2_ := Aside0.mk ((by rw [hg]; exact (below_size (by repeat (first | (with_reducible first | exact HB.out | apply lA_ | apply lN_ | apply lD_) | exact HB.out))) : w.heap.size ≤ gb405)); have n3_ := Aside0.mk ((by rw [hg]; exact (below_size (by repeat (first | (with_reducible first | exact HB.out | apply lA_ | apply lN_ | apply lD_) | exact HB.out))) : w.heap.size ≤ gb405)); clear HB; have HB := n0_; have BK405 := n1_; have GW405 := n2_; have GE405 := n3_; clear n0_ n1_ n2_ n3_; clear hb hbox hg) | ((with_reducible refine gate_dst (N := 3) rfl ?_); refine box_event ?hg (N := 3) ?hd (cs := #[.int .i64 a1_0, .int .i64 a1_1, .int .i64 a1_2, .int .i64 a1_3]) (t := 45) ?hr ?_; (case hd => rfl); (case hg => rfl); (case hr => first | (go_simp; done) | (go_simp; rfl)); intro gb406 hg w10 hbox hb; have n0_ := Aside0.mk (blk_below (g := gb405) (o := .cells #[.int .i64 a0_0, .slice A0_1 l0_1.length c0_1] 26 (0, 0)) (by (with_reducible repeat (first | apply bN_ | apply bD_ | apply bA_)); exact BK405.out) hb); have n1_ := Aside0.mk (below_step (by repeat (first | (with_reducible first | exact HB.out | apply lA_ | apply lN_ | apply lD_ | refine lS_ ?_ GE405.out) | exact HB.out)) hb); have n2_ := Aside0.mk (hbox); have n3_ := Aside0.mk ((by rw [hg]; exact (below_size (by repeat (first | (with_reducible first | exact HB.out | apply lA_ | apply lN_ | apply lD_ | refine lS_ ?_ GE405.out) | exact HB.out))) : w.heap.size ≤ gb406)); have n4_ := Aside0.mk ((by rw [hg]; exact (below_size (by repeat (first | (with_reducible first | exact HB.out | apply lA_ | apply lN_ | apply lD_ | refine lS_ ?_ GE405.out) | exact HB.out))) : w.heap.size ≤ gb406)); have n5_ := Aside0.mk ((by rw [hg]; exact Nat.ne_of_lt (blk_lt (g := gb405) (o := .cells #[.int .i64 a0_0, .slice A0_1 l0_1.length c0_1] 26 (0, 0)) (by (with_reducible repeat (first | apply bN_ | apply bD_ | apply bA_)); exact BK405.out)) : gb405 ≠ gb406)); have n6_ := Aside0.mk ((by rw [hg]; exact Nat.ne_of_gt (blk_lt (g := gb405) (o := .cells #[.int .i64 a0_0, .slice A0_1 l0_1.length c0_1] 26 (0, 0)) (by (with_reducible repeat (first | apply bN_ | apply bD_ | apply bA_)); exact BK405.out)) : gb406 ≠ gb405)); clear BK405; clear HB; have BK405 := n0_; have HB := n1_; have BK406 := n2_; have GW406 := n3_; have GE406 := n4_; have NB405_406 := n5_; have NB406_405 := n6_; clear n0_ n1_ n2_ n3_ n4_ n5_ n6_; clear hb hbox hg) | ((with_reducible refine gate_dst (N := 4) rfl ?_); refine box_event ?hg (N := 4) ?hd (cs := #[.int .i64 0, .slice none 0 0]) (t := 26) ?hr ?_; (case hd => rfl); (case hg => rfl); (case hr => first | (go_simp; done) | (go_simp; rfl)); intro gb407 hg w11 hbox hb; have n0_ := Aside0.mk (blk_below (g := gb405) (o := .cells #[.int .i64 a0_0, .slice A0_1 l0_1.length c0_1] 26 (0, 0)) (by (with_reducible repeat (first | apply bN_ | apply bD_ | apply bA_)); exact BK405.out) hb); have n1_ := Aside0.mk (blk_below (g := gb406) (o := .cells #[.int .i64 a1_0, .int .i64 a1_1, .int .i64 a1_2, .int .i64 a1_3] 45 (0, 0)) (by (with_reducible repeat (first | apply bN_ | apply bD_ | apply bA_)); exact BK406.out) hb); have n2_ := Aside0.mk (below_step (by repeat (first | (with_reducible first | exact HB.out | apply lA_ | apply lN_ | apply lD_ | refine lS_ ?_ GE405.out | refine lS_ ?_ GE406.out) | exact HB.out)) hb); have n3_ := Aside0.mk (hbox); have n4_ := Aside0.mk ((by rw [hg]; exact (below_size (by repeat (first | (with_reducible first | exact HB.out | apply lA_ | apply lN_ | apply lD_ | refine lS_ ?_ GE405.out | refine lS_ ?_ GE406.out) | exact HB.out))) : w.heap.size ≤ gb407)); have n5_ := Aside0.mk ((by rw [hg]; exact (below_size (by repeat (first | (with_reducible first | exact HB.out | apply lA_ | apply lN_ | apply lD_ | refine lS_ ?_ GE405.out | refine lS_ ?_ GE406.out) | exact HB.out))) : w.heap.size ≤ gb407)); have n6_ := Aside0.mk ((by rw [hg]; exact Nat.ne_of_lt (blk_lt (g := gb405) (o := .cells #[.int .i64 a0_0, .slice A0_1 l0_1.length c0_1] 26 (0, 0)) (by (with_reducible repeat (first | apply bN_ | apply bD_ | apply bA_)); exact BK405.out)) : gb405 ≠ gb407)); have n7_ := Aside0.mk ((by rw [hg]; exact Nat.ne_of_gt (blk_lt (g := gb405) (o := .cells #[.int .i64 a0_0, .slice A0_1 l0_1.length c0_1] 26 (0, 0)) (by (with_reducible repeat (first | apply bN_ | apply bD_ | apply bA_)); exact BK405.out)) : gb407 ≠ gb405)); have n8_ := Aside0.mk ((by rw [hg]; exact Nat.ne_of_lt (blk_lt (g := gb406) (o := .cells #[.int .i64 a1_0, .int .i64 a1_1, .int .i64 a1_2, .int .i64 a1_3] 45 (0, 0)) (by (with_reducible repeat (first | apply bN_ | apply bD_ | apply bA_)); exact BK406.out)) : gb406 ≠ gb407)); have n9_ := Aside0.mk ((by rw [hg]; exact Nat.ne_of_gt (blk_lt (g := gb406) (o := .cells #[.int .i64 a1_0, .int .i64 a1_1, .int .i64 a1_2, .int .i64 a1_3] 45 (0, 0)) (by (with_reducible repeat (first | apply bN_ | apply bD_ | apply bA_)); exact BK406.out)) : gb407 ≠ gb406)); clear BK405; clear BK406; clear HB; have BK405 := n0_; have BK406 := n1_; have HB := n2_; have BK407 := n3_; have GW407 := n4_; have GE407 := n5_; have NB405_407 := n6_; have NB407_405 := n7_; have NB406_407 := n8_; have NB407_406 := n9_; clear n0_ n1_ n2_ n3_ n4_ n5_ n6_ n7_ n8_ n9_; clear hb hbox hg; have hnb12 := NB405_406.out; have hnc12 := NB406_405.out; have hnb13 := NB405_407.out; have hnc13 := NB407_405.out; have hcz14_0 : w11.cell? ⟨gb405, 0, none⟩ = some (.int .i64 a0_0) := (blk_cell BK405.out 0).trans rfl; have hcz14_1 : w11.cell? ⟨gb405, 1, none⟩ = some (.slice A0_1 l0_1.length c0_1) := (blk_cell BK405.out 1).trans rfl; have hfz14_0 := blk_frozen BK405.out 0; have hfz14_1 := blk_frozen BK405.out 1) | ((with_reducible refine gate_callee (f := 60) rfl ?_); refine goesL_ (some 10) rfl rfl Try.func60 (by kernel_rfl) rfl #[.agg #[.int .i64 a0_0, .slice A0_1 l0_1.length c0_1]] rfl (by (try simp only [List.map_toArray, List.map_cons, List.map_nil]); first | done | rfl | (simp only [List.length_drop, List.length_take]; rfl)) ?_; (with_reducible refine (spec_l01Is.calls a0_0 _ _ l0_1 true _ ?side1 ?side2 A3.out).mono ?_); (case side1 => repeat (first | exact (Kd.C_below HR0_1.out HB.out) | (with_reducible refine Kd.C_alloc ?_ _) | (with_reducible refine Kd.C_drewN ?_ _) | (with_reducible refine Kd.C_drew ?_))); (case side2 => exact HC0_1.out); rintro e w15 ⟨rfl, hb⟩; refine ⟨_, rfl, ?_⟩; have n0_ := Aside0.mk (blk_below (g := gb405) (o := .cells #[.int .i64 a0_0, .slice A0_1 l0_1.length c0_1] 26 (0, 0)) (by (with_reducible repeat (first | apply bN_ | apply bD_ | apply bA_)); exact BK405.out) hb); have n1_ := Aside0.mk (blk_below (g := gb406) (o := .cells #[.int .i64 a1_0, .int .i64 a1_1, .int .i64 a1_2, .int .i64 a1_3] 45 (0, 0)) (by (with_reducible repeat (first | apply bN_ | apply bD_ | apply bA_)); exact BK406.out) hb); have n2_ := Aside0.mk (blk_below (g := gb407) (o := .cells #[.int .i64 0, .slice none 0 0] 26 (0, 0)) (by (with_reducible repeat (first | apply bN_ | apply bD_ | apply bA_)); exact BK407.out) hb); have n3_ := Aside0.mk (below_step (by repeat (first | (with_reducible first | exact HB.out | apply lA_ | apply lN_ | apply lD_ | refine lS_ ?_ GE405.out | refine lS_ ?_ GE406.out | refine lS_ ?_ GE407.out) | exact HB.out)) hb); clear BK405; clear BK406; clear BK407; clear HB; have BK405 := n0_; have BK406 := n1_; have BK407 := n2_; have HB := n3_; clear n0_ n1_ n2_ n3_; (try clear hb); (try clear hb2); (try clear hk); (try clear hi); have hcz16_0 : w15.cell? ⟨gb405, 0, none⟩ = some (.int .i64 a0_0) := (blk_cell BK405.out 0).trans rfl; have hcz16_1 : w15.cell? ⟨gb405, 1, none⟩ = some (.slice A0_1 l0_1.length c0_1) := (blk_cell BK405.out 1).trans rfl; have hfz16_0 := blk_frozen BK405.out 0; have hfz16_1 := blk_frozen BK405.out 1; have hnb17 := NB406_407.out; have hnc17 := NB407_406.out; have hcz18_0 : w15.cell? ⟨gb406, 0, none⟩ = some (.int .i64 a1_0) := (blk_cell BK406.out 0).trans rfl; have hcz18_1 : w15.cell? ⟨gb406, 1, none⟩ = some (.int .i64 a1_1) := (blk_cell BK406.out 1).trans rfl; have hcz18_2 : w15.cell? ⟨gb406, 2, none⟩ = some (.int .i64 a1_2) := (blk_cell BK406.out 2).trans rfl; have hcz18_3 : w15.cell? ⟨gb406, 3, none⟩ = some (.int .i64 a1_3) := (blk_cell BK406.out 3).trans rfl; have hfz18_0 := blk_frozen BK406.out 0; have hfz18_1 := blk_frozen BK406.out 1; have hfz18_2 := blk_frozen BK406.out 2; have hfz18_3 := blk_frozen BK406.out 3) | ((with_reducible refine gate_callee (f := 50) rfl ?_); refine goesL_ (some 17) rfl rfl Try.func50 (by kernel_rfl) rfl #[.int .i64 a0_0, .agg #[.int .i64 a1_0, .int .i64 a1_1, .int .i64 a1_2, .int .i64 a1_3]] rfl (by (try simp only [List.map_toArray, List.map_cons, List.map_nil]); first | done | rfl | (simp only [List.length_drop, List.length_take]; rfl)) ?_; (with_reducible refine (spec_l01Tile.calls a0_0 a1_0 a1_1 a1_2 a1_3 true _ A5.out).mono ?_); rintro e w19 ⟨rfl, hb⟩; refine ⟨_, rfl, ?_⟩; have n0_ := Aside0.mk (blk_below (g := gb405) (o := .cells #[.int .i64 a0_0, .slice A0_1 l0_1.length c0_1] 26 (0, 0)) (by (with_reducible repeat (first | apply bN_ | apply bD_ | apply bA_)); exact BK405.out) hb); have n1_ := Aside0.mk (blk_below (g := gb406) (o := .cells #[.int .i64 a1_0, .int .i64 a1_1, .int .i64 a1_2, .int .i64 a1_3] 45 (0, 0)) (by (with_reducible repeat (first | apply bN_ | apply bD_ | apply bA_)); exact BK406.out) hb); have n2_ := Aside0.mk (blk_below (g := gb407) (o := .cells #[.int .i64 0, .slice none 0 0] 26 (0, 0)) (by (with_reducible repeat (first | apply bN_ | apply bD_ | apply bA_)); exact BK407.out) hb); have n3_ := Aside0.mk (below_step (by repeat (first | (with_reducible first | exact HB.out | apply lA_ | apply lN_ | apply lD_ | refine lS_ ?_ GE405.out | refine lS_ ?_ GE406.out | refine lS_ ?_ GE407.out) | exact HB.out)) hb); clear BK405; clear BK406; clear BK407; clear HB; have BK405 := n0_; have BK406 := n1_; have BK407 := n2_; have HB := n3_; clear n0_ n1_ n2_ n3_; (try clear hb); (try clear hb2); (try clear hk); (try clear hi); have hcz20_0 : w19.cell? ⟨gb405, 0, none⟩ = some (.int .i64 a0_0) := (blk_cell BK405.out 0).trans rfl; have hcz20_1 : w19.cell? ⟨gb405, 1, none⟩ = some (.slice A0_1 l0_1.length c0_1) := (blk_cell BK405.out 1).trans rfl; have hfz20_0 := blk_frozen BK405.out 0; have hfz20_1 := blk_frozen BK405.out 1; have hcz21_0 : w19.cell? ⟨gb406, 0, none⟩ = some (.int .i64 a1_0) := (blk_cell BK406.out 0).trans rfl; have hcz21_1 : w19.cell? ⟨gb406, 1, none⟩ = some (.int .i64 a1_1) := (blk_cell BK406.out 1).trans rfl; have hcz21_2 : w19.cell? ⟨gb406, 2, none⟩ = some (.int .i64 a1_2) := (blk_cell BK406.out 2).trans rfl; have hcz21_3 : w19.cell? ⟨gb406, 3, none⟩ = some (.int .i64 a1_3) := (blk_cell BK406.out 3).trans rfl; have hfz21_0 := blk_frozen BK406.out 0; have hfz21_1 := blk_frozen BK406.out 1; have hfz21_2 := blk_frozen BK406.out 2; have hfz21_3 := blk_frozen BK406.out 3) | ((with_reducible refine gate_callee (f := 76) rfl ?_); refine goesL_ (some 23) rfl rfl Try.func76 (by kernel_rfl) rfl #[.agg #[.int .i64 a0_0, .slice A0_1 l0_1.length c0_1], .agg #[.int .i64 a1_0, .int .i64 a1_1, .int .i64 a1_2, .int .i64 a1_3]] rfl (by (try simp only [List.map_toArray, List.map_cons, List.map_nil]); first | done | rfl | (simp only [List.length_drop, List.length_take]; rfl)) ?_; (with_reducible refine (spec_l01Has.calls a0_0 _ _ l0_1 a1_0 a1_1 a1_2 a1_3 true _ ?side1 ?side2 A7.out).mono ?_); (case side1 => repeat (first | exact (Kd.C_below HR0_1.out HB.out) | (with_reducible refine Kd.C_alloc ?_ _) | (with_reducible refine Kd.C_drewN ?_ _) | (with_reducible refine Kd.C_drew ?_))); (case side2 => exact HC0_1.out); rintro e w22 ⟨rfl, hb⟩; refine ⟨_, rfl, ?_⟩; have n0_ := Aside0.mk (blk_below (g := gb405) (o := .cells #[.int .i64 a0_0, .slice A0_1 l0_1.length c0_1] 26 (0, 0)) (by (with_reducible repeat (first | apply bN_ | apply bD_ | apply bA_)); exact BK405.out) hb); have n1_ := Aside0.mk (blk_below (g := gb406) (o := .cells #[.int .i64 a1_0, .int .i64 a1_1, .int .i64 a1_2, .int .i64 a1_3] 45 (0, 0)) (by (with_reducible repeat (first | apply bN_ | apply bD_ | apply bA_)); exact BK406.out) hb); have n2_ := Aside0.mk (blk_below (g := gb407) (o := .cells #[.int .i64 0, .slice none 0 0] 26 (0, 0)) (by (with_reducible repeat (first | apply bN_ | apply bD_ | apply bA_)); exact BK407.out) hb); have n3_ := Aside0.mk (below_step (by repeat (first | (with_reducible first | exact HB.out | apply lA_ | apply lN_ | apply lD_ | refine lS_ ?_ GE405.out | refine lS_ ?_ GE406.out | refine lS_ ?_ GE407.out) | exact HB.out)) hb); clear BK405; clear BK406; clear BK407; clear HB; have BK405 := n0_; have BK406 := n1_; have BK407 := n2_; have HB := n3_; clear n0_ n1_ n2_ n3_; (try clear hb); (try clear hb2); (try clear hk); (try clear hi); have hcz23_0 : w22.cell? ⟨gb407, 0, none⟩ = some (.int .i64 0) := (blk_cell BK407.out 0).trans rfl; have hcz23_1 : w22.cell? ⟨gb407, 1, none⟩ = some (.slice none 0 0) := (blk_cell BK407.out 1).trans rfl; have hfz23_0 := blk_frozen BK407.out 0; have hfz23_1 := blk_frozen BK407.out 1))
    refine bodyPost_ret (results_ct rfl _ _ gb407 26 #[.int .i64 0, .slice none 0 0] (0, 0) _ rfl (by (with_reducible repeat (first | apply bN_ | apply bD_ | apply bA_)); refine blk_put (cs := #[.int .i64 0, .slice none 0 0]) ?_ 1 _ rfl; (with_reducible repeat (first | apply bN_ | apply bD_ | apply bA_)); refine blk_put (cs := #[.int .i64 0, .slice none 0 0]) ?_ 0 _ rfl; (with_reducible repeat (first | apply bN_ | apply bD_ | apply bA_)); exact BK407.out) Try.underlying26 rfl (by kernel_rfl)) rfl ?_
    exact ⟨_, by first | rfl | (simp [errW_none, errW_some] <;> rfl) | (simp [*, errW_none, errW_some] <;> rfl), by first | exact Kd.R_nil _ _ _ _ _ | exact Kd.N_nil _ _ _ _ _ | exact Kd.V_nil _ _ _ _ _ | exact Kd.Q_nil _ _ _ _ _ | exact Kd.S_nil _ _ _ _ _, by repeat (first | (with_reducible first | exact HB.out | apply lA_ | apply lN_ | apply lD_ | refine lS_ ?_ GE405.out | refine lS_ ?_ GE406.out | refine lS_ ?_ GE407.out) | exact HB.out)⟩
   ·replace c8 := Bool.eq_false_iff.mpr c8
    subst c8
    have H1 : ((some (([] : List (S45)) : List (S45))).bind fun y411 => (if y411.length + l0_1.length < 4398046511104 then ((some (y411 ++ l0_1 : List (S45))).bind fun y414 => ((some (([(⟨a1_0, a1_1, a1_2, a1_3⟩ : S45)] : List (S45)) : List (S45))).bind fun y417 => (if y414.length + y417.length < 4398046511104 then ((spec_l01Made.f a0_0 (y414 ++ y417)).bind fun bt423 => ((spec_l01Told.f bt423.1 bt423.2).bind fun bt427 => (some (bt427.1, bt427.2.1, bt427.2.2)))) else (none)))) else (none))) = some (r1, r2, r3) := by rw [if_neg (show ¬ (false = true) by decide)] at H; exact H
    clear H
    have H := H1
    clear H1
    obtain ⟨y411, hy411⟩ : ∃ y_ : List (S45), y_ = (([] : List (S45))) := ⟨_, rfl⟩
    replace H : (if y411.length + l0_1.length < 4398046511104 then ((some (y411 ++ l0_1 : List (S45))).bind fun y414 => ((some (([(⟨a1_0, a1_1, a1_2, a1_3⟩ : S45)] : List (S45)) : List (S45))).bind fun y417 => (if y414.length + y417.length < 4398046511104 then ((spec_l01Made.f a0_0 (y414 ++ y417)).bind fun bt423 => ((spec_l01Told.f bt423.1 bt423.2).bind fun bt427 => (some (bt427.1, bt427.2.1, bt427.2.2)))) else (none)))) else (none)) = some (r1, r2, r3) := by first | (rw [hy411]; with_reducible exact H) | (have H2_ := (Option.bind_some _ _).symm.trans H; rw [hy411]; with_reducible exact H2_) | (have H2_ := (Option.bind_some _ _).symm.trans H; with_reducible exact H2_) | with_reducible exact H | (rw [hy411]; exact H) | exact H
    have Ny411 := Aside0.mk hy411
    clear hy411
    by_cases c24 : y411.length + l0_1.length < 4398046511104
    ·rw [if_pos c24] at H
     have LMc24 := Aside0.mk c24
     clear c24
     obtain ⟨y414, hy414⟩ : ∃ y_ : List (S45), y_ = (y411 ++ l0_1) := ⟨_, rfl⟩
     replace H : ((some (([(⟨a1_0, a1_1, a1_2, a1_3⟩ : S45)] : List (S45)) : List (S45))).bind fun y417 => (if y414.length + y417.length < 4398046511104 then ((spec_l01Made.f a0_0 (y414 ++ y417)).bind fun bt423 => ((spec_l01Told.f bt423.1 bt423.2).bind fun bt427 => (some (bt427.1, bt427.2.1, bt427.2.2)))) else (none))) = some (r1, r2, r3) := by first | (rw [hy414]; with_reducible exact H) | (have H2_ := (Option.bind_some _ _).symm.trans H; rw [hy414]; with_reducible exact H2_) | (have H2_ := (Option.bind_some _ _).symm.trans H; with_reducible exact H2_) | with_reducible exact H | (rw [hy414]; exact H) | exact H
     have Ny414 := Aside0.mk hy414
     clear hy414
     obtain ⟨y417, hy417⟩ : ∃ y_ : List (S45), y_ = (([(⟨a1_0, a1_1, a1_2, a1_3⟩ : S45)] : List (S45))) := ⟨_, rfl⟩
     replace H : (if y414.length + y417.length < 4398046511104 then ((spec_l01Made.f a0_0 (y414 ++ y417)).bind fun bt423 => ((spec_l01Told.f bt423.1 bt423.2).bind fun bt427 => (some (bt427.1, bt427.2.1, bt427.2.2)))) else (none)) = some (r1, r2, r3) := by first | (rw [hy417]; with_reducible exact H) | (have H2_ := (Option.bind_some _ _).symm.trans H; rw [hy417]; with_reducible exact H2_) | (have H2_ := (Option.bind_some _ _).symm.trans H; with_reducible exact H2_) | with_reducible exact H | (rw [hy417]; exact H) | exact H
     have Ny417 := Aside0.mk hy417
     clear hy417
     by_cases c25 : y414.length + y417.length < 4398046511104
     ·rw [if_pos c25] at H
      have LMc25 := Aside0.mk c25
      clear c25
      obtain ⟨y420, hy420⟩ : ∃ y_ : List (S45), y_ = (y414 ++ y417) := ⟨_, rfl⟩
      replace H : ((spec_l01Made.f a0_0 y420).bind fun bt423 => ((spec_l01Told.f bt423.1 bt423.2).bind fun bt427 => (some (bt427.1, bt427.2.1, bt427.2.2)))) = some (r1, r2, r3) := by first | (rw [hy420]; with_reducible exact H) | (have H2_ := (Option.bind_some _ _).symm.trans H; rw [hy420]; with_reducible exact H2_) | (have H2_ := (Option.bind_some _ _).symm.trans H; with_reducible exact H2_) | with_reducible exact H | (rw [hy420]; exact H) | exact H
      have Ny420 := Aside0.mk hy420
      clear hy420
      replace H := Option.bind_eq_some_iff.mp H
      obtain ⟨⟨t423, t424⟩, A260, H⟩ := H
      replace H : ((spec_l01Told.f t423 t424).bind fun bt427 => (some (bt427.1, bt427.2.1, bt427.2.2))) = some (r1, r2, r3) := H
      have A26 := Aside0.mk A260
      clear A260
      replace H := Option.bind_eq_some_iff.mp H
      obtain ⟨⟨t427, t428, t431⟩, A270, H⟩ := H
      replace H : (some (t427, t428, t431)) = some (r1, r2, r3) := H
      have A27 := Aside0.mk A270
      clear A270
      simp only [Option.some.injEq, Prod.mk.injEq] at H
      obtain ⟨rfl, rfl, rfl⟩ := H
      go_enter Try.func36, Try.ntmps36
      try go_wp2_with (first | ((with_reducible refine gate_dst (N := 2) rfl ?_); refine box_event ?hg (N := 2) ?hd (cs := #[.int .i64 a0_0, .slice A0_1 l0_1.length c0_1]) (t := 26) ?hr ?_; (case hd => rfl); (case hg => rfl); (case hr => first | (go_simp; done) | (go_simp; rfl)); intro gb405 hg w28 hbox hb; have n0_ := Aside0.mk (below_step (by repeat (first | (with_reducible first | exact HB.out | apply lA_ | apply lN_ | apply lD_) | exact HB.out)) hb); have n1_ := Aside0.mk (hbox); have n2_ := Aside0.mk ((by rw [hg]; exact (below_size (by repeat (first | (with_reducible first | exact HB.out | apply lA_ | apply lN_ | apply lD_) | exact HB.out))) : w.heap.size ≤ gb405)); have n3_ := Aside0.mk ((by rw [hg]; exact (below_size (by repeat (first | (with_reducible first | exact HB.out | apply lA_ | apply lN_ | apply lD_) | exact HB.out))) : w.heap.size ≤ gb405)); clear HB; have HB := n0_; have BK405 := n1_; have GW405 := n2_; have GE405 := n3_; clear n0_ n1_ n2_ n3_; clear hb hbox hg) | ((with_reducible refine gate_dst (N := 3) rfl ?_); refine box_event ?hg (N := 3) ?hd (cs := #[.int .i64 a1_0, .int .i64 a1_1, .int .i64 a1_2, .int .i64 a1_3]) (t := 45) ?hr ?_; (case hd => rfl); (case hg => rfl); (case hr => first | (go_simp; done) | (go_simp; rfl)); intro gb406 hg w29 hbox hb; have n0_ := Aside0.mk (blk_below (g := gb405) (o := .cells #[.int .i64 a0_0, .slice A0_1 l0_1.length c0_1] 26 (0, 0)) (by (with_reducible repeat (first | apply bN_ | apply bD_ | apply bA_)); exact BK405.out) hb); have n1_ := Aside0.mk (below_step (by repeat (first | (with_reducible first | exact HB.out | apply lA_ | apply lN_ | apply lD_ | refine lS_ ?_ GE405.out) | exact HB.out)) hb); have n2_ := Aside0.mk (hbox); have n3_ := Aside0.mk ((by rw [hg]; exact (below_size (by repeat (first | (with_reducible first | exact HB.out | apply lA_ | apply lN_ | apply lD_ | refine lS_ ?_ GE405.out) | exact HB.out))) : w.heap.size ≤ gb406)); have n4_ := Aside0.mk ((by rw [hg]; exact (below_size (by repeat (first | (with_reducible first | exact HB.out | apply lA_ | apply lN_ | apply lD_ | refine lS_ ?_ GE405.out) | exact HB.out))) : w.heap.size ≤ gb406)); have n5_ := Aside0.mk ((by rw [hg]; exact Nat.ne_of_lt (blk_lt (g := gb405) (o := .cells #[.int .i64 a0_0, .slice A0_1 l0_1.length c0_1] 26 (0, 0)) (by (with_reducible repeat (first | apply bN_ | apply bD_ | apply bA_)); exact BK405.out)) : gb405 ≠ gb406)); have n6_ := Aside0.mk ((by rw [hg]; exact Nat.ne_of_gt (blk_lt (g := gb405) (o := .cells #[.int .i64 a0_0, .slice A0_1 l0_1.length c0_1] 26 (0, 0)) (by (with_reducible repeat (first | apply bN_ | apply bD_ | apply bA_)); exact BK405.out)) : gb406 ≠ gb405)); clear BK405; clear HB; have BK405 := n0_; have HB := n1_; have BK406 := n2_; have GW406 := n3_; have GE406 := n4_; have NB405_406 := n5_; have NB406_405 := n6_; clear n0_ n1_ n2_ n3_ n4_ n5_ n6_; clear hb hbox hg) | ((with_reducible refine gate_dst (N := 4) rfl ?_); refine box_event ?hg (N := 4) ?hd (cs := #[.int .i64 0, .slice none 0 0]) (t := 26) ?hr ?_; (case hd => rfl); (case hg => rfl); (case hr => first | (go_simp; done) | (go_simp; rfl)); intro gb407 hg w30 hbox hb; have n0_ := Aside0.mk (blk_below (g := gb405) (o := .cells #[.int .i64 a0_0, .slice A0_1 l0_1.length c0_1] 26 (0, 0)) (by (with_reducible repeat (first | apply bN_ | apply bD_ | apply bA_)); exact BK405.out) hb); have n1_ := Aside0.mk (blk_below (g := gb406) (o := .cells #[.int .i64 a1_0, .int .i64 a1_1, .int .i64 a1_2, .int .i64 a1_3] 45 (0, 0)) (by (with_reducible repeat (first | apply bN_ | apply bD_ | apply bA_)); exact BK406.out) hb); have n2_ := Aside0.mk (below_step (by repeat (first | (with_reducible first | exact HB.out | apply lA_ | apply lN_ | apply lD_ | refine lS_ ?_ GE405.out | refine lS_ ?_ GE406.out) | exact HB.out)) hb); have n3_ := Aside0.mk (hbox); have n4_ := Aside0.mk ((by rw [hg]; exact (below_size (by repeat (first | (with_reducible first | exact HB.out | apply lA_ | apply lN_ | apply lD_ | refine lS_ ?_ GE405.out | refine lS_ ?_ GE406.out) | exact HB.out))) : w.heap.size ≤ gb407)); have n5_ := Aside0.mk ((by rw [hg]; exact (below_size (by repeat (first | (with_reducible first | exact HB.out | apply lA_ | apply lN_ | apply lD_ | refine lS_ ?_ GE405.out | refine lS_ ?_ GE406.out) | exact HB.out))) : w.heap.size ≤ gb407)); have n6_ := Aside0.mk ((by rw [hg]; exact Nat.ne_of_lt (blk_lt (g := gb405) (o := .cells #[.int .i64 a0_0, .slice A0_1 l0_1.length c0_1] 26 (0, 0)) (by (with_reducible repeat (first | apply bN_ | apply bD_ | apply bA_)); exact BK405.out)) : gb405 ≠ gb407)); have n7_ := Aside0.mk ((by rw [hg]; exact Nat.ne_of_gt (blk_lt (g := gb405) (o := .cells #[.int .i64 a0_0, .slice A0_1 l0_1.length c0_1] 26 (0, 0)) (by (with_reducible repeat (first | apply bN_ | apply bD_ | apply bA_)); exact BK405.out)) : gb407 ≠ gb405)); have n8_ := Aside0.mk ((by rw [hg]; exact Nat.ne_of_lt (blk_lt (g := gb406) (o := .cells #[.int .i64 a1_0, .int .i64 a1_1, .int .i64 a1_2, .int .i64 a1_3] 45 (0, 0)) (by (with_reducible repeat (first | apply bN_ | apply bD_ | apply bA_)); exact BK406.out)) : gb406 ≠ gb407)); have n9_ := Aside0.mk ((by rw [hg]; exact Nat.ne_of_gt (blk_lt (g := gb406) (o := .cells #[.int .i64 a1_0, .int .i64 a1_1, .int .i64 a1_2, .int .i64 a1_3] 45 (0, 0)) (by (with_reducible repeat (first | apply bN_ | apply bD_ | apply bA_)); exact BK406.out)) : gb407 ≠ gb406)); clear BK405; clear BK406; clear HB; have BK405 := n0_; have BK406 := n1_; have HB := n2_; have BK407 := n3_; have GW407 := n4_; have GE407 := n5_; have NB405_407 := n6_; have NB407_405 := n7_; have NB406_407 := n8_; have NB407_406 := n9_; clear n0_ n1_ n2_ n3_ n4_ n5_ n6_ n7_ n8_ n9_; clear hb hbox hg; have hnb31 := NB405_406.out; have hnc31 := NB406_405.out; have hnb32 := NB405_407.out; have hnc32 := NB407_405.out; have hcz33_0 : w30.cell? ⟨gb405, 0, none⟩ = some (.int .i64 a0_0) := (blk_cell BK405.out 0).trans rfl; have hcz33_1 : w30.cell? ⟨gb405, 1, none⟩ = some (.slice A0_1 l0_1.length c0_1) := (blk_cell BK405.out 1).trans rfl; have hfz33_0 := blk_frozen BK405.out 0; have hfz33_1 := blk_frozen BK405.out 1) | ((with_reducible refine gate_callee (f := 60) rfl ?_); refine goesL_ (some 10) rfl rfl Try.func60 (by kernel_rfl) rfl #[.agg #[.int .i64 a0_0, .slice A0_1 l0_1.length c0_1]] rfl (by (try simp only [List.map_toArray, List.map_cons, List.map_nil]); first | done | rfl | (simp only [List.length_drop, List.length_take]; rfl)) ?_; (with_reducible refine (spec_l01Is.calls a0_0 _ _ l0_1 true _ ?side1 ?side2 A3.out).mono ?_); (case side1 => repeat (first | exact (Kd.C_below HR0_1.out HB.out) | (with_reducible refine Kd.C_alloc ?_ _) | (with_reducible refine Kd.C_drewN ?_ _) | (with_reducible refine Kd.C_drew ?_))); (case side2 => exact HC0_1.out); rintro e w34 ⟨rfl, hb⟩; refine ⟨_, rfl, ?_⟩; have n0_ := Aside0.mk (blk_below (g := gb405) (o := .cells #[.int .i64 a0_0, .slice A0_1 l0_1.length c0_1] 26 (0, 0)) (by (with_reducible repeat (first | apply bN_ | apply bD_ | apply bA_)); exact BK405.out) hb); have n1_ := Aside0.mk (blk_below (g := gb406) (o := .cells #[.int .i64 a1_0, .int .i64 a1_1, .int .i64 a1_2, .int .i64 a1_3] 45 (0, 0)) (by (with_reducible repeat (first | apply bN_ | apply bD_ | apply bA_)); exact BK406.out) hb); have n2_ := Aside0.mk (blk_below (g := gb407) (o := .cells #[.int .i64 0, .slice none 0 0] 26 (0, 0)) (by (with_reducible repeat (first | apply bN_ | apply bD_ | apply bA_)); exact BK407.out) hb); have n3_ := Aside0.mk (below_step (by repeat (first | (with_reducible first | exact HB.out | apply lA_ | apply lN_ | apply lD_ | refine lS_ ?_ GE405.out | refine lS_ ?_ GE406.out | refine lS_ ?_ GE407.out) | exact HB.out)) hb); clear BK405; clear BK406; clear BK407; clear HB; have BK405 := n0_; have BK406 := n1_; have BK407 := n2_; have HB := n3_; clear n0_ n1_ n2_ n3_; (try clear hb); (try clear hb2); (try clear hk); (try clear hi); have hcz35_0 : w34.cell? ⟨gb405, 0, none⟩ = some (.int .i64 a0_0) := (blk_cell BK405.out 0).trans rfl; have hcz35_1 : w34.cell? ⟨gb405, 1, none⟩ = some (.slice A0_1 l0_1.length c0_1) := (blk_cell BK405.out 1).trans rfl; have hfz35_0 := blk_frozen BK405.out 0; have hfz35_1 := blk_frozen BK405.out 1; have hnb36 := NB406_407.out; have hnc36 := NB407_406.out; have hcz37_0 : w34.cell? ⟨gb406, 0, none⟩ = some (.int .i64 a1_0) := (blk_cell BK406.out 0).trans rfl; have hcz37_1 : w34.cell? ⟨gb406, 1, none⟩ = some (.int .i64 a1_1) := (blk_cell BK406.out 1).trans rfl; have hcz37_2 : w34.cell? ⟨gb406, 2, none⟩ = some (.int .i64 a1_2) := (blk_cell BK406.out 2).trans rfl; have hcz37_3 : w34.cell? ⟨gb406, 3, none⟩ = some (.int .i64 a1_3) := (blk_cell BK406.out 3).trans rfl; have hfz37_0 := blk_frozen BK406.out 0; have hfz37_1 := blk_frozen BK406.out 1; have hfz37_2 := blk_frozen BK406.out 2; have hfz37_3 := blk_frozen BK406.out 3) | ((with_reducible refine gate_callee (f := 50) rfl ?_); refine goesL_ (some 17) rfl rfl Try.func50 (by kernel_rfl) rfl #[.int .i64 a0_0, .agg #[.int .i64 a1_0, .int .i64 a1_1, .int .i64 a1_2, .int .i64 a1_3]] rfl (by (try simp only [List.map_toArray, List.map_cons, List.map_nil]); first | done | rfl | (simp only [List.length_drop, List.length_take]; rfl)) ?_; (with_reducible refine (spec_l01Tile.calls a0_0 a1_0 a1_1 a1_2 a1_3 true _ A5.out).mono ?_); rintro e w38 ⟨rfl, hb⟩; refine ⟨_, rfl, ?_⟩; have n0_ := Aside0.mk (blk_below (g := gb405) (o := .cells #[.int .i64 a0_0, .slice A0_1 l0_1.length c0_1] 26 (0, 0)) (by (with_reducible repeat (first | apply bN_ | apply bD_ | apply bA_)); exact BK405.out) hb); have n1_ := Aside0.mk (blk_below (g := gb406) (o := .cells #[.int .i64 a1_0, .int .i64 a1_1, .int .i64 a1_2, .int .i64 a1_3] 45 (0, 0)) (by (with_reducible repeat (first | apply bN_ | apply bD_ | apply bA_)); exact BK406.out) hb); have n2_ := Aside0.mk (blk_below (g := gb407) (o := .cells #[.int .i64 0, .slice none 0 0] 26 (0, 0)) (by (with_reducible repeat (first | apply bN_ | apply bD_ | apply bA_)); exact BK407.out) hb); have n3_ := Aside0.mk (below_step (by repeat (first | (with_reducible first | exact HB.out | apply lA_ | apply lN_ | apply lD_ | refine lS_ ?_ GE405.out | refine lS_ ?_ GE406.out | refine lS_ ?_ GE407.out) | exact HB.out)) hb); clear BK405; clear BK406; clear BK407; clear HB; have BK405 := n0_; have BK406 := n1_; have BK407 := n2_; have HB := n3_; clear n0_ n1_ n2_ n3_; (try clear hb); (try clear hb2); (try clear hk); (try clear hi); have hcz39_0 : w38.cell? ⟨gb405, 0, none⟩ = some (.int .i64 a0_0) := (blk_cell BK405.out 0).trans rfl; have hcz39_1 : w38.cell? ⟨gb405, 1, none⟩ = some (.slice A0_1 l0_1.length c0_1) := (blk_cell BK405.out 1).trans rfl; have hfz39_0 := blk_frozen BK405.out 0; have hfz39_1 := blk_frozen BK405.out 1; have hcz40_0 : w38.cell? ⟨gb406, 0, none⟩ = some (.int .i64 a1_0) := (blk_cell BK406.out 0).trans rfl; have hcz40_1 : w38.cell? ⟨gb406, 1, none⟩ = some (.int .i64 a1_1) := (blk_cell BK406.out 1).trans rfl; have hcz40_2 : w38.cell? ⟨gb406, 2, none⟩ = some (.int .i64 a1_2) := (blk_cell BK406.out 2).trans rfl; have hcz40_3 : w38.cell? ⟨gb406, 3, none⟩ = some (.int .i64 a1_3) := (blk_cell BK406.out 3).trans rfl; have hfz40_0 := blk_frozen BK406.out 0; have hfz40_1 := blk_frozen BK406.out 1; have hfz40_2 := blk_frozen BK406.out 2; have hfz40_3 := blk_frozen BK406.out 3) | ((with_reducible refine gate_callee (f := 76) rfl ?_); refine goesL_ (some 23) rfl rfl Try.func76 (by kernel_rfl) rfl #[.agg #[.int .i64 a0_0, .slice A0_1 l0_1.length c0_1], .agg #[.int .i64 a1_0, .int .i64 a1_1, .int .i64 a1_2, .int .i64 a1_3]] rfl (by (try simp only [List.map_toArray, List.map_cons, List.map_nil]); first | done | rfl | (simp only [List.length_drop, List.length_take]; rfl)) ?_; (with_reducible refine (spec_l01Has.calls a0_0 _ _ l0_1 a1_0 a1_1 a1_2 a1_3 false _ ?side1 ?side2 A7.out).mono ?_); (case side1 => repeat (first | exact (Kd.C_below HR0_1.out HB.out) | (with_reducible refine Kd.C_alloc ?_ _) | (with_reducible refine Kd.C_drewN ?_ _) | (with_reducible refine Kd.C_drew ?_))); (case side2 => exact HC0_1.out); rintro e w41 ⟨rfl, hb⟩; refine ⟨_, rfl, ?_⟩; have n0_ := Aside0.mk (blk_below (g := gb405) (o := .cells #[.int .i64 a0_0, .slice A0_1 l0_1.length c0_1] 26 (0, 0)) (by (with_reducible repeat (first | apply bN_ | apply bD_ | apply bA_)); exact BK405.out) hb); have n1_ := Aside0.mk (blk_below (g := gb406) (o := .cells #[.int .i64 a1_0, .int .i64 a1_1, .int .i64 a1_2, .int .i64 a1_3] 45 (0, 0)) (by (with_reducible repeat (first | apply bN_ | apply bD_ | apply bA_)); exact BK406.out) hb); have n2_ := Aside0.mk (blk_below (g := gb407) (o := .cells #[.int .i64 0, .slice none 0 0] 26 (0, 0)) (by (with_reducible repeat (first | apply bN_ | apply bD_ | apply bA_)); exact BK407.out) hb); have n3_ := Aside0.mk (below_step (by repeat (first | (with_reducible first | exact HB.out | apply lA_ | apply lN_ | apply lD_ | refine lS_ ?_ GE405.out | refine lS_ ?_ GE406.out | refine lS_ ?_ GE407.out) | exact HB.out)) hb); clear BK405; clear BK406; clear BK407; clear HB; have BK405 := n0_; have BK406 := n1_; have BK407 := n2_; have HB := n3_; clear n0_ n1_ n2_ n3_; (try clear hb); (try clear hb2); (try clear hk); (try clear hi)))
      have n0_ := Aside0.mk (blk_drew BK405.out)
      have n1_ := Aside0.mk (blk_drew BK406.out)
      have n2_ := Aside0.mk (blk_drew BK407.out)
      have n3_ := Aside0.mk (below_drew1 HB.out)
      clear BK405
      clear BK406
      clear BK407
      clear HB
      have BK405 := n0_
      have BK406 := n1_
      have BK407 := n2_
      have HB := n3_
      clear n0_ n1_ n2_ n3_
      refine start_ (n := 17) (S := fun w' => w'.cell? ⟨gb405, 0, none⟩ = some (.int .i64 a0_0) ∧ w'.cell? ⟨gb405, 1, none⟩ = some (.slice A0_1 l0_1.length c0_1) ∧ w'.cell? ⟨gb406, 0, none⟩ = some (.int .i64 a1_0) ∧ w'.cell? ⟨gb406, 1, none⟩ = some (.int .i64 a1_1) ∧ w'.cell? ⟨gb406, 2, none⟩ = some (.int .i64 a1_2) ∧ w'.cell? ⟨gb406, 3, none⟩ = some (.int .i64 a1_3)) (ds := []) #[false, false, false, false, false, false, false, false, false, false, false, false, false, false, false, false, false] (by kernel_rfl) rfl rfl ⟨(blk_cell BK405.out 0).trans rfl, (blk_cell BK405.out 1).trans rfl, (blk_cell BK406.out 0).trans rfl, (blk_cell BK406.out 1).trans rfl, (blk_cell BK406.out 2).trans rfl, (blk_cell BK406.out 3).trans rfl⟩ (fun hHeld => ?_); refine with_tabW spec_PutTile.tab7 spec_PutTile.bits7 (fun HT_ HW_ => ?_)
      generalize w41.drew = w42 at BK405 BK406 BK407 HB hHeld ⊢
      refine pure_ (i := 0) (N := some 26) (v := ?_) (a' := ?_) #[true, false, false, false, false, false, false, false, false, false, false, false, false, false, false, false, false] rfl rfl (any_of HT_.out (by kernel_rfl)) (fun _ _ _ h => h) (Or.inl ⟨by rfl, ?_⟩) ?_ ?_
      rotate_left
      ·intro w'
       go_simp
       with_reducible rfl
      rotate_left
      ·simp only [Act.put, q1_, q2_, q3_, i64_w, i32_w]
       rfl
      refine pure_ (i := 3) (N := some 29) (v := ?_) (a' := ?_) #[true, false, false, true, false, false, false, false, false, false, false, false, false, false, false, false, false] rfl rfl (any_of HT_.out (by kernel_rfl)) (fun _ _ _ h => h) (Or.inl ⟨by rfl, ?_⟩) ?_ ?_
      rotate_left
      ·intro w'
       go_simp
       with_reducible rfl
      rotate_left
      ·simp only [Act.put, q1_, q2_, q3_, i64_w, i32_w]
       rfl
      refine take_ (i := 1) (N := some 27) (v := ?_) (a' := ?_) #[true, true, false, true, false, false, false, false, false, false, false, false, false, false, false, false, false] rfl rfl (take_ofW HT_.out HW_.out (by kernel_rfl)) (fun _ _ _ h => h) (Or.inl ⟨by rfl, ?_⟩) hHeld ?_ ?_
      rotate_left
      ·rintro w' ⟨s0, s1, s2, s3, s4, s5⟩
       go_simp
       with_reducible rfl
      rotate_left
      ·simp only [Act.put, q1_, q2_, q3_, i64_w, i32_w]
       rfl
      refine take_ (i := 4) (N := some 30) (v := ?_) (a' := ?_) #[true, true, false, true, true, false, false, false, false, false, false, false, false, false, false, false, false] rfl rfl (take_ofW HT_.out HW_.out (by kernel_rfl)) (fun _ _ _ h => h) (Or.inl ⟨by rfl, ?_⟩) hHeld ?_ ?_
      rotate_left
      ·rintro w' ⟨s0, s1, s2, s3, s4, s5⟩
       go_simp
       with_reducible rfl
      rotate_left
      ·simp only [Act.put, q1_, q2_, q3_, i64_w, i32_w]
       rfl
      refine take_ (i := 6) (N := some 32) (v := ?_) (a' := ?_) #[true, true, false, true, true, false, true, false, false, false, false, false, false, false, false, false, false] rfl rfl (take_ofW HT_.out HW_.out (by kernel_rfl)) (fun _ _ _ h => h) (Or.inl ⟨by rfl, ?_⟩) hHeld ?_ ?_
      rotate_left
      ·rintro w' ⟨s0, s1, s2, s3, s4, s5⟩
       go_simp
       with_reducible rfl
      rotate_left
      ·simp only [Act.put, q1_, q2_, q3_, i64_w, i32_w]
       rfl
      refine join_ (σ := Value × Value × Value × Value × Value × Value × Nat) 2 #[true, true, true, true, true, true, true, true, true, true, true, true, true, true, true, false, false] (fun s_ => [(28, s_.1), (31, s_.2.1), (33, s_.2.2.1), (34, s_.2.2.2.1), (35, .agg #[.int .i64 t423, s_.2.2.2.2.1]), (36, .tuple #[.agg #[.int .i64 t427, s_.2.2.2.2.2.1], .int .i64 t431]), (6, .pointer (some ⟨s_.2.2.2.2.2.2, 0, none⟩)), (25, .tuple #[.agg #[.int .i64 t427, s_.2.2.2.2.2.1], .int .i64 t431]), (37, .agg #[.int .i64 t427, s_.2.2.2.2.2.1]), (38, .int .i64 t431)]) (fun s_ w' => (w'.cell? ⟨gb405, 0, none⟩ = some (.int .i64 a0_0) ∧ w'.cell? ⟨gb405, 1, none⟩ = some (.slice A0_1 l0_1.length c0_1) ∧ w'.cell? ⟨gb406, 0, none⟩ = some (.int .i64 a1_0) ∧ w'.cell? ⟨gb406, 1, none⟩ = some (.int .i64 a1_1) ∧ w'.cell? ⟨gb406, 2, none⟩ = some (.int .i64 a1_2) ∧ w'.cell? ⟨gb406, 3, none⟩ = some (.int .i64 a1_3)) ∧ (Kd.R k45 45 w' w.heap.size (fun k_ => some k_ ≠ (s_.2.2.2.1 : Value).ownBlock ∧ some k_ ≠ (s_.2.2.2.2.2.1 : Value).ownBlock ∧ k_ ≠ gb406) s_.2.2.1 y417) ∧ (Kd.R k45 45 w' w.heap.size (fun k_ => some k_ ≠ (s_.2.2.1 : Value).ownBlock ∧ some k_ ≠ (s_.2.2.2.2.2.1 : Value).ownBlock ∧ k_ ≠ gb406) s_.2.2.2.1 y420) ∧ (Kd.R k45 45 w' w.heap.size (fun k_ => some k_ ≠ (s_.2.2.1 : Value).ownBlock ∧ some k_ ≠ (s_.2.2.2.1 : Value).ownBlock ∧ k_ ≠ gb406) s_.2.2.2.2.2.1 t428) ∧ (w'.heap[gb405]? = some (.cells #[.int .i64 a0_0, .slice A0_1 l0_1.length c0_1] 26 (0, 0))) ∧ (w'.heap[gb406]? = some (.cells #[.int .i64 a1_0, .int .i64 a1_1, .int .i64 a1_2, .int .i64 a1_3] 45 (0, 0))) ∧ (w'.heap[gb407]? = some (.cells #[.int .i64 0, .slice none 0 0] 26 (0, 0))) ∧ (w'.heap[s_.2.2.2.2.2.2]? = some (.cells #[.int .i64 0, .slice none 0 0] 26 (0, 0))) ∧ (w.heap.size ≤ s_.2.2.2.2.2.2) ∧ (w.heap.size ≤ s_.2.2.2.2.2.2) ∧ (gb405 ≠ s_.2.2.2.2.2.2) ∧ (s_.2.2.2.2.2.2 ≠ gb405) ∧ (gb406 ≠ s_.2.2.2.2.2.2) ∧ (s_.2.2.2.2.2.2 ≠ gb406) ∧ (gb407 ≠ s_.2.2.2.2.2.2) ∧ (s_.2.2.2.2.2.2 ≠ gb407) ∧ (Below w.heap.size w w')) ?_ ?_
      rotate_left
      ·intro hJ2_5_7_8_9_10_14
       refine join_ (σ := Value × Value × Value × Value × Value × Value) 3 #[true, true, true, true, true, true, true, true, true, true, true, true, true, true, false, false, false] (fun s_ => [(28, s_.1), (31, s_.2.1), (33, s_.2.2.1), (34, s_.2.2.2.1), (35, .agg #[.int .i64 t423, s_.2.2.2.2.1]), (36, .tuple #[.agg #[.int .i64 t427, s_.2.2.2.2.2], .int .i64 t431]), (25, .tuple #[.agg #[.int .i64 t427, s_.2.2.2.2.2], .int .i64 t431]), (37, .agg #[.int .i64 t427, s_.2.2.2.2.2]), (38, .int .i64 t431)]) (fun s_ w' => (w'.cell? ⟨gb405, 0, none⟩ = some (.int .i64 a0_0) ∧ w'.cell? ⟨gb405, 1, none⟩ = some (.slice A0_1 l0_1.length c0_1) ∧ w'.cell? ⟨gb406, 0, none⟩ = some (.int .i64 a1_0) ∧ w'.cell? ⟨gb406, 1, none⟩ = some (.int .i64 a1_1) ∧ w'.cell? ⟨gb406, 2, none⟩ = some (.int .i64 a1_2) ∧ w'.cell? ⟨gb406, 3, none⟩ = some (.int .i64 a1_3)) ∧ (Kd.R k45 45 w' w.heap.size (fun k_ => some k_ ≠ (s_.2.2.2.1 : Value).ownBlock ∧ some k_ ≠ (s_.2.2.2.2.2 : Value).ownBlock ∧ k_ ≠ gb406) s_.2.2.1 y417) ∧ (Kd.R k45 45 w' w.heap.size (fun k_ => some k_ ≠ (s_.2.2.1 : Value).ownBlock ∧ some k_ ≠ (s_.2.2.2.2.2 : Value).ownBlock ∧ k_ ≠ gb406) s_.2.2.2.1 y420) ∧ (Kd.R k45 45 w' w.heap.size (fun k_ => some k_ ≠ (s_.2.2.1 : Value).ownBlock ∧ some k_ ≠ (s_.2.2.2.1 : Value).ownBlock ∧ k_ ≠ gb406) s_.2.2.2.2.2 t428) ∧ (w'.heap[gb405]? = some (.cells #[.int .i64 a0_0, .slice A0_1 l0_1.length c0_1] 26 (0, 0))) ∧ (w'.heap[gb406]? = some (.cells #[.int .i64 a1_0, .int .i64 a1_1, .int .i64 a1_2, .int .i64 a1_3] 45 (0, 0))) ∧ (w'.heap[gb407]? = some (.cells #[.int .i64 0, .slice none 0 0] 26 (0, 0))) ∧ (Below w.heap.size w w')) ?_ ?_
       rotate_left
       ·intro hJ2_5_7_8_9_10
        refine join_ (σ := Value × Value × Value × Value × Value × Nat) 6 #[true, true, true, true, true, true, true, true, true, true, false, false, false, false, true, false, false] (fun s_ => [(28, s_.1), (31, s_.2.1), (33, s_.2.2.1), (34, s_.2.2.2.1), (35, .agg #[.int .i64 t423, s_.2.2.2.2.1]), (6, .pointer (some ⟨s_.2.2.2.2.2, 0, none⟩))]) (fun s_ w' => (w'.cell? ⟨gb405, 0, none⟩ = some (.int .i64 a0_0) ∧ w'.cell? ⟨gb405, 1, none⟩ = some (.slice A0_1 l0_1.length c0_1) ∧ w'.cell? ⟨gb406, 0, none⟩ = some (.int .i64 a1_0) ∧ w'.cell? ⟨gb406, 1, none⟩ = some (.int .i64 a1_1) ∧ w'.cell? ⟨gb406, 2, none⟩ = some (.int .i64 a1_2) ∧ w'.cell? ⟨gb406, 3, none⟩ = some (.int .i64 a1_3)) ∧ (Kd.R k45 45 w' w.heap.size (fun k_ => some k_ ≠ (s_.2.2.2.1 : Value).ownBlock ∧ some k_ ≠ (s_.2.2.2.2.1 : Value).ownBlock ∧ k_ ≠ gb406) s_.2.2.1 y417) ∧ (Kd.R k45 45 w' w.heap.size (fun k_ => some k_ ≠ (s_.2.2.1 : Value).ownBlock ∧ some k_ ≠ (s_.2.2.2.2.1 : Value).ownBlock ∧ k_ ≠ gb406) s_.2.2.2.1 y420) ∧ (Kd.R k45 45 w' w.heap.size (fun k_ => some k_ ≠ (s_.2.2.1 : Value).ownBlock ∧ some k_ ≠ (s_.2.2.2.1 : Value).ownBlock ∧ k_ ≠ gb406) s_.2.2.2.2.1 t424) ∧ (w'.heap[gb405]? = some (.cells #[.int .i64 a0_0, .slice A0_1 l0_1.length c0_1] 26 (0, 0))) ∧ (w'.heap[gb406]? = some (.cells #[.int .i64 a1_0, .int .i64 a1_1, .int .i64 a1_2, .int .i64 a1_3] 45 (0, 0))) ∧ (w'.heap[gb407]? = some (.cells #[.int .i64 0, .slice none 0 0] 26 (0, 0))) ∧ (w'.heap[s_.2.2.2.2.2]? = some (.cells #[.int .i64 0, .slice none 0 0] 26 (0, 0))) ∧ (w.heap.size ≤ s_.2.2.2.2.2) ∧ (w.heap.size ≤ s_.2.2.2.2.2) ∧ (gb405 ≠ s_.2.2.2.2.2) ∧ (s_.2.2.2.2.2 ≠ gb405) ∧ (gb406 ≠ s_.2.2.2.2.2) ∧ (s_.2.2.2.2.2 ≠ gb406) ∧ (gb407 ≠ s_.2.2.2.2.2) ∧ (s_.2.2.2.2.2 ≠ gb407) ∧ (Below w.heap.size w w')) ?_ ?_
        rotate_left
        ·intro hJ2_5_7_8_9_14
         refine join_ (σ := Value × Value × Value × Value × Value) 7 #[true, true, true, true, true, true, true, true, true, true, false, false, false, false, false, false, false] (fun s_ => [(28, s_.1), (31, s_.2.1), (33, s_.2.2.1), (34, s_.2.2.2.1), (35, .agg #[.int .i64 t423, s_.2.2.2.2])]) (fun s_ w' => (w'.cell? ⟨gb405, 0, none⟩ = some (.int .i64 a0_0) ∧ w'.cell? ⟨gb405, 1, none⟩ = some (.slice A0_1 l0_1.length c0_1) ∧ w'.cell? ⟨gb406, 0, none⟩ = some (.int .i64 a1_0) ∧ w'.cell? ⟨gb406, 1, none⟩ = some (.int .i64 a1_1) ∧ w'.cell? ⟨gb406, 2, none⟩ = some (.int .i64 a1_2) ∧ w'.cell? ⟨gb406, 3, none⟩ = some (.int .i64 a1_3)) ∧ (Kd.R k45 45 w' w.heap.size (fun k_ => some k_ ≠ (s_.2.2.2.1 : Value).ownBlock ∧ some k_ ≠ (s_.2.2.2.2 : Value).ownBlock ∧ k_ ≠ gb406) s_.2.2.1 y417) ∧ (Kd.R k45 45 w' w.heap.size (fun k_ => some k_ ≠ (s_.2.2.1 : Value).ownBlock ∧ some k_ ≠ (s_.2.2.2.2 : Value).ownBlock ∧ k_ ≠ gb406) s_.2.2.2.1 y420) ∧ (Kd.R k45 45 w' w.heap.size (fun k_ => some k_ ≠ (s_.2.2.1 : Value).ownBlock ∧ some k_ ≠ (s_.2.2.2.1 : Value).ownBlock ∧ k_ ≠ gb406) s_.2.2.2.2 t424) ∧ (w'.heap[gb405]? = some (.cells #[.int .i64 a0_0, .slice A0_1 l0_1.length c0_1] 26 (0, 0))) ∧ (w'.heap[gb406]? = some (.cells #[.int .i64 a1_0, .int .i64 a1_1, .int .i64 a1_2, .int .i64 a1_3] 45 (0, 0))) ∧ (w'.heap[gb407]? = some (.cells #[.int .i64 0, .slice none 0 0] 26 (0, 0))) ∧ (Below w.heap.size w w')) ?_ ?_
         rotate_left
         ·intro hJ2_5_7_8_9
          refine join_ (σ := Value × Value × Value × Value × Nat) 7 #[true, true, true, true, true, true, true, true, true, false, false, false, false, false, true, false, false] (fun s_ => [(28, s_.1), (31, s_.2.1), (33, s_.2.2.1), (34, s_.2.2.2.1), (6, .pointer (some ⟨s_.2.2.2.2, 0, none⟩))]) (fun s_ w' => (w'.cell? ⟨gb405, 0, none⟩ = some (.int .i64 a0_0) ∧ w'.cell? ⟨gb405, 1, none⟩ = some (.slice A0_1 l0_1.length c0_1) ∧ w'.cell? ⟨gb406, 0, none⟩ = some (.int .i64 a1_0) ∧ w'.cell? ⟨gb406, 1, none⟩ = some (.int .i64 a1_1) ∧ w'.cell? ⟨gb406, 2, none⟩ = some (.int .i64 a1_2) ∧ w'.cell? ⟨gb406, 3, none⟩ = some (.int .i64 a1_3)) ∧ (Kd.R k45 45 w' w.heap.size (fun k_ => some k_ ≠ (s_.2.2.2.1 : Value).ownBlock ∧ k_ ≠ gb406) s_.2.2.1 y417) ∧ (Kd.R k45 45 w' w.heap.size (fun k_ => some k_ ≠ (s_.2.2.1 : Value).ownBlock ∧ k_ ≠ gb406) s_.2.2.2.1 y420) ∧ (w'.heap[gb405]? = some (.cells #[.int .i64 a0_0, .slice A0_1 l0_1.length c0_1] 26 (0, 0))) ∧ (w'.heap[gb406]? = some (.cells #[.int .i64 a1_0, .int .i64 a1_1, .int .i64 a1_2, .int .i64 a1_3] 45 (0, 0))) ∧ (w'.heap[gb407]? = some (.cells #[.int .i64 0, .slice none 0 0] 26 (0, 0))) ∧ (w'.heap[s_.2.2.2.2]? = some (.cells #[.int .i64 0, .slice none 0 0] 26 (0, 0))) ∧ (w.heap.size ≤ s_.2.2.2.2) ∧ (w.heap.size ≤ s_.2.2.2.2) ∧ (gb405 ≠ s_.2.2.2.2) ∧ (s_.2.2.2.2 ≠ gb405) ∧ (gb406 ≠ s_.2.2.2.2) ∧ (s_.2.2.2.2 ≠ gb406) ∧ (gb407 ≠ s_.2.2.2.2) ∧ (s_.2.2.2.2 ≠ gb407) ∧ (Below w.heap.size w w')) ?_ ?_
          rotate_left
          ·intro hJ2_5_7_8_14
           refine join_ (σ := Value × Value × Value × Value) 8 #[true, true, true, true, true, true, true, true, true, false, false, false, false, false, false, false, false] (fun s_ => [(28, s_.1), (31, s_.2.1), (33, s_.2.2.1), (34, s_.2.2.2)]) (fun s_ w' => (w'.cell? ⟨gb405, 0, none⟩ = some (.int .i64 a0_0) ∧ w'.cell? ⟨gb405, 1, none⟩ = some (.slice A0_1 l0_1.length c0_1) ∧ w'.cell? ⟨gb406, 0, none⟩ = some (.int .i64 a1_0) ∧ w'.cell? ⟨gb406, 1, none⟩ = some (.int .i64 a1_1) ∧ w'.cell? ⟨gb406, 2, none⟩ = some (.int .i64 a1_2) ∧ w'.cell? ⟨gb406, 3, none⟩ = some (.int .i64 a1_3)) ∧ (Kd.R k45 45 w' w.heap.size (fun k_ => some k_ ≠ (s_.2.2.2 : Value).ownBlock ∧ k_ ≠ gb406) s_.2.2.1 y417) ∧ (Kd.R k45 45 w' w.heap.size (fun k_ => some k_ ≠ (s_.2.2.1 : Value).ownBlock ∧ k_ ≠ gb406) s_.2.2.2 y420) ∧ (w'.heap[gb405]? = some (.cells #[.int .i64 a0_0, .slice A0_1 l0_1.length c0_1] 26 (0, 0))) ∧ (w'.heap[gb406]? = some (.cells #[.int .i64 a1_0, .int .i64 a1_1, .int .i64 a1_2, .int .i64 a1_3] 45 (0, 0))) ∧ (w'.heap[gb407]? = some (.cells #[.int .i64 0, .slice none 0 0] 26 (0, 0))) ∧ (Below w.heap.size w w')) ?_ ?_
           rotate_left
           ·intro hJ2_5_7_8
            refine join_ (σ := Value × Value × Value × Nat) 8 #[true, true, true, true, true, true, true, true, false, false, false, false, false, false, true, false, false] (fun s_ => [(28, s_.1), (31, s_.2.1), (33, s_.2.2.1), (6, .pointer (some ⟨s_.2.2.2, 0, none⟩))]) (fun s_ w' => (w'.cell? ⟨gb405, 0, none⟩ = some (.int .i64 a0_0) ∧ w'.cell? ⟨gb405, 1, none⟩ = some (.slice A0_1 l0_1.length c0_1) ∧ w'.cell? ⟨gb406, 0, none⟩ = some (.int .i64 a1_0) ∧ w'.cell? ⟨gb406, 1, none⟩ = some (.int .i64 a1_1) ∧ w'.cell? ⟨gb406, 2, none⟩ = some (.int .i64 a1_2) ∧ w'.cell? ⟨gb406, 3, none⟩ = some (.int .i64 a1_3)) ∧ (Kd.R k45 45 w' w.heap.size (fun k_ => some k_ ≠ (s_.2.2.1 : Value).ownBlock ∧ k_ ≠ gb406) s_.2.1 y414) ∧ (Kd.R k45 45 w' w.heap.size (fun k_ => some k_ ≠ (s_.2.1 : Value).ownBlock ∧ k_ ≠ gb406) s_.2.2.1 y417) ∧ (w'.heap[gb405]? = some (.cells #[.int .i64 a0_0, .slice A0_1 l0_1.length c0_1] 26 (0, 0))) ∧ (w'.heap[gb406]? = some (.cells #[.int .i64 a1_0, .int .i64 a1_1, .int .i64 a1_2, .int .i64 a1_3] 45 (0, 0))) ∧ (w'.heap[gb407]? = some (.cells #[.int .i64 0, .slice none 0 0] 26 (0, 0))) ∧ (w'.heap[s_.2.2.2]? = some (.cells #[.int .i64 0, .slice none 0 0] 26 (0, 0))) ∧ (w.heap.size ≤ s_.2.2.2) ∧ (w.heap.size ≤ s_.2.2.2) ∧ (gb405 ≠ s_.2.2.2) ∧ (s_.2.2.2 ≠ gb405) ∧ (gb406 ≠ s_.2.2.2) ∧ (s_.2.2.2 ≠ gb406) ∧ (gb407 ≠ s_.2.2.2) ∧ (s_.2.2.2 ≠ gb407) ∧ (Below w.heap.size w w')) ?_ ?_
            rotate_left
            ·intro hJ2_5_7_14
             refine join_ (σ := Value × Value × Value) 9 #[true, true, true, true, true, true, true, true, false, false, false, false, false, false, false, false, false] (fun s_ => [(28, s_.1), (31, s_.2.1), (33, s_.2.2)]) (fun s_ w' => (w'.cell? ⟨gb405, 0, none⟩ = some (.int .i64 a0_0) ∧ w'.cell? ⟨gb405, 1, none⟩ = some (.slice A0_1 l0_1.length c0_1) ∧ w'.cell? ⟨gb406, 0, none⟩ = some (.int .i64 a1_0) ∧ w'.cell? ⟨gb406, 1, none⟩ = some (.int .i64 a1_1) ∧ w'.cell? ⟨gb406, 2, none⟩ = some (.int .i64 a1_2) ∧ w'.cell? ⟨gb406, 3, none⟩ = some (.int .i64 a1_3)) ∧ (Kd.R k45 45 w' w.heap.size (fun k_ => some k_ ≠ (s_.2.2 : Value).ownBlock ∧ k_ ≠ gb406) s_.2.1 y414) ∧ (Kd.R k45 45 w' w.heap.size (fun k_ => some k_ ≠ (s_.2.1 : Value).ownBlock ∧ k_ ≠ gb406) s_.2.2 y417) ∧ (w'.heap[gb405]? = some (.cells #[.int .i64 a0_0, .slice A0_1 l0_1.length c0_1] 26 (0, 0))) ∧ (w'.heap[gb406]? = some (.cells #[.int .i64 a1_0, .int .i64 a1_1, .int .i64 a1_2, .int .i64 a1_3] 45 (0, 0))) ∧ (w'.heap[gb407]? = some (.cells #[.int .i64 0, .slice none 0 0] 26 (0, 0))) ∧ (Below w.heap.size w w')) ?_ ?_
             rotate_left
             ·intro hJ2_5_7
              refine join_ (σ := Value × Value × Nat) 9 #[true, true, true, true, true, true, true, false, false, false, false, false, false, false, true, false, false] (fun s_ => [(28, s_.1), (31, s_.2.1), (6, .pointer (some ⟨s_.2.2, 0, none⟩))]) (fun s_ w' => (w'.cell? ⟨gb405, 0, none⟩ = some (.int .i64 a0_0) ∧ w'.cell? ⟨gb405, 1, none⟩ = some (.slice A0_1 l0_1.length c0_1) ∧ w'.cell? ⟨gb406, 0, none⟩ = some (.int .i64 a1_0) ∧ w'.cell? ⟨gb406, 1, none⟩ = some (.int .i64 a1_1) ∧ w'.cell? ⟨gb406, 2, none⟩ = some (.int .i64 a1_2) ∧ w'.cell? ⟨gb406, 3, none⟩ = some (.int .i64 a1_3)) ∧ (Kd.R k45 45 w' w.heap.size (fun k_ => k_ ≠ gb406) s_.2.1 y414) ∧ (w'.heap[gb405]? = some (.cells #[.int .i64 a0_0, .slice A0_1 l0_1.length c0_1] 26 (0, 0))) ∧ (w'.heap[gb406]? = some (.cells #[.int .i64 a1_0, .int .i64 a1_1, .int .i64 a1_2, .int .i64 a1_3] 45 (0, 0))) ∧ (w'.heap[gb407]? = some (.cells #[.int .i64 0, .slice none 0 0] 26 (0, 0))) ∧ (w'.heap[s_.2.2]? = some (.cells #[.int .i64 0, .slice none 0 0] 26 (0, 0))) ∧ (w.heap.size ≤ s_.2.2) ∧ (w.heap.size ≤ s_.2.2) ∧ (gb405 ≠ s_.2.2) ∧ (s_.2.2 ≠ gb405) ∧ (gb406 ≠ s_.2.2) ∧ (s_.2.2 ≠ gb406) ∧ (gb407 ≠ s_.2.2) ∧ (s_.2.2 ≠ gb407) ∧ (Below w.heap.size w w')) ?_ ?_
              rotate_left
              ·intro hJ2_5_14
               refine join_ (σ := Value × Value × Nat) 9 #[true, true, true, true, true, false, true, true, false, false, false, false, false, false, true, false, false] (fun s_ => [(28, s_.1), (33, s_.2.1), (6, .pointer (some ⟨s_.2.2, 0, none⟩))]) (fun s_ w' => (w'.cell? ⟨gb405, 0, none⟩ = some (.int .i64 a0_0) ∧ w'.cell? ⟨gb405, 1, none⟩ = some (.slice A0_1 l0_1.length c0_1) ∧ w'.cell? ⟨gb406, 0, none⟩ = some (.int .i64 a1_0) ∧ w'.cell? ⟨gb406, 1, none⟩ = some (.int .i64 a1_1) ∧ w'.cell? ⟨gb406, 2, none⟩ = some (.int .i64 a1_2) ∧ w'.cell? ⟨gb406, 3, none⟩ = some (.int .i64 a1_3)) ∧ (Kd.R k45 45 w' w.heap.size (fun k_ => some k_ ≠ (s_.2.1 : Value).ownBlock ∧ k_ ≠ gb406) s_.1 y411) ∧ (Kd.R k45 45 w' w.heap.size (fun k_ => some k_ ≠ (s_.1 : Value).ownBlock ∧ k_ ≠ gb406) s_.2.1 y417) ∧ (w'.heap[gb405]? = some (.cells #[.int .i64 a0_0, .slice A0_1 l0_1.length c0_1] 26 (0, 0))) ∧ (w'.heap[gb406]? = some (.cells #[.int .i64 a1_0, .int .i64 a1_1, .int .i64 a1_2, .int .i64 a1_3] 45 (0, 0))) ∧ (w'.heap[gb407]? = some (.cells #[.int .i64 0, .slice none 0 0] 26 (0, 0))) ∧ (w'.heap[s_.2.2]? = some (.cells #[.int .i64 0, .slice none 0 0] 26 (0, 0))) ∧ (w.heap.size ≤ s_.2.2) ∧ (w.heap.size ≤ s_.2.2) ∧ (gb405 ≠ s_.2.2) ∧ (s_.2.2 ≠ gb405) ∧ (gb406 ≠ s_.2.2) ∧ (s_.2.2 ≠ gb406) ∧ (gb407 ≠ s_.2.2) ∧ (s_.2.2 ≠ gb407) ∧ (Below w.heap.size w w')) ?_ ?_
               rotate_left
               ·intro hJ2_7_14
                refine join_ (σ := Value × Value) 10 #[true, true, true, true, true, true, true, false, false, false, false, false, false, false, false, false, false] (fun s_ => [(28, s_.1), (31, s_.2)]) (fun s_ w' => (w'.cell? ⟨gb405, 0, none⟩ = some (.int .i64 a0_0) ∧ w'.cell? ⟨gb405, 1, none⟩ = some (.slice A0_1 l0_1.length c0_1) ∧ w'.cell? ⟨gb406, 0, none⟩ = some (.int .i64 a1_0) ∧ w'.cell? ⟨gb406, 1, none⟩ = some (.int .i64 a1_1) ∧ w'.cell? ⟨gb406, 2, none⟩ = some (.int .i64 a1_2) ∧ w'.cell? ⟨gb406, 3, none⟩ = some (.int .i64 a1_3)) ∧ (Kd.R k45 45 w' w.heap.size (fun k_ => k_ ≠ gb406) s_.2 y414) ∧ (w'.heap[gb405]? = some (.cells #[.int .i64 a0_0, .slice A0_1 l0_1.length c0_1] 26 (0, 0))) ∧ (w'.heap[gb406]? = some (.cells #[.int .i64 a1_0, .int .i64 a1_1, .int .i64 a1_2, .int .i64 a1_3] 45 (0, 0))) ∧ (w'.heap[gb407]? = some (.cells #[.int .i64 0, .slice none 0 0] 26 (0, 0))) ∧ (Below w.heap.size w w')) ?_ ?_
                rotate_left
                ·intro hJ2_5
                 refine join_ (σ := Value × Value) 10 #[true, true, true, true, true, false, true, true, false, false, false, false, false, false, false, false, false] (fun s_ => [(28, s_.1), (33, s_.2)]) (fun s_ w' => (w'.cell? ⟨gb405, 0, none⟩ = some (.int .i64 a0_0) ∧ w'.cell? ⟨gb405, 1, none⟩ = some (.slice A0_1 l0_1.length c0_1) ∧ w'.cell? ⟨gb406, 0, none⟩ = some (.int .i64 a1_0) ∧ w'.cell? ⟨gb406, 1, none⟩ = some (.int .i64 a1_1) ∧ w'.cell? ⟨gb406, 2, none⟩ = some (.int .i64 a1_2) ∧ w'.cell? ⟨gb406, 3, none⟩ = some (.int .i64 a1_3)) ∧ (Kd.R k45 45 w' w.heap.size (fun k_ => some k_ ≠ (s_.2 : Value).ownBlock ∧ k_ ≠ gb406) s_.1 y411) ∧ (Kd.R k45 45 w' w.heap.size (fun k_ => some k_ ≠ (s_.1 : Value).ownBlock ∧ k_ ≠ gb406) s_.2 y417) ∧ (w'.heap[gb405]? = some (.cells #[.int .i64 a0_0, .slice A0_1 l0_1.length c0_1] 26 (0, 0))) ∧ (w'.heap[gb406]? = some (.cells #[.int .i64 a1_0, .int .i64 a1_1, .int .i64 a1_2, .int .i64 a1_3] 45 (0, 0))) ∧ (w'.heap[gb407]? = some (.cells #[.int .i64 0, .slice none 0 0] 26 (0, 0))) ∧ (Below w.heap.size w w')) ?_ ?_
                 rotate_left
                 ·intro hJ2_7
                  refine join_ (σ := Value × Nat) 10 #[true, true, true, true, true, false, true, false, false, false, false, false, false, false, true, false, false] (fun s_ => [(28, s_.1), (6, .pointer (some ⟨s_.2, 0, none⟩))]) (fun s_ w' => (w'.cell? ⟨gb405, 0, none⟩ = some (.int .i64 a0_0) ∧ w'.cell? ⟨gb405, 1, none⟩ = some (.slice A0_1 l0_1.length c0_1) ∧ w'.cell? ⟨gb406, 0, none⟩ = some (.int .i64 a1_0) ∧ w'.cell? ⟨gb406, 1, none⟩ = some (.int .i64 a1_1) ∧ w'.cell? ⟨gb406, 2, none⟩ = some (.int .i64 a1_2) ∧ w'.cell? ⟨gb406, 3, none⟩ = some (.int .i64 a1_3)) ∧ (Kd.R k45 45 w' w.heap.size (fun k_ => k_ ≠ gb406) s_.1 y411) ∧ (w'.heap[gb405]? = some (.cells #[.int .i64 a0_0, .slice A0_1 l0_1.length c0_1] 26 (0, 0))) ∧ (w'.heap[gb406]? = some (.cells #[.int .i64 a1_0, .int .i64 a1_1, .int .i64 a1_2, .int .i64 a1_3] 45 (0, 0))) ∧ (w'.heap[gb407]? = some (.cells #[.int .i64 0, .slice none 0 0] 26 (0, 0))) ∧ (w'.heap[s_.2]? = some (.cells #[.int .i64 0, .slice none 0 0] 26 (0, 0))) ∧ (w.heap.size ≤ s_.2) ∧ (w.heap.size ≤ s_.2) ∧ (gb405 ≠ s_.2) ∧ (s_.2 ≠ gb405) ∧ (gb406 ≠ s_.2) ∧ (s_.2 ≠ gb406) ∧ (gb407 ≠ s_.2) ∧ (s_.2 ≠ gb407) ∧ (Below w.heap.size w w')) ?_ ?_
                  rotate_left
                  ·intro hJ2_14
                   refine join_ (σ := Value × Nat) 10 #[true, true, false, true, true, false, true, true, false, false, false, false, false, false, true, false, false] (fun s_ => [(33, s_.1), (6, .pointer (some ⟨s_.2, 0, none⟩))]) (fun s_ w' => (w'.cell? ⟨gb405, 0, none⟩ = some (.int .i64 a0_0) ∧ w'.cell? ⟨gb405, 1, none⟩ = some (.slice A0_1 l0_1.length c0_1) ∧ w'.cell? ⟨gb406, 0, none⟩ = some (.int .i64 a1_0) ∧ w'.cell? ⟨gb406, 1, none⟩ = some (.int .i64 a1_1) ∧ w'.cell? ⟨gb406, 2, none⟩ = some (.int .i64 a1_2) ∧ w'.cell? ⟨gb406, 3, none⟩ = some (.int .i64 a1_3)) ∧ (Kd.R k45 45 w' w.heap.size (fun k_ => k_ ≠ gb406) s_.1 y417) ∧ (w'.heap[gb405]? = some (.cells #[.int .i64 a0_0, .slice A0_1 l0_1.length c0_1] 26 (0, 0))) ∧ (w'.heap[gb406]? = some (.cells #[.int .i64 a1_0, .int .i64 a1_1, .int .i64 a1_2, .int .i64 a1_3] 45 (0, 0))) ∧ (w'.heap[gb407]? = some (.cells #[.int .i64 0, .slice none 0 0] 26 (0, 0))) ∧ (w'.heap[s_.2]? = some (.cells #[.int .i64 0, .slice none 0 0] 26 (0, 0))) ∧ (w.heap.size ≤ s_.2) ∧ (w.heap.size ≤ s_.2) ∧ (gb405 ≠ s_.2) ∧ (s_.2 ≠ gb405) ∧ (gb406 ≠ s_.2) ∧ (s_.2 ≠ gb406) ∧ (gb407 ≠ s_.2) ∧ (s_.2 ≠ gb407) ∧ (Below w.heap.size w w')) ?_ ?_
                   rotate_left
                   ·intro hJ7_14
                    refine join_ (σ := Value) 11 #[true, true, true, true, true, false, true, false, false, false, false, false, false, false, false, false, false] (fun s_ => [(28, s_)]) (fun s_ w' => (w'.cell? ⟨gb405, 0, none⟩ = some (.int .i64 a0_0) ∧ w'.cell? ⟨gb405, 1, none⟩ = some (.slice A0_1 l0_1.length c0_1) ∧ w'.cell? ⟨gb406, 0, none⟩ = some (.int .i64 a1_0) ∧ w'.cell? ⟨gb406, 1, none⟩ = some (.int .i64 a1_1) ∧ w'.cell? ⟨gb406, 2, none⟩ = some (.int .i64 a1_2) ∧ w'.cell? ⟨gb406, 3, none⟩ = some (.int .i64 a1_3)) ∧ (Kd.R k45 45 w' w.heap.size (fun k_ => k_ ≠ gb406) s_ y411) ∧ (w'.heap[gb405]? = some (.cells #[.int .i64 a0_0, .slice A0_1 l0_1.length c0_1] 26 (0, 0))) ∧ (w'.heap[gb406]? = some (.cells #[.int .i64 a1_0, .int .i64 a1_1, .int .i64 a1_2, .int .i64 a1_3] 45 (0, 0))) ∧ (w'.heap[gb407]? = some (.cells #[.int .i64 0, .slice none 0 0] 26 (0, 0))) ∧ (Below w.heap.size w w')) ?_ ?_
                    rotate_left
                    ·intro hJ2
                     refine join_ (σ := Value) 11 #[true, true, false, true, true, false, true, true, false, false, false, false, false, false, false, false, false] (fun s_ => [(33, s_)]) (fun s_ w' => (w'.cell? ⟨gb405, 0, none⟩ = some (.int .i64 a0_0) ∧ w'.cell? ⟨gb405, 1, none⟩ = some (.slice A0_1 l0_1.length c0_1) ∧ w'.cell? ⟨gb406, 0, none⟩ = some (.int .i64 a1_0) ∧ w'.cell? ⟨gb406, 1, none⟩ = some (.int .i64 a1_1) ∧ w'.cell? ⟨gb406, 2, none⟩ = some (.int .i64 a1_2) ∧ w'.cell? ⟨gb406, 3, none⟩ = some (.int .i64 a1_3)) ∧ (Kd.R k45 45 w' w.heap.size (fun k_ => k_ ≠ gb406) s_ y417) ∧ (w'.heap[gb405]? = some (.cells #[.int .i64 a0_0, .slice A0_1 l0_1.length c0_1] 26 (0, 0))) ∧ (w'.heap[gb406]? = some (.cells #[.int .i64 a1_0, .int .i64 a1_1, .int .i64 a1_2, .int .i64 a1_3] 45 (0, 0))) ∧ (w'.heap[gb407]? = some (.cells #[.int .i64 0, .slice none 0 0] 26 (0, 0))) ∧ (Below w.heap.size w w')) ?_ ?_
                     rotate_left
                     ·intro hJ7
                      refine join_ (σ := Nat) 11 #[true, true, false, true, true, false, true, false, false, false, false, false, false, false, true, false, false] (fun s_ => [(6, .pointer (some ⟨s_, 0, none⟩))]) (fun s_ w' => (w'.cell? ⟨gb405, 0, none⟩ = some (.int .i64 a0_0) ∧ w'.cell? ⟨gb405, 1, none⟩ = some (.slice A0_1 l0_1.length c0_1) ∧ w'.cell? ⟨gb406, 0, none⟩ = some (.int .i64 a1_0) ∧ w'.cell? ⟨gb406, 1, none⟩ = some (.int .i64 a1_1) ∧ w'.cell? ⟨gb406, 2, none⟩ = some (.int .i64 a1_2) ∧ w'.cell? ⟨gb406, 3, none⟩ = some (.int .i64 a1_3)) ∧ (w'.heap[gb405]? = some (.cells #[.int .i64 a0_0, .slice A0_1 l0_1.length c0_1] 26 (0, 0))) ∧ (w'.heap[gb406]? = some (.cells #[.int .i64 a1_0, .int .i64 a1_1, .int .i64 a1_2, .int .i64 a1_3] 45 (0, 0))) ∧ (w'.heap[gb407]? = some (.cells #[.int .i64 0, .slice none 0 0] 26 (0, 0))) ∧ (w'.heap[s_]? = some (.cells #[.int .i64 0, .slice none 0 0] 26 (0, 0))) ∧ (w.heap.size ≤ s_) ∧ (w.heap.size ≤ s_) ∧ (gb405 ≠ s_) ∧ (s_ ≠ gb405) ∧ (gb406 ≠ s_) ∧ (s_ ≠ gb406) ∧ (gb407 ≠ s_) ∧ (s_ ≠ gb407) ∧ (Below w.heap.size w w')) ?_ ?_
                      rotate_left
                      ·intro hJ14
                       refine three_ (i := 2) (j := 7) (k := 14) (Ni := some 28) (Nj := some 33) (Nk := some 6) #[true, true, true, true, true, false, true, false, false, false, false, false, false, false, false, false, false] #[true, true, false, true, true, false, true, true, false, false, false, false, false, false, false, false, false] #[true, true, false, true, true, false, true, false, false, false, false, false, false, false, true, false, false] rfl rfl rfl rfl rfl rfl (three_of HT_.out (by kernel_rfl)) (by decide) (by decide) (by decide) (fun K hK => ?_) (fun K hK => ?_) (fun K hK => ?_)
                       ·skip
                        refine Kd.R_lit_step k45 _ 45 ?hg (N := 28) ?hd (xs := ([] : List (S45))) (inner := []) (ok := fun _ => True) (okp := fun _ => True) ?hr ?hp (fun _ hk => hk) trivial (Below.refl _ _) (Nat.le_refl _) (by simp) ?_; (case hd => rfl); (case hg => rfl); (case hr => first | (go_simp; done) | (go_simp; rfl)); (case hp => exact (Reps.none _ _))
                        intro v412 w43 ho44 hb hg_ hnew_
                        clear hg_ hnew_
                        (first | rw [← Ny411.out] at ho44 | (simp only [Int.reduceToNat] at ho44; rw [← Ny411.out] at ho44))
                        have n0_ := Aside0.mk (Kd.R_lower (Kd.R_newB ho44 (g := gb406) (o := .cells #[.int .i64 a1_0, .int .i64 a1_1, .int .i64 a1_2, .int .i64 a1_3] 45 (0, 0)) (by (with_reducible repeat (first | apply bN_ | apply bD_ | apply bA_)); exact BK406.out)) (below_size (by repeat (first | (with_reducible first | exact HB.out | apply lA_ | apply lN_ | apply lD_ | refine lS_ ?_ GE405.out | refine lS_ ?_ GE406.out | refine lS_ ?_ GE407.out) | exact HB.out))))
                        have n1_ := Aside0.mk (blk_below (g := gb405) (o := .cells #[.int .i64 a0_0, .slice A0_1 l0_1.length c0_1] 26 (0, 0)) (by (with_reducible repeat (first | apply bN_ | apply bD_ | apply bA_)); exact BK405.out) hb)
                        have n2_ := Aside0.mk (blk_below (g := gb406) (o := .cells #[.int .i64 a1_0, .int .i64 a1_1, .int .i64 a1_2, .int .i64 a1_3] 45 (0, 0)) (by (with_reducible repeat (first | apply bN_ | apply bD_ | apply bA_)); exact BK406.out) hb)
                        have n3_ := Aside0.mk (blk_below (g := gb407) (o := .cells #[.int .i64 0, .slice none 0 0] 26 (0, 0)) (by (with_reducible repeat (first | apply bN_ | apply bD_ | apply bA_)); exact BK407.out) hb)
                        have n4_ := Aside0.mk (below_step (by repeat (first | (with_reducible first | exact HB.out | apply lA_ | apply lN_ | apply lD_ | refine lS_ ?_ GE405.out | refine lS_ ?_ GE406.out | refine lS_ ?_ GE407.out) | exact HB.out)) hb)
                        clear BK405
                        clear BK406
                        clear BK407
                        clear HB
                        have HO413 := n0_
                        have BK405 := n1_
                        have BK406 := n2_
                        have BK407 := n3_
                        have HB := n4_
                        clear n0_ n1_ n2_ n3_ n4_
                        clear hb ho44
                        refine hK.out _ _ ⟨(blk_cell BK405.out 0).trans rfl, (blk_cell BK405.out 1).trans rfl, (blk_cell BK406.out 0).trans rfl, (blk_cell BK406.out 1).trans rfl, (blk_cell BK406.out 2).trans rfl, (blk_cell BK406.out 3).trans rfl⟩ (fun hHeld => ?_)
                        clear hK K
                        refine norm_ (a' := ?_) ?_ ?_
                        rotate_left
                        ·show Act.put _ (some 28) _ = _
                         simp only [Act.put, q1_, q2_, q3_, i64_w, i32_w]
                         rfl
                        exact norm_ (by first | (simp only [putAll, Act.put, q1_, q2_, q3_]; done) | (simp only [putAll, Act.put, q1_, q2_, q3_]; rfl)) (hJ2 (v412) _ ⟨hHeld, (by (with_reducible repeat (first | apply Kd.R_alloc | apply Kd.R_drewN | apply Kd.R_drew)); exact Kd.R_mono HO413.out (fun _ hk => hk.2)), (by (with_reducible repeat (first | apply bN_ | apply bD_ | apply bA_)); exact BK405.out), (by (with_reducible repeat (first | apply bN_ | apply bD_ | apply bA_)); exact BK406.out), (by (with_reducible repeat (first | apply bN_ | apply bD_ | apply bA_)); exact BK407.out), (by repeat (first | (with_reducible first | exact HB.out | apply lA_ | apply lN_ | apply lD_ | refine lS_ ?_ GE405.out | refine lS_ ?_ GE406.out | refine lS_ ?_ GE407.out) | exact HB.out))⟩)
                       ·skip
                        refine Kd.R_lit_step k45 _ 45 ?hg (N := 33) ?hd (xs := ([(⟨a1_0, a1_1, a1_2, a1_3⟩ : S45)] : List (S45))) (inner := [.int .i64 a1_0, .int .i64 a1_1, .int .i64 a1_2, .int .i64 a1_3]) (ok := fun _ => True) (okp := fun _ => True) ?hr ?hp (fun _ hk => hk) trivial (Below.refl _ _) (Nat.le_refl _) (by simp) ?_; (case hd => rfl); (case hg => rfl); (case hr => first | (go_simp; done) | (go_simp; rfl)); (case hp => exact (Reps.c4 (show Kd.M k45 _ _ _ (⟨a1_0, a1_1, a1_2, a1_3⟩ : S45) [.int .i64 a1_0, .int .i64 a1_1, .int .i64 a1_2, .int .i64 a1_3] from (k45_mkM _ _ _ (⟨a1_0, a1_1, a1_2, a1_3⟩ : S45) )) (Reps.none _ _)))
                        intro v418 w43 ho44 hb hg_ hnew_
                        clear hg_ hnew_
                        (first | rw [← Ny417.out] at ho44 | (simp only [Int.reduceToNat] at ho44; rw [← Ny417.out] at ho44))
                        have n0_ := Aside0.mk (Kd.R_lower (Kd.R_newB ho44 (g := gb406) (o := .cells #[.int .i64 a1_0, .int .i64 a1_1, .int .i64 a1_2, .int .i64 a1_3] 45 (0, 0)) (by (with_reducible repeat (first | apply bN_ | apply bD_ | apply bA_)); exact BK406.out)) (below_size (by repeat (first | (with_reducible first | exact HB.out | apply lA_ | apply lN_ | apply lD_ | refine lS_ ?_ GE405.out | refine lS_ ?_ GE406.out | refine lS_ ?_ GE407.out) | exact HB.out))))
                        have n1_ := Aside0.mk (blk_below (g := gb405) (o := .cells #[.int .i64 a0_0, .slice A0_1 l0_1.length c0_1] 26 (0, 0)) (by (with_reducible repeat (first | apply bN_ | apply bD_ | apply bA_)); exact BK405.out) hb)
                        have n2_ := Aside0.mk (blk_below (g := gb406) (o := .cells #[.int .i64 a1_0, .int .i64 a1_1, .int .i64 a1_2, .int .i64 a1_3] 45 (0, 0)) (by (with_reducible repeat (first | apply bN_ | apply bD_ | apply bA_)); exact BK406.out) hb)
                        have n3_ := Aside0.mk (blk_below (g := gb407) (o := .cells #[.int .i64 0, .slice none 0 0] 26 (0, 0)) (by (with_reducible repeat (first | apply bN_ | apply bD_ | apply bA_)); exact BK407.out) hb)
                        have n4_ := Aside0.mk (below_step (by repeat (first | (with_reducible first | exact HB.out | apply lA_ | apply lN_ | apply lD_ | refine lS_ ?_ GE405.out | refine lS_ ?_ GE406.out | refine lS_ ?_ GE407.out) | exact HB.out)) hb)
                        clear BK405
                        clear BK406
                        clear BK407
                        clear HB
                        have HO419 := n0_
                        have BK405 := n1_
                        have BK406 := n2_
                        have BK407 := n3_
                        have HB := n4_
                        clear n0_ n1_ n2_ n3_ n4_
                        clear hb ho44
                        refine hK.out _ _ ⟨(blk_cell BK405.out 0).trans rfl, (blk_cell BK405.out 1).trans rfl, (blk_cell BK406.out 0).trans rfl, (blk_cell BK406.out 1).trans rfl, (blk_cell BK406.out 2).trans rfl, (blk_cell BK406.out 3).trans rfl⟩ (fun hHeld => ?_)
                        clear hK K
                        refine norm_ (a' := ?_) ?_ ?_
                        rotate_left
                        ·show Act.put _ (some 33) _ = _
                         simp only [Act.put, q1_, q2_, q3_, i64_w, i32_w]
                         rfl
                        exact norm_ (by first | (simp only [putAll, Act.put, q1_, q2_, q3_]; done) | (simp only [putAll, Act.put, q1_, q2_, q3_]; rfl)) (hJ7 (v418) _ ⟨hHeld, (by (with_reducible repeat (first | apply Kd.R_alloc | apply Kd.R_drewN | apply Kd.R_drew)); exact Kd.R_mono HO419.out (fun _ hk => hk.2)), (by (with_reducible repeat (first | apply bN_ | apply bD_ | apply bA_)); exact BK405.out), (by (with_reducible repeat (first | apply bN_ | apply bD_ | apply bA_)); exact BK406.out), (by (with_reducible repeat (first | apply bN_ | apply bD_ | apply bA_)); exact BK407.out), (by repeat (first | (with_reducible first | exact HB.out | apply lA_ | apply lN_ | apply lD_ | refine lS_ ?_ GE405.out | refine lS_ ?_ GE406.out | refine lS_ ?_ GE407.out) | exact HB.out))⟩)
                       ·skip
                        refine box_step ?hg (N := 6) ?hd (cs := #[.int .i64 0, .slice none 0 0]) (t := 26) ?hr ?_; (case hd => rfl); (case hg => rfl); (case hr => first | (go_simp; done) | (go_simp; rfl))
                        intro gb432 hg w43 hbox hb
                        have n0_ := Aside0.mk (blk_below (g := gb405) (o := .cells #[.int .i64 a0_0, .slice A0_1 l0_1.length c0_1] 26 (0, 0)) (by (with_reducible repeat (first | apply bN_ | apply bD_ | apply bA_)); exact BK405.out) hb)
                        have n1_ := Aside0.mk (blk_below (g := gb406) (o := .cells #[.int .i64 a1_0, .int .i64 a1_1, .int .i64 a1_2, .int .i64 a1_3] 45 (0, 0)) (by (with_reducible repeat (first | apply bN_ | apply bD_ | apply bA_)); exact BK406.out) hb)
                        have n2_ := Aside0.mk (blk_below (g := gb407) (o := .cells #[.int .i64 0, .slice none 0 0] 26 (0, 0)) (by (with_reducible repeat (first | apply bN_ | apply bD_ | apply bA_)); exact BK407.out) hb)
                        have n3_ := Aside0.mk (below_step (by repeat (first | (with_reducible first | exact HB.out | apply lA_ | apply lN_ | apply lD_ | refine lS_ ?_ GE405.out | refine lS_ ?_ GE406.out | refine lS_ ?_ GE407.out) | exact HB.out)) hb)
                        have n4_ := Aside0.mk (hbox)
                        have n5_ := Aside0.mk ((by rw [hg]; exact (below_size (by repeat (first | (with_reducible first | exact HB.out | apply lA_ | apply lN_ | apply lD_ | refine lS_ ?_ GE405.out | refine lS_ ?_ GE406.out | refine lS_ ?_ GE407.out) | exact HB.out))) : w.heap.size ≤ gb432))
                        have n6_ := Aside0.mk ((by rw [hg]; exact (below_size (by repeat (first | (with_reducible first | exact HB.out | apply lA_ | apply lN_ | apply lD_ | refine lS_ ?_ GE405.out | refine lS_ ?_ GE406.out | refine lS_ ?_ GE407.out) | exact HB.out))) : w.heap.size ≤ gb432))
                        have n7_ := Aside0.mk ((by rw [hg]; exact Nat.ne_of_lt (blk_lt (g := gb405) (o := .cells #[.int .i64 a0_0, .slice A0_1 l0_1.length c0_1] 26 (0, 0)) (by (with_reducible repeat (first | apply bN_ | apply bD_ | apply bA_)); exact BK405.out)) : gb405 ≠ gb432))
                        have n8_ := Aside0.mk ((by rw [hg]; exact Nat.ne_of_gt (blk_lt (g := gb405) (o := .cells #[.int .i64 a0_0, .slice A0_1 l0_1.length c0_1] 26 (0, 0)) (by (with_reducible repeat (first | apply bN_ | apply bD_ | apply bA_)); exact BK405.out)) : gb432 ≠ gb405))
                        have n9_ := Aside0.mk ((by rw [hg]; exact Nat.ne_of_lt (blk_lt (g := gb406) (o := .cells #[.int .i64 a1_0, .int .i64 a1_1, .int .i64 a1_2, .int .i64 a1_3] 45 (0, 0)) (by (with_reducible repeat (first | apply bN_ | apply bD_ | apply bA_)); exact BK406.out)) : gb406 ≠ gb432))
                        have n10_ := Aside0.mk ((by rw [hg]; exact Nat.ne_of_gt (blk_lt (g := gb406) (o := .cells #[.int .i64 a1_0, .int .i64 a1_1, .int .i64 a1_2, .int .i64 a1_3] 45 (0, 0)) (by (with_reducible repeat (first | apply bN_ | apply bD_ | apply bA_)); exact BK406.out)) : gb432 ≠ gb406))
                        have n11_ := Aside0.mk ((by rw [hg]; exact Nat.ne_of_lt (blk_lt (g := gb407) (o := .cells #[.int .i64 0, .slice none 0 0] 26 (0, 0)) (by (with_reducible repeat (first | apply bN_ | apply bD_ | apply bA_)); exact BK407.out)) : gb407 ≠ gb432))
                        have n12_ := Aside0.mk ((by rw [hg]; exact Nat.ne_of_gt (blk_lt (g := gb407) (o := .cells #[.int .i64 0, .slice none 0 0] 26 (0, 0)) (by (with_reducible repeat (first | apply bN_ | apply bD_ | apply bA_)); exact BK407.out)) : gb432 ≠ gb407))
                        clear BK405
                        clear BK406
                        clear BK407
                        clear HB
                        have BK405 := n0_
                        have BK406 := n1_
                        have BK407 := n2_
                        have HB := n3_
                        have BK432 := n4_
                        have GW432 := n5_
                        have GE432 := n6_
                        have NB405_432 := n7_
                        have NB432_405 := n8_
                        have NB406_432 := n9_
                        have NB432_406 := n10_
                        have NB407_432 := n11_
                        have NB432_407 := n12_
                        clear n0_ n1_ n2_ n3_ n4_ n5_ n6_ n7_ n8_ n9_ n10_ n11_ n12_
                        clear hb hbox hg
                        refine hK.out _ _ ⟨(blk_cell BK405.out 0).trans rfl, (blk_cell BK405.out 1).trans rfl, (blk_cell BK406.out 0).trans rfl, (blk_cell BK406.out 1).trans rfl, (blk_cell BK406.out 2).trans rfl, (blk_cell BK406.out 3).trans rfl⟩ (fun hHeld => ?_)
                        clear hK K
                        refine norm_ (a' := ?_) ?_ ?_
                        rotate_left
                        ·show Act.put _ (some 6) _ = _
                         simp only [Act.put, q1_, q2_, q3_, i64_w, i32_w]
                         rfl
                        exact norm_ (by first | (simp only [putAll, Act.put, q1_, q2_, q3_]; done) | (simp only [putAll, Act.put, q1_, q2_, q3_]; rfl)) (hJ14 (gb432) _ ⟨hHeld, (by (with_reducible repeat (first | apply bN_ | apply bD_ | apply bA_)); exact BK405.out), (by (with_reducible repeat (first | apply bN_ | apply bD_ | apply bA_)); exact BK406.out), (by (with_reducible repeat (first | apply bN_ | apply bD_ | apply bA_)); exact BK407.out), (by (with_reducible repeat (first | apply bN_ | apply bD_ | apply bA_)); exact BK432.out), GW432.out, GE432.out, NB405_432.out, NB432_405.out, NB406_432.out, NB432_406.out, NB407_432.out, NB432_407.out, (by repeat (first | (with_reducible first | exact HB.out | apply lA_ | apply lN_ | apply lD_ | refine lS_ ?_ GE405.out | refine lS_ ?_ GE406.out | refine lS_ ?_ GE407.out | refine lS_ ?_ GE432.out) | exact HB.out))⟩)
                      ·skip
                       rintro gb432 w44 ⟨hS_, h0_, h1_, h2_, h3_, h4_, h5_, h6_, h7_, h8_, h9_, h10_, h11_, h12_⟩
                       have n0_ : Aside0 (w44.heap[gb405]? = some (.cells #[.int .i64 a0_0, .slice A0_1 l0_1.length c0_1] 26 (0, 0))) := ⟨h0_⟩
                       have n1_ : Aside0 (w44.heap[gb406]? = some (.cells #[.int .i64 a1_0, .int .i64 a1_1, .int .i64 a1_2, .int .i64 a1_3] 45 (0, 0))) := ⟨h1_⟩
                       have n2_ : Aside0 (w44.heap[gb407]? = some (.cells #[.int .i64 0, .slice none 0 0] 26 (0, 0))) := ⟨h2_⟩
                       have n3_ : Aside0 (w44.heap[gb432]? = some (.cells #[.int .i64 0, .slice none 0 0] 26 (0, 0))) := ⟨h3_⟩
                       have n4_ : Aside0 (w.heap.size ≤ gb432) := ⟨h4_⟩
                       have n5_ : Aside0 (w.heap.size ≤ gb432) := ⟨h5_⟩
                       have n6_ : Aside0 (gb405 ≠ gb432) := ⟨h6_⟩
                       have n7_ : Aside0 (gb432 ≠ gb405) := ⟨h7_⟩
                       have n8_ : Aside0 (gb406 ≠ gb432) := ⟨h8_⟩
                       have n9_ : Aside0 (gb432 ≠ gb406) := ⟨h9_⟩
                       have n10_ : Aside0 (gb407 ≠ gb432) := ⟨h10_⟩
                       have n11_ : Aside0 (gb432 ≠ gb407) := ⟨h11_⟩
                       have n12_ : Aside0 (Below w.heap.size w w44) := ⟨h12_⟩
                       clear BK405
                       clear BK406
                       clear BK407
                       clear HB
                       clear h0_ h1_ h2_ h3_ h4_ h5_ h6_ h7_ h8_ h9_ h10_ h11_ h12_
                       have BK405 := n0_
                       have BK406 := n1_
                       have BK407 := n2_
                       have BK432 := n3_
                       have GW432 := n4_
                       have GE432 := n5_
                       have NB405_432 := n6_
                       have NB432_405 := n7_
                       have NB406_432 := n8_
                       have NB432_406 := n9_
                       have NB407_432 := n10_
                       have NB432_407 := n11_
                       have HB := n12_
                       clear n0_ n1_ n2_ n3_ n4_ n5_ n6_ n7_ n8_ n9_ n10_ n11_ n12_
                       have hHeld : w44.cell? ⟨gb405, 0, none⟩ = some (.int .i64 a0_0) ∧ w44.cell? ⟨gb405, 1, none⟩ = some (.slice A0_1 l0_1.length c0_1) ∧ w44.cell? ⟨gb406, 0, none⟩ = some (.int .i64 a1_0) ∧ w44.cell? ⟨gb406, 1, none⟩ = some (.int .i64 a1_1) ∧ w44.cell? ⟨gb406, 2, none⟩ = some (.int .i64 a1_2) ∧ w44.cell? ⟨gb406, 3, none⟩ = some (.int .i64 a1_3) := hS_
                       refine norm_ (a' := ?_) ?_ ?_
                       rotate_left
                       ·simp only [putAll, Act.put, q1_, q2_, q3_]
                        rfl
                       refine two_ (i := 2) (j := 7) (Ni := some 28) (Nj := some 33) #[true, true, true, true, true, false, true, false, false, false, false, false, false, false, true, false, false] #[true, true, false, true, true, false, true, true, false, false, false, false, false, false, true, false, false] rfl rfl rfl rfl (two_of HT_.out (by kernel_rfl)) (by decide) (by decide) (fun K hK => ?_) (fun K hK => ?_)
                       ·skip
                        refine Kd.R_lit_step k45 _ 45 ?hg (N := 28) ?hd (xs := ([] : List (S45))) (inner := []) (ok := fun _ => True) (okp := fun _ => True) ?hr ?hp (fun _ hk => hk) trivial (Below.refl _ _) (Nat.le_refl _) (by simp) ?_; (case hd => rfl); (case hg => rfl); (case hr => first | (go_simp; done) | (go_simp; rfl)); (case hp => exact (Reps.none _ _))
                        intro v412 w45 ho46 hb hg_ hnew_
                        clear hg_ hnew_
                        (first | rw [← Ny411.out] at ho46 | (simp only [Int.reduceToNat] at ho46; rw [← Ny411.out] at ho46))
                        have n0_ := Aside0.mk (Kd.R_lower (Kd.R_newB ho46 (g := gb406) (o := .cells #[.int .i64 a1_0, .int .i64 a1_1, .int .i64 a1_2, .int .i64 a1_3] 45 (0, 0)) (by (with_reducible repeat (first | apply bN_ | apply bD_ | apply bA_)); exact BK406.out)) (below_size (by repeat (first | (with_reducible first | exact HB.out | apply lA_ | apply lN_ | apply lD_ | refine lS_ ?_ GE405.out | refine lS_ ?_ GE406.out | refine lS_ ?_ GE407.out | refine lS_ ?_ GE432.out) | exact HB.out))))
                        have n1_ := Aside0.mk (blk_below (g := gb405) (o := .cells #[.int .i64 a0_0, .slice A0_1 l0_1.length c0_1] 26 (0, 0)) (by (with_reducible repeat (first | apply bN_ | apply bD_ | apply bA_)); exact BK405.out) hb)
                        have n2_ := Aside0.mk (blk_below (g := gb406) (o := .cells #[.int .i64 a1_0, .int .i64 a1_1, .int .i64 a1_2, .int .i64 a1_3] 45 (0, 0)) (by (with_reducible repeat (first | apply bN_ | apply bD_ | apply bA_)); exact BK406.out) hb)
                        have n3_ := Aside0.mk (blk_below (g := gb407) (o := .cells #[.int .i64 0, .slice none 0 0] 26 (0, 0)) (by (with_reducible repeat (first | apply bN_ | apply bD_ | apply bA_)); exact BK407.out) hb)
                        have n4_ := Aside0.mk (blk_below (g := gb432) (o := .cells #[.int .i64 0, .slice none 0 0] 26 (0, 0)) (by (with_reducible repeat (first | apply bN_ | apply bD_ | apply bA_)); exact BK432.out) hb)
                        have n5_ := Aside0.mk (below_step (by repeat (first | (with_reducible first | exact HB.out | apply lA_ | apply lN_ | apply lD_ | refine lS_ ?_ GE405.out | refine lS_ ?_ GE406.out | refine lS_ ?_ GE407.out | refine lS_ ?_ GE432.out) | exact HB.out)) hb)
                        clear BK405
                        clear BK406
                        clear BK407
                        clear BK432
                        clear HB
                        have HO413 := n0_
                        have BK405 := n1_
                        have BK406 := n2_
                        have BK407 := n3_
                        have BK432 := n4_
                        have HB := n5_
                        clear n0_ n1_ n2_ n3_ n4_ n5_
                        clear hb ho46
                        refine hK.out _ _ ⟨(blk_cell BK405.out 0).trans rfl, (blk_cell BK405.out 1).trans rfl, (blk_cell BK406.out 0).trans rfl, (blk_cell BK406.out 1).trans rfl, (blk_cell BK406.out 2).trans rfl, (blk_cell BK406.out 3).trans rfl⟩ (fun hHeld => ?_)
                        clear hK K
                        refine norm_ (a' := ?_) ?_ ?_
                        rotate_left
                        ·show Act.put _ (some 28) _ = _
                         simp only [Act.put, q1_, q2_, q3_, i64_w, i32_w]
                         rfl
                        exact norm_ (by first | (simp only [putAll, Act.put, q1_, q2_, q3_]; done) | (simp only [putAll, Act.put, q1_, q2_, q3_]; rfl)) (hJ2_14 (v412, gb432) _ ⟨hHeld, (by (with_reducible repeat (first | apply Kd.R_alloc | apply Kd.R_drewN | apply Kd.R_drew)); exact Kd.R_mono HO413.out (fun _ hk => hk.2)), (by (with_reducible repeat (first | apply bN_ | apply bD_ | apply bA_)); exact BK405.out), (by (with_reducible repeat (first | apply bN_ | apply bD_ | apply bA_)); exact BK406.out), (by (with_reducible repeat (first | apply bN_ | apply bD_ | apply bA_)); exact BK407.out), (by (with_reducible repeat (first | apply bN_ | apply bD_ | apply bA_)); exact BK432.out), GW432.out, GE432.out, NB405_432.out, NB432_405.out, NB406_432.out, NB432_406.out, NB407_432.out, NB432_407.out, (by repeat (first | (with_reducible first | exact HB.out | apply lA_ | apply lN_ | apply lD_ | refine lS_ ?_ GE405.out | refine lS_ ?_ GE406.out | refine lS_ ?_ GE407.out | refine lS_ ?_ GE432.out) | exact HB.out))⟩)
                       ·skip
                        refine Kd.R_lit_step k45 _ 45 ?hg (N := 33) ?hd (xs := ([(⟨a1_0, a1_1, a1_2, a1_3⟩ : S45)] : List (S45))) (inner := [.int .i64 a1_0, .int .i64 a1_1, .int .i64 a1_2, .int .i64 a1_3]) (ok := fun _ => True) (okp := fun _ => True) ?hr ?hp (fun _ hk => hk) trivial (Below.refl _ _) (Nat.le_refl _) (by simp) ?_; (case hd => rfl); (case hg => rfl); (case hr => first | (go_simp; done) | (go_simp; rfl)); (case hp => exact (Reps.c4 (show Kd.M k45 _ _ _ (⟨a1_0, a1_1, a1_2, a1_3⟩ : S45) [.int .i64 a1_0, .int .i64 a1_1, .int .i64 a1_2, .int .i64 a1_3] from (k45_mkM _ _ _ (⟨a1_0, a1_1, a1_2, a1_3⟩ : S45) )) (Reps.none _ _)))
                        intro v418 w45 ho46 hb hg_ hnew_
                        clear hg_ hnew_
                        (first | rw [← Ny417.out] at ho46 | (simp only [Int.reduceToNat] at ho46; rw [← Ny417.out] at ho46))
                        have n0_ := Aside0.mk (Kd.R_lower (Kd.R_newB ho46 (g := gb406) (o := .cells #[.int .i64 a1_0, .int .i64 a1_1, .int .i64 a1_2, .int .i64 a1_3] 45 (0, 0)) (by (with_reducible repeat (first | apply bN_ | apply bD_ | apply bA_)); exact BK406.out)) (below_size (by repeat (first | (with_reducible first | exact HB.out | apply lA_ | apply lN_ | apply lD_ | refine lS_ ?_ GE405.out | refine lS_ ?_ GE406.out | refine lS_ ?_ GE407.out | refine lS_ ?_ GE432.out) | exact HB.out))))
                        have n1_ := Aside0.mk (blk_below (g := gb405) (o := .cells #[.int .i64 a0_0, .slice A0_1 l0_1.length c0_1] 26 (0, 0)) (by (with_reducible repeat (first | apply bN_ | apply bD_ | apply bA_)); exact BK405.out) hb)
                        have n2_ := Aside0.mk (blk_below (g := gb406) (o := .cells #[.int .i64 a1_0, .int .i64 a1_1, .int .i64 a1_2, .int .i64 a1_3] 45 (0, 0)) (by (with_reducible repeat (first | apply bN_ | apply bD_ | apply bA_)); exact BK406.out) hb)
                        have n3_ := Aside0.mk (blk_below (g := gb407) (o := .cells #[.int .i64 0, .slice none 0 0] 26 (0, 0)) (by (with_reducible repeat (first | apply bN_ | apply bD_ | apply bA_)); exact BK407.out) hb)
                        have n4_ := Aside0.mk (blk_below (g := gb432) (o := .cells #[.int .i64 0, .slice none 0 0] 26 (0, 0)) (by (with_reducible repeat (first | apply bN_ | apply bD_ | apply bA_)); exact BK432.out) hb)
                        have n5_ := Aside0.mk (below_step (by repeat (first | (with_reducible first | exact HB.out | apply lA_ | apply lN_ | apply lD_ | refine lS_ ?_ GE405.out | refine lS_ ?_ GE406.out | refine lS_ ?_ GE407.out | refine lS_ ?_ GE432.out) | exact HB.out)) hb)
                        clear BK405
                        clear BK406
                        clear BK407
                        clear BK432
                        clear HB
                        have HO419 := n0_
                        have BK405 := n1_
                        have BK406 := n2_
                        have BK407 := n3_
                        have BK432 := n4_
                        have HB := n5_
                        clear n0_ n1_ n2_ n3_ n4_ n5_
                        clear hb ho46
                        refine hK.out _ _ ⟨(blk_cell BK405.out 0).trans rfl, (blk_cell BK405.out 1).trans rfl, (blk_cell BK406.out 0).trans rfl, (blk_cell BK406.out 1).trans rfl, (blk_cell BK406.out 2).trans rfl, (blk_cell BK406.out 3).trans rfl⟩ (fun hHeld => ?_)
                        clear hK K
                        refine norm_ (a' := ?_) ?_ ?_
                        rotate_left
                        ·show Act.put _ (some 33) _ = _
                         simp only [Act.put, q1_, q2_, q3_, i64_w, i32_w]
                         rfl
                        exact norm_ (by first | (simp only [putAll, Act.put, q1_, q2_, q3_]; done) | (simp only [putAll, Act.put, q1_, q2_, q3_]; rfl)) (hJ7_14 (v418, gb432) _ ⟨hHeld, (by (with_reducible repeat (first | apply Kd.R_alloc | apply Kd.R_drewN | apply Kd.R_drew)); exact Kd.R_mono HO419.out (fun _ hk => hk.2)), (by (with_reducible repeat (first | apply bN_ | apply bD_ | apply bA_)); exact BK405.out), (by (with_reducible repeat (first | apply bN_ | apply bD_ | apply bA_)); exact BK406.out), (by (with_reducible repeat (first | apply bN_ | apply bD_ | apply bA_)); exact BK407.out), (by (with_reducible repeat (first | apply bN_ | apply bD_ | apply bA_)); exact BK432.out), GW432.out, GE432.out, NB405_432.out, NB432_405.out, NB406_432.out, NB432_406.out, NB407_432.out, NB432_407.out, (by repeat (first | (with_reducible first | exact HB.out | apply lA_ | apply lN_ | apply lD_ | refine lS_ ?_ GE405.out | refine lS_ ?_ GE406.out | refine lS_ ?_ GE407.out | refine lS_ ?_ GE432.out) | exact HB.out))⟩)
                     ·skip
                      rintro v418 w45 ⟨hS_, h0_, h1_, h2_, h3_, h4_⟩
                      have n0_ : Aside0 (Kd.R k45 45 w45 w.heap.size (fun k_ => k_ ≠ gb406) v418 y417) := ⟨h0_⟩
                      have n1_ : Aside0 (w45.heap[gb405]? = some (.cells #[.int .i64 a0_0, .slice A0_1 l0_1.length c0_1] 26 (0, 0))) := ⟨h1_⟩
                      have n2_ : Aside0 (w45.heap[gb406]? = some (.cells #[.int .i64 a1_0, .int .i64 a1_1, .int .i64 a1_2, .int .i64 a1_3] 45 (0, 0))) := ⟨h2_⟩
                      have n3_ : Aside0 (w45.heap[gb407]? = some (.cells #[.int .i64 0, .slice none 0 0] 26 (0, 0))) := ⟨h3_⟩
                      have n4_ : Aside0 (Below w.heap.size w w45) := ⟨h4_⟩
                      clear BK405
                      clear BK406
                      clear BK407
                      clear HB
                      clear h0_ h1_ h2_ h3_ h4_
                      have HO419 := n0_
                      have BK405 := n1_
                      have BK406 := n2_
                      have BK407 := n3_
                      have HB := n4_
                      clear n0_ n1_ n2_ n3_ n4_
                      have hHeld : w45.cell? ⟨gb405, 0, none⟩ = some (.int .i64 a0_0) ∧ w45.cell? ⟨gb405, 1, none⟩ = some (.slice A0_1 l0_1.length c0_1) ∧ w45.cell? ⟨gb406, 0, none⟩ = some (.int .i64 a1_0) ∧ w45.cell? ⟨gb406, 1, none⟩ = some (.int .i64 a1_1) ∧ w45.cell? ⟨gb406, 2, none⟩ = some (.int .i64 a1_2) ∧ w45.cell? ⟨gb406, 3, none⟩ = some (.int .i64 a1_3) := hS_
                      refine norm_ (a' := ?_) ?_ ?_
                      rotate_left
                      ·simp only [putAll, Act.put, q1_, q2_, q3_]
                       rfl
                      refine two_ (i := 2) (j := 14) (Ni := some 28) (Nj := some 6) #[true, true, true, true, true, false, true, true, false, false, false, false, false, false, false, false, false] #[true, true, false, true, true, false, true, true, false, false, false, false, false, false, true, false, false] rfl rfl rfl rfl (two_of HT_.out (by kernel_rfl)) (by decide) (by decide) (fun K hK => ?_) (fun K hK => ?_)
                      ·skip
                       refine Kd.R_lit_step k45 _ 45 ?hg (N := 28) ?hd (xs := ([] : List (S45))) (inner := []) (ok := fun _ => True) (okp := fun _ => True) ?hr ?hp (fun _ hk => hk) trivial (Below.refl _ _) (Nat.le_refl _) (by simp) ?_; (case hd => rfl); (case hg => rfl); (case hr => first | (go_simp; done) | (go_simp; rfl)); (case hp => exact (Reps.none _ _))
                       intro v412 w46 ho47 hb hg_ hnew_
                       clear hg_ hnew_
                       (first | rw [← Ny411.out] at ho47 | (simp only [Int.reduceToNat] at ho47; rw [← Ny411.out] at ho47))
                       have n0_ := Aside0.mk (Kd.R_elder' (by (with_reducible repeat (first | apply Kd.R_alloc | apply Kd.R_drewN | apply Kd.R_drew)); exact HO419.out) (Kd.R_base ho47) hb)
                       have n1_ := Aside0.mk (Kd.R_lower (Kd.R_newB (Kd.R_new' ho47 (Kd.R_lt (by (with_reducible repeat (first | apply Kd.R_alloc | apply Kd.R_drewN | apply Kd.R_drew)); exact HO419.out))) (g := gb406) (o := .cells #[.int .i64 a1_0, .int .i64 a1_1, .int .i64 a1_2, .int .i64 a1_3] 45 (0, 0)) (by (with_reducible repeat (first | apply bN_ | apply bD_ | apply bA_)); exact BK406.out)) (below_size (by repeat (first | (with_reducible first | exact HB.out | apply lA_ | apply lN_ | apply lD_ | refine lS_ ?_ GE405.out | refine lS_ ?_ GE406.out | refine lS_ ?_ GE407.out) | exact HB.out))))
                       have n2_ := Aside0.mk (blk_below (g := gb405) (o := .cells #[.int .i64 a0_0, .slice A0_1 l0_1.length c0_1] 26 (0, 0)) (by (with_reducible repeat (first | apply bN_ | apply bD_ | apply bA_)); exact BK405.out) hb)
                       have n3_ := Aside0.mk (blk_below (g := gb406) (o := .cells #[.int .i64 a1_0, .int .i64 a1_1, .int .i64 a1_2, .int .i64 a1_3] 45 (0, 0)) (by (with_reducible repeat (first | apply bN_ | apply bD_ | apply bA_)); exact BK406.out) hb)
                       have n4_ := Aside0.mk (blk_below (g := gb407) (o := .cells #[.int .i64 0, .slice none 0 0] 26 (0, 0)) (by (with_reducible repeat (first | apply bN_ | apply bD_ | apply bA_)); exact BK407.out) hb)
                       have n5_ := Aside0.mk (below_step (by repeat (first | (with_reducible first | exact HB.out | apply lA_ | apply lN_ | apply lD_ | refine lS_ ?_ GE405.out | refine lS_ ?_ GE406.out | refine lS_ ?_ GE407.out) | exact HB.out)) hb)
                       clear HO419
                       clear BK405
                       clear BK406
                       clear BK407
                       clear HB
                       have HO419 := n0_
                       have HO413 := n1_
                       have BK405 := n2_
                       have BK406 := n3_
                       have BK407 := n4_
                       have HB := n5_
                       clear n0_ n1_ n2_ n3_ n4_ n5_
                       clear hb ho47
                       refine hK.out _ _ ⟨(blk_cell BK405.out 0).trans rfl, (blk_cell BK405.out 1).trans rfl, (blk_cell BK406.out 0).trans rfl, (blk_cell BK406.out 1).trans rfl, (blk_cell BK406.out 2).trans rfl, (blk_cell BK406.out 3).trans rfl⟩ (fun hHeld => ?_)
                       clear hK K
                       refine norm_ (a' := ?_) ?_ ?_
                       rotate_left
                       ·show Act.put _ (some 28) _ = _
                        simp only [Act.put, q1_, q2_, q3_, i64_w, i32_w]
                        rfl
                       exact norm_ (by first | (simp only [putAll, Act.put, q1_, q2_, q3_]; done) | (simp only [putAll, Act.put, q1_, q2_, q3_]; rfl)) (hJ2_7 (v412, v418) _ ⟨hHeld, (by (with_reducible repeat (first | apply Kd.R_alloc | apply Kd.R_drewN | apply Kd.R_drew)); exact Kd.R_mono HO413.out (fun _ hk => ⟨hk.1.2, hk.2⟩)), (by (with_reducible repeat (first | apply Kd.R_alloc | apply Kd.R_drewN | apply Kd.R_drew)); exact Kd.R_mono HO419.out (fun _ hk => ⟨hk.2, hk.1⟩)), (by (with_reducible repeat (first | apply bN_ | apply bD_ | apply bA_)); exact BK405.out), (by (with_reducible repeat (first | apply bN_ | apply bD_ | apply bA_)); exact BK406.out), (by (with_reducible repeat (first | apply bN_ | apply bD_ | apply bA_)); exact BK407.out), (by repeat (first | (with_reducible first | exact HB.out | apply lA_ | apply lN_ | apply lD_ | refine lS_ ?_ GE405.out | refine lS_ ?_ GE406.out | refine lS_ ?_ GE407.out) | exact HB.out))⟩)
                      ·skip
                       refine box_step ?hg (N := 6) ?hd (cs := #[.int .i64 0, .slice none 0 0]) (t := 26) ?hr ?_; (case hd => rfl); (case hg => rfl); (case hr => first | (go_simp; done) | (go_simp; rfl))
                       intro gb432 hg w46 hbox hb
                       have n0_ := Aside0.mk (Kd.R_below (by (with_reducible repeat (first | apply Kd.R_alloc | apply Kd.R_drewN | apply Kd.R_drew)); exact HO419.out) hb)
                       have n1_ := Aside0.mk (blk_below (g := gb405) (o := .cells #[.int .i64 a0_0, .slice A0_1 l0_1.length c0_1] 26 (0, 0)) (by (with_reducible repeat (first | apply bN_ | apply bD_ | apply bA_)); exact BK405.out) hb)
                       have n2_ := Aside0.mk (blk_below (g := gb406) (o := .cells #[.int .i64 a1_0, .int .i64 a1_1, .int .i64 a1_2, .int .i64 a1_3] 45 (0, 0)) (by (with_reducible repeat (first | apply bN_ | apply bD_ | apply bA_)); exact BK406.out) hb)
                       have n3_ := Aside0.mk (blk_below (g := gb407) (o := .cells #[.int .i64 0, .slice none 0 0] 26 (0, 0)) (by (with_reducible repeat (first | apply bN_ | apply bD_ | apply bA_)); exact BK407.out) hb)
                       have n4_ := Aside0.mk (below_step (by repeat (first | (with_reducible first | exact HB.out | apply lA_ | apply lN_ | apply lD_ | refine lS_ ?_ GE405.out | refine lS_ ?_ GE406.out | refine lS_ ?_ GE407.out) | exact HB.out)) hb)
                       have n5_ := Aside0.mk (hbox)
                       have n6_ := Aside0.mk ((by rw [hg]; exact (below_size (by repeat (first | (with_reducible first | exact HB.out | apply lA_ | apply lN_ | apply lD_ | refine lS_ ?_ GE405.out | refine lS_ ?_ GE406.out | refine lS_ ?_ GE407.out) | exact HB.out))) : w.heap.size ≤ gb432))
                       have n7_ := Aside0.mk ((by rw [hg]; exact (below_size (by repeat (first | (with_reducible first | exact HB.out | apply lA_ | apply lN_ | apply lD_ | refine lS_ ?_ GE405.out | refine lS_ ?_ GE406.out | refine lS_ ?_ GE407.out) | exact HB.out))) : w.heap.size ≤ gb432))
                       have n8_ := Aside0.mk ((by rw [hg]; exact Nat.ne_of_lt (blk_lt (g := gb405) (o := .cells #[.int .i64 a0_0, .slice A0_1 l0_1.length c0_1] 26 (0, 0)) (by (with_reducible repeat (first | apply bN_ | apply bD_ | apply bA_)); exact BK405.out)) : gb405 ≠ gb432))
                       have n9_ := Aside0.mk ((by rw [hg]; exact Nat.ne_of_gt (blk_lt (g := gb405) (o := .cells #[.int .i64 a0_0, .slice A0_1 l0_1.length c0_1] 26 (0, 0)) (by (with_reducible repeat (first | apply bN_ | apply bD_ | apply bA_)); exact BK405.out)) : gb432 ≠ gb405))
                       have n10_ := Aside0.mk ((by rw [hg]; exact Nat.ne_of_lt (blk_lt (g := gb406) (o := .cells #[.int .i64 a1_0, .int .i64 a1_1, .int .i64 a1_2, .int .i64 a1_3] 45 (0, 0)) (by (with_reducible repeat (first | apply bN_ | apply bD_ | apply bA_)); exact BK406.out)) : gb406 ≠ gb432))
                       have n11_ := Aside0.mk ((by rw [hg]; exact Nat.ne_of_gt (blk_lt (g := gb406) (o := .cells #[.int .i64 a1_0, .int .i64 a1_1, .int .i64 a1_2, .int .i64 a1_3] 45 (0, 0)) (by (with_reducible repeat (first | apply bN_ | apply bD_ | apply bA_)); exact BK406.out)) : gb432 ≠ gb406))
                       have n12_ := Aside0.mk ((by rw [hg]; exact Nat.ne_of_lt (blk_lt (g := gb407) (o := .cells #[.int .i64 0, .slice none 0 0] 26 (0, 0)) (by (with_reducible repeat (first | apply bN_ | apply bD_ | apply bA_)); exact BK407.out)) : gb407 ≠ gb432))
                       have n13_ := Aside0.mk ((by rw [hg]; exact Nat.ne_of_gt (blk_lt (g := gb407) (o := .cells #[.int .i64 0, .slice none 0 0] 26 (0, 0)) (by (with_reducible repeat (first | apply bN_ | apply bD_ | apply bA_)); exact BK407.out)) : gb432 ≠ gb407))
                       clear HO419
                       clear BK405
                       clear BK406
                       clear BK407
                       clear HB
                       have HO419 := n0_
                       have BK405 := n1_
                       have BK406 := n2_
                       have BK407 := n3_
                       have HB := n4_
                       have BK432 := n5_
                       have GW432 := n6_
                       have GE432 := n7_
                       have NB405_432 := n8_
                       have NB432_405 := n9_
                       have NB406_432 := n10_
                       have NB432_406 := n11_
                       have NB407_432 := n12_
                       have NB432_407 := n13_
                       clear n0_ n1_ n2_ n3_ n4_ n5_ n6_ n7_ n8_ n9_ n10_ n11_ n12_ n13_
                       clear hb hbox hg
                       refine hK.out _ _ ⟨(blk_cell BK405.out 0).trans rfl, (blk_cell BK405.out 1).trans rfl, (blk_cell BK406.out 0).trans rfl, (blk_cell BK406.out 1).trans rfl, (blk_cell BK406.out 2).trans rfl, (blk_cell BK406.out 3).trans rfl⟩ (fun hHeld => ?_)
                       clear hK K
                       refine norm_ (a' := ?_) ?_ ?_
                       rotate_left
                       ·show Act.put _ (some 6) _ = _
                        simp only [Act.put, q1_, q2_, q3_, i64_w, i32_w]
                        rfl
                       exact norm_ (by first | (simp only [putAll, Act.put, q1_, q2_, q3_]; done) | (simp only [putAll, Act.put, q1_, q2_, q3_]; rfl)) (hJ7_14 (v418, gb432) _ ⟨hHeld, (by (with_reducible repeat (first | apply Kd.R_alloc | apply Kd.R_drewN | apply Kd.R_drew)); exact HO419.out), (by (with_reducible repeat (first | apply bN_ | apply bD_ | apply bA_)); exact BK405.out), (by (with_reducible repeat (first | apply bN_ | apply bD_ | apply bA_)); exact BK406.out), (by (with_reducible repeat (first | apply bN_ | apply bD_ | apply bA_)); exact BK407.out), (by (with_reducible repeat (first | apply bN_ | apply bD_ | apply bA_)); exact BK432.out), GW432.out, GE432.out, NB405_432.out, NB432_405.out, NB406_432.out, NB432_406.out, NB407_432.out, NB432_407.out, (by repeat (first | (with_reducible first | exact HB.out | apply lA_ | apply lN_ | apply lD_ | refine lS_ ?_ GE405.out | refine lS_ ?_ GE406.out | refine lS_ ?_ GE407.out | refine lS_ ?_ GE432.out) | exact HB.out))⟩)
                    ·skip
                     rintro v412 w45 ⟨hS_, h0_, h1_, h2_, h3_, h4_⟩
                     have n0_ : Aside0 (Kd.R k45 45 w45 w.heap.size (fun k_ => k_ ≠ gb406) v412 y411) := ⟨h0_⟩
                     have n1_ : Aside0 (w45.heap[gb405]? = some (.cells #[.int .i64 a0_0, .slice A0_1 l0_1.length c0_1] 26 (0, 0))) := ⟨h1_⟩
                     have n2_ : Aside0 (w45.heap[gb406]? = some (.cells #[.int .i64 a1_0, .int .i64 a1_1, .int .i64 a1_2, .int .i64 a1_3] 45 (0, 0))) := ⟨h2_⟩
                     have n3_ : Aside0 (w45.heap[gb407]? = some (.cells #[.int .i64 0, .slice none 0 0] 26 (0, 0))) := ⟨h3_⟩
                     have n4_ : Aside0 (Below w.heap.size w w45) := ⟨h4_⟩
                     clear BK405
                     clear BK406
                     clear BK407
                     clear HB
                     clear h0_ h1_ h2_ h3_ h4_
                     have HO413 := n0_
                     have BK405 := n1_
                     have BK406 := n2_
                     have BK407 := n3_
                     have HB := n4_
                     clear n0_ n1_ n2_ n3_ n4_
                     have hHeld : w45.cell? ⟨gb405, 0, none⟩ = some (.int .i64 a0_0) ∧ w45.cell? ⟨gb405, 1, none⟩ = some (.slice A0_1 l0_1.length c0_1) ∧ w45.cell? ⟨gb406, 0, none⟩ = some (.int .i64 a1_0) ∧ w45.cell? ⟨gb406, 1, none⟩ = some (.int .i64 a1_1) ∧ w45.cell? ⟨gb406, 2, none⟩ = some (.int .i64 a1_2) ∧ w45.cell? ⟨gb406, 3, none⟩ = some (.int .i64 a1_3) := hS_
                     refine norm_ (a' := ?_) ?_ ?_
                     rotate_left
                     ·simp only [putAll, Act.put, q1_, q2_, q3_]
                      rfl
                     refine three_ (i := 5) (j := 7) (k := 14) (Ni := some 31) (Nj := some 33) (Nk := some 6) #[true, true, true, true, true, true, true, false, false, false, false, false, false, false, false, false, false] #[true, true, true, true, true, false, true, true, false, false, false, false, false, false, false, false, false] #[true, true, true, true, true, false, true, false, false, false, false, false, false, false, true, false, false] rfl rfl rfl rfl rfl rfl (three_of HT_.out (by kernel_rfl)) (by decide) (by decide) (by decide) (fun K hK => ?_) (fun K hK => ?_) (fun K hK => ?_)
                     ·skip
                      refine Kd.R_append_rows_step k45 (w0 := w) w.heap.size (by rfl) (.tmp 28) (.tmp 30) 24 45 (.agg #[(.int .i64 0), (.int .i64 0), (.int .i64 0), (.int .i64 0)]) 32 rfl Try.underlying24 info45 rfl (by decide) (by omega) v412 y411 l0_1 _ _ _ (fun k_ => k_ ≠ gb406) (fun _ => False) rfl rfl ?aO ?aR (fun _ _ h => h) (fun _ h => h.elim) ?aF ?aB ?aS ?aL ?_
                      (case aR => repeat (first | exact (Kd.C_below HR0_1.out HB.out) | (with_reducible refine Kd.C_alloc ?_ _) | (with_reducible refine Kd.C_drewN ?_ _) | (with_reducible refine Kd.C_drew ?_)))
                      (case aB => exact (by repeat (first | (with_reducible first | exact HB.out | apply lA_ | apply lN_ | apply lD_ | refine lS_ ?_ GE405.out | refine lS_ ?_ GE406.out | refine lS_ ?_ GE407.out) | exact HB.out)))
                      (case aF => exact (fun k_ hk => Kd.freshB (g := gb406) (o := .cells #[.int .i64 a1_0, .int .i64 a1_1, .int .i64 a1_2, .int .i64 a1_3] 45 (0, 0)) (by (with_reducible repeat (first | apply bN_ | apply bD_ | apply bA_)); exact BK406.out) k_ hk))
                      (case aO => exact (by (with_reducible repeat (first | apply Kd.R_alloc | apply Kd.R_drewN | apply Kd.R_drew)); exact HO413.out))
                      (case aS => exact (below_size (by repeat (first | (with_reducible first | exact HB.out | apply lA_ | apply lN_ | apply lD_ | refine lS_ ?_ GE405.out | refine lS_ ?_ GE406.out | refine lS_ ?_ GE407.out) | exact HB.out))))
                      (case aL => have := LMc24.out; omega)
                      intro v415 w46 ho hb hg hat
                      rw [← Ny414.out] at ho
                      have n0_ := Aside0.mk (blk_grown (g := gb405) (o := .cells #[.int .i64 a0_0, .slice A0_1 l0_1.length c0_1] 26 (0, 0)) (by (with_reducible repeat (first | apply bN_ | apply bD_ | apply bA_)); exact BK405.out) hg (Kd.R_ne HO413.out BK405.out (by decide)))
                      have n1_ := Aside0.mk (blk_grown (g := gb406) (o := .cells #[.int .i64 a1_0, .int .i64 a1_1, .int .i64 a1_2, .int .i64 a1_3] 45 (0, 0)) (by (with_reducible repeat (first | apply bN_ | apply bD_ | apply bA_)); exact BK406.out) hg (Kd.R_away HO413.out (fun _ hk => hk)))
                      have n2_ := Aside0.mk (blk_grown (g := gb407) (o := .cells #[.int .i64 0, .slice none 0 0] 26 (0, 0)) (by (with_reducible repeat (first | apply bN_ | apply bD_ | apply bA_)); exact BK407.out) hg (Kd.R_ne HO413.out BK407.out (by decide)))
                      have n3_ := Aside0.mk (hb)
                      have n4_ := Aside0.mk (ho)
                      clear BK405
                      clear BK406
                      clear BK407
                      clear HB
                      clear HO413
                      have BK405 := n0_
                      have BK406 := n1_
                      have BK407 := n2_
                      have HB := n3_
                      have HO416 := n4_
                      clear n0_ n1_ n2_ n3_ n4_
                      clear ho hb hg hat
                      refine hK.out _ _ ⟨(blk_cell BK405.out 0).trans rfl, (blk_cell BK405.out 1).trans rfl, (blk_cell BK406.out 0).trans rfl, (blk_cell BK406.out 1).trans rfl, (blk_cell BK406.out 2).trans rfl, (blk_cell BK406.out 3).trans rfl⟩ (fun hHeld => ?_)
                      clear hK K
                      refine norm_ (a' := ?_) ?_ ?_
                      rotate_left
                      ·show Act.put _ (some 31) _ = _
                       simp only [Act.put, q1_, q2_, q3_, i64_w, i32_w]
                       rfl
                      exact norm_ (by first | (simp only [putAll, Act.put, q1_, q2_, q3_]; done) | (simp only [putAll, Act.put, q1_, q2_, q3_]; rfl)) (hJ2_5 (v412, v415) _ ⟨hHeld, (by (with_reducible repeat (first | apply Kd.R_alloc | apply Kd.R_drewN | apply Kd.R_drew)); exact HO416.out), (by (with_reducible repeat (first | apply bN_ | apply bD_ | apply bA_)); exact BK405.out), (by (with_reducible repeat (first | apply bN_ | apply bD_ | apply bA_)); exact BK406.out), (by (with_reducible repeat (first | apply bN_ | apply bD_ | apply bA_)); exact BK407.out), (by repeat (first | (with_reducible first | exact HB.out | apply lA_ | apply lN_ | apply lD_ | refine lS_ ?_ GE405.out | refine lS_ ?_ GE406.out | refine lS_ ?_ GE407.out) | exact HB.out))⟩)
                     ·skip
                      refine Kd.R_lit_step k45 _ 45 ?hg (N := 33) ?hd (xs := ([(⟨a1_0, a1_1, a1_2, a1_3⟩ : S45)] : List (S45))) (inner := [.int .i64 a1_0, .int .i64 a1_1, .int .i64 a1_2, .int .i64 a1_3]) (ok := fun _ => True) (okp := fun _ => True) ?hr ?hp (fun _ hk => hk) trivial (Below.refl _ _) (Nat.le_refl _) (by simp) ?_; (case hd => rfl); (case hg => rfl); (case hr => first | (go_simp; done) | (go_simp; rfl)); (case hp => exact (Reps.c4 (show Kd.M k45 _ _ _ (⟨a1_0, a1_1, a1_2, a1_3⟩ : S45) [.int .i64 a1_0, .int .i64 a1_1, .int .i64 a1_2, .int .i64 a1_3] from (k45_mkM _ _ _ (⟨a1_0, a1_1, a1_2, a1_3⟩ : S45) )) (Reps.none _ _)))
                      intro v418 w46 ho47 hb hg_ hnew_
                      clear hg_ hnew_
                      (first | rw [← Ny417.out] at ho47 | (simp only [Int.reduceToNat] at ho47; rw [← Ny417.out] at ho47))
                      have n0_ := Aside0.mk (Kd.R_elder' (by (with_reducible repeat (first | apply Kd.R_alloc | apply Kd.R_drewN | apply Kd.R_drew)); exact HO413.out) (Kd.R_base ho47) hb)
                      have n1_ := Aside0.mk (Kd.R_lower (Kd.R_newB (Kd.R_new' ho47 (Kd.R_lt (by (with_reducible repeat (first | apply Kd.R_alloc | apply Kd.R_drewN | apply Kd.R_drew)); exact HO413.out))) (g := gb406) (o := .cells #[.int .i64 a1_0, .int .i64 a1_1, .int .i64 a1_2, .int .i64 a1_3] 45 (0, 0)) (by (with_reducible repeat (first | apply bN_ | apply bD_ | apply bA_)); exact BK406.out)) (below_size (by repeat (first | (with_reducible first | exact HB.out | apply lA_ | apply lN_ | apply lD_ | refine lS_ ?_ GE405.out | refine lS_ ?_ GE406.out | refine lS_ ?_ GE407.out) | exact HB.out))))
                      have n2_ := Aside0.mk (blk_below (g := gb405) (o := .cells #[.int .i64 a0_0, .slice A0_1 l0_1.length c0_1] 26 (0, 0)) (by (with_reducible repeat (first | apply bN_ | apply bD_ | apply bA_)); exact BK405.out) hb)
                      have n3_ := Aside0.mk (blk_below (g := gb406) (o := .cells #[.int .i64 a1_0, .int .i64 a1_1, .int .i64 a1_2, .int .i64 a1_3] 45 (0, 0)) (by (with_reducible repeat (first | apply bN_ | apply bD_ | apply bA_)); exact BK406.out) hb)
                      have n4_ := Aside0.mk (blk_below (g := gb407) (o := .cells #[.int .i64 0, .slice none 0 0] 26 (0, 0)) (by (with_reducible repeat (first | apply bN_ | apply bD_ | apply bA_)); exact BK407.out) hb)
                      have n5_ := Aside0.mk (below_step (by repeat (first | (with_reducible first | exact HB.out | apply lA_ | apply lN_ | apply lD_ | refine lS_ ?_ GE405.out | refine lS_ ?_ GE406.out | refine lS_ ?_ GE407.out) | exact HB.out)) hb)
                      clear HO413
                      clear BK405
                      clear BK406
                      clear BK407
                      clear HB
                      have HO413 := n0_
                      have HO419 := n1_
                      have BK405 := n2_
                      have BK406 := n3_
                      have BK407 := n4_
                      have HB := n5_
                      clear n0_ n1_ n2_ n3_ n4_ n5_
                      clear hb ho47
                      refine hK.out _ _ ⟨(blk_cell BK405.out 0).trans rfl, (blk_cell BK405.out 1).trans rfl, (blk_cell BK406.out 0).trans rfl, (blk_cell BK406.out 1).trans rfl, (blk_cell BK406.out 2).trans rfl, (blk_cell BK406.out 3).trans rfl⟩ (fun hHeld => ?_)
                      clear hK K
                      refine norm_ (a' := ?_) ?_ ?_
                      rotate_left
                      ·show Act.put _ (some 33) _ = _
                       simp only [Act.put, q1_, q2_, q3_, i64_w, i32_w]
                       rfl
                      exact norm_ (by first | (simp only [putAll, Act.put, q1_, q2_, q3_]; done) | (simp only [putAll, Act.put, q1_, q2_, q3_]; rfl)) (hJ2_7 (v412, v418) _ ⟨hHeld, (by (with_reducible repeat (first | apply Kd.R_alloc | apply Kd.R_drewN | apply Kd.R_drew)); exact Kd.R_mono HO413.out (fun _ hk => ⟨hk.2, hk.1⟩)), (by (with_reducible repeat (first | apply Kd.R_alloc | apply Kd.R_drewN | apply Kd.R_drew)); exact Kd.R_mono HO419.out (fun _ hk => ⟨hk.1.2, hk.2⟩)), (by (with_reducible repeat (first | apply bN_ | apply bD_ | apply bA_)); exact BK405.out), (by (with_reducible repeat (first | apply bN_ | apply bD_ | apply bA_)); exact BK406.out), (by (with_reducible repeat (first | apply bN_ | apply bD_ | apply bA_)); exact BK407.out), (by repeat (first | (with_reducible first | exact HB.out | apply lA_ | apply lN_ | apply lD_ | refine lS_ ?_ GE405.out | refine lS_ ?_ GE406.out | refine lS_ ?_ GE407.out) | exact HB.out))⟩)
                     ·skip
                      refine box_step ?hg (N := 6) ?hd (cs := #[.int .i64 0, .slice none 0 0]) (t := 26) ?hr ?_; (case hd => rfl); (case hg => rfl); (case hr => first | (go_simp; done) | (go_simp; rfl))
                      intro gb432 hg w46 hbox hb
                      have n0_ := Aside0.mk (Kd.R_below (by (with_reducible repeat (first | apply Kd.R_alloc | apply Kd.R_drewN | apply Kd.R_drew)); exact HO413.out) hb)
                      have n1_ := Aside0.mk (blk_below (g := gb405) (o := .cells #[.int .i64 a0_0, .slice A0_1 l0_1.length c0_1] 26 (0, 0)) (by (with_reducible repeat (first | apply bN_ | apply bD_ | apply bA_)); exact BK405.out) hb)
                      have n2_ := Aside0.mk (blk_below (g := gb406) (o := .cells #[.int .i64 a1_0, .int .i64 a1_1, .int .i64 a1_2, .int .i64 a1_3] 45 (0, 0)) (by (with_reducible repeat (first | apply bN_ | apply bD_ | apply bA_)); exact BK406.out) hb)
                      have n3_ := Aside0.mk (blk_below (g := gb407) (o := .cells #[.int .i64 0, .slice none 0 0] 26 (0, 0)) (by (with_reducible repeat (first | apply bN_ | apply bD_ | apply bA_)); exact BK407.out) hb)
                      have n4_ := Aside0.mk (below_step (by repeat (first | (with_reducible first | exact HB.out | apply lA_ | apply lN_ | apply lD_ | refine lS_ ?_ GE405.out | refine lS_ ?_ GE406.out | refine lS_ ?_ GE407.out) | exact HB.out)) hb)
                      have n5_ := Aside0.mk (hbox)
                      have n6_ := Aside0.mk ((by rw [hg]; exact (below_size (by repeat (first | (with_reducible first | exact HB.out | apply lA_ | apply lN_ | apply lD_ | refine lS_ ?_ GE405.out | refine lS_ ?_ GE406.out | refine lS_ ?_ GE407.out) | exact HB.out))) : w.heap.size ≤ gb432))
                      have n7_ := Aside0.mk ((by rw [hg]; exact (below_size (by repeat (first | (with_reducible first | exact HB.out | apply lA_ | apply lN_ | apply lD_ | refine lS_ ?_ GE405.out | refine lS_ ?_ GE406.out | refine lS_ ?_ GE407.out) | exact HB.out))) : w.heap.size ≤ gb432))
                      have n8_ := Aside0.mk ((by rw [hg]; exact Nat.ne_of_lt (blk_lt (g := gb405) (o := .cells #[.int .i64 a0_0, .slice A0_1 l0_1.length c0_1] 26 (0, 0)) (by (with_reducible repeat (first | apply bN_ | apply bD_ | apply bA_)); exact BK405.out)) : gb405 ≠ gb432))
                      have n9_ := Aside0.mk ((by rw [hg]; exact Nat.ne_of_gt (blk_lt (g := gb405) (o := .cells #[.int .i64 a0_0, .slice A0_1 l0_1.length c0_1] 26 (0, 0)) (by (with_reducible repeat (first | apply bN_ | apply bD_ | apply bA_)); exact BK405.out)) : gb432 ≠ gb405))
                      have n10_ := Aside0.mk ((by rw [hg]; exact Nat.ne_of_lt (blk_lt (g := gb406) (o := .cells #[.int .i64 a1_0, .int .i64 a1_1, .int .i64 a1_2, .int .i64 a1_3] 45 (0, 0)) (by (with_reducible repeat (first | apply bN_ | apply bD_ | apply bA_)); exact BK406.out)) : gb406 ≠ gb432))
                      have n11_ := Aside0.mk ((by rw [hg]; exact Nat.ne_of_gt (blk_lt (g := gb406) (o := .cells #[.int .i64 a1_0, .int .i64 a1_1, .int .i64 a1_2, .int .i64 a1_3] 45 (0, 0)) (by (with_reducible repeat (first | apply bN_ | apply bD_ | apply bA_)); exact BK406.out)) : gb432 ≠ gb406))
                      have n12_ := Aside0.mk ((by rw [hg]; exact Nat.ne_of_lt (blk_lt (g := gb407) (o := .cells #[.int .i64 0, .slice none 0 0] 26 (0, 0)) (by (with_reducible repeat (first | apply bN_ | apply bD_ | apply bA_)); exact BK407.out)) : gb407 ≠ gb432))
                      have n13_ := Aside0.mk ((by rw [hg]; exact Nat.ne_of_gt (blk_lt (g := gb407) (o := .cells #[.int .i64 0, .slice none 0 0] 26 (0, 0)) (by (with_reducible repeat (first | apply bN_ | apply bD_ | apply bA_)); exact BK407.out)) : gb432 ≠ gb407))
                      clear HO413
                      clear BK405
                      clear BK406
                      clear BK407
                      clear HB
                      have HO413 := n0_
                      have BK405 := n1_
                      have BK406 := n2_
                      have BK407 := n3_
                      have HB := n4_
                      have BK432 := n5_
                      have GW432 := n6_
                      have GE432 := n7_
                      have NB405_432 := n8_
                      have NB432_405 := n9_
                      have NB406_432 := n10_
                      have NB432_406 := n11_
                      have NB407_432 := n12_
                      have NB432_407 := n13_
                      clear n0_ n1_ n2_ n3_ n4_ n5_ n6_ n7_ n8_ n9_ n10_ n11_ n12_ n13_
                      clear hb hbox hg
                      refine hK.out _ _ ⟨(blk_cell BK405.out 0).trans rfl, (blk_cell BK405.out 1).trans rfl, (blk_cell BK406.out 0).trans rfl, (blk_cell BK406.out 1).trans rfl, (blk_cell BK406.out 2).trans rfl, (blk_cell BK406.out 3).trans rfl⟩ (fun hHeld => ?_)
                      clear hK K
                      refine norm_ (a' := ?_) ?_ ?_
                      rotate_left
                      ·show Act.put _ (some 6) _ = _
                       simp only [Act.put, q1_, q2_, q3_, i64_w, i32_w]
                       rfl
                      exact norm_ (by first | (simp only [putAll, Act.put, q1_, q2_, q3_]; done) | (simp only [putAll, Act.put, q1_, q2_, q3_]; rfl)) (hJ2_14 (v412, gb432) _ ⟨hHeld, (by (with_reducible repeat (first | apply Kd.R_alloc | apply Kd.R_drewN | apply Kd.R_drew)); exact HO413.out), (by (with_reducible repeat (first | apply bN_ | apply bD_ | apply bA_)); exact BK405.out), (by (with_reducible repeat (first | apply bN_ | apply bD_ | apply bA_)); exact BK406.out), (by (with_reducible repeat (first | apply bN_ | apply bD_ | apply bA_)); exact BK407.out), (by (with_reducible repeat (first | apply bN_ | apply bD_ | apply bA_)); exact BK432.out), GW432.out, GE432.out, NB405_432.out, NB432_405.out, NB406_432.out, NB432_406.out, NB407_432.out, NB432_407.out, (by repeat (first | (with_reducible first | exact HB.out | apply lA_ | apply lN_ | apply lD_ | refine lS_ ?_ GE405.out | refine lS_ ?_ GE406.out | refine lS_ ?_ GE407.out | refine lS_ ?_ GE432.out) | exact HB.out))⟩)
                   ·skip
                    rintro ⟨v418, gb432⟩ w46 ⟨hS_, h0_, h1_, h2_, h3_, h4_, h5_, h6_, h7_, h8_, h9_, h10_, h11_, h12_, h13_⟩
                    have n0_ : Aside0 (Kd.R k45 45 w46 w.heap.size (fun k_ => k_ ≠ gb406) v418 y417) := ⟨h0_⟩
                    have n1_ : Aside0 (w46.heap[gb405]? = some (.cells #[.int .i64 a0_0, .slice A0_1 l0_1.length c0_1] 26 (0, 0))) := ⟨h1_⟩
                    have n2_ : Aside0 (w46.heap[gb406]? = some (.cells #[.int .i64 a1_0, .int .i64 a1_1, .int .i64 a1_2, .int .i64 a1_3] 45 (0, 0))) := ⟨h2_⟩
                    have n3_ : Aside0 (w46.heap[gb407]? = some (.cells #[.int .i64 0, .slice none 0 0] 26 (0, 0))) := ⟨h3_⟩
                    have n4_ : Aside0 (w46.heap[gb432]? = some (.cells #[.int .i64 0, .slice none 0 0] 26 (0, 0))) := ⟨h4_⟩
                    have n5_ : Aside0 (w.heap.size ≤ gb432) := ⟨h5_⟩
                    have n6_ : Aside0 (w.heap.size ≤ gb432) := ⟨h6_⟩
                    have n7_ : Aside0 (gb405 ≠ gb432) := ⟨h7_⟩
                    have n8_ : Aside0 (gb432 ≠ gb405) := ⟨h8_⟩
                    have n9_ : Aside0 (gb406 ≠ gb432) := ⟨h9_⟩
                    have n10_ : Aside0 (gb432 ≠ gb406) := ⟨h10_⟩
                    have n11_ : Aside0 (gb407 ≠ gb432) := ⟨h11_⟩
                    have n12_ : Aside0 (gb432 ≠ gb407) := ⟨h12_⟩
                    have n13_ : Aside0 (Below w.heap.size w w46) := ⟨h13_⟩
                    clear BK405
                    clear BK406
                    clear BK407
                    clear HB
                    clear h0_ h1_ h2_ h3_ h4_ h5_ h6_ h7_ h8_ h9_ h10_ h11_ h12_ h13_
                    have HO419 := n0_
                    have BK405 := n1_
                    have BK406 := n2_
                    have BK407 := n3_
                    have BK432 := n4_
                    have GW432 := n5_
                    have GE432 := n6_
                    have NB405_432 := n7_
                    have NB432_405 := n8_
                    have NB406_432 := n9_
                    have NB432_406 := n10_
                    have NB407_432 := n11_
                    have NB432_407 := n12_
                    have HB := n13_
                    clear n0_ n1_ n2_ n3_ n4_ n5_ n6_ n7_ n8_ n9_ n10_ n11_ n12_ n13_
                    have hHeld : w46.cell? ⟨gb405, 0, none⟩ = some (.int .i64 a0_0) ∧ w46.cell? ⟨gb405, 1, none⟩ = some (.slice A0_1 l0_1.length c0_1) ∧ w46.cell? ⟨gb406, 0, none⟩ = some (.int .i64 a1_0) ∧ w46.cell? ⟨gb406, 1, none⟩ = some (.int .i64 a1_1) ∧ w46.cell? ⟨gb406, 2, none⟩ = some (.int .i64 a1_2) ∧ w46.cell? ⟨gb406, 3, none⟩ = some (.int .i64 a1_3) := hS_
                    refine norm_ (a' := ?_) ?_ ?_
                    rotate_left
                    ·simp only [putAll, Act.put, q1_, q2_, q3_]
                     rfl
                    refine one_ (i := 2) (N := some 28) #[true, true, true, true, true, false, true, true, false, false, false, false, false, false, true, false, false] rfl rfl (one_of HT_.out (by kernel_rfl)) (by decide) (fun K hK => ?_)
                    refine Kd.R_lit_step k45 _ 45 ?hg (N := 28) ?hd (xs := ([] : List (S45))) (inner := []) (ok := fun _ => True) (okp := fun _ => True) ?hr ?hp (fun _ hk => hk) trivial (Below.refl _ _) (Nat.le_refl _) (by simp) ?_; (case hd => rfl); (case hg => rfl); (case hr => first | (go_simp; done) | (go_simp; rfl)); (case hp => exact (Reps.none _ _))
                    intro v412 w47 ho48 hb hg_ hnew_
                    clear hg_ hnew_
                    (first | rw [← Ny411.out] at ho48 | (simp only [Int.reduceToNat] at ho48; rw [← Ny411.out] at ho48))
                    have n0_ := Aside0.mk (Kd.R_elder' (by (with_reducible repeat (first | apply Kd.R_alloc | apply Kd.R_drewN | apply Kd.R_drew)); exact HO419.out) (Kd.R_base ho48) hb)
                    have n1_ := Aside0.mk (Kd.R_lower (Kd.R_newB (Kd.R_new' ho48 (Kd.R_lt (by (with_reducible repeat (first | apply Kd.R_alloc | apply Kd.R_drewN | apply Kd.R_drew)); exact HO419.out))) (g := gb406) (o := .cells #[.int .i64 a1_0, .int .i64 a1_1, .int .i64 a1_2, .int .i64 a1_3] 45 (0, 0)) (by (with_reducible repeat (first | apply bN_ | apply bD_ | apply bA_)); exact BK406.out)) (below_size (by repeat (first | (with_reducible first | exact HB.out | apply lA_ | apply lN_ | apply lD_ | refine lS_ ?_ GE405.out | refine lS_ ?_ GE406.out | refine lS_ ?_ GE407.out | refine lS_ ?_ GE432.out) | exact HB.out))))
                    have n2_ := Aside0.mk (blk_below (g := gb405) (o := .cells #[.int .i64 a0_0, .slice A0_1 l0_1.length c0_1] 26 (0, 0)) (by (with_reducible repeat (first | apply bN_ | apply bD_ | apply bA_)); exact BK405.out) hb)
                    have n3_ := Aside0.mk (blk_below (g := gb406) (o := .cells #[.int .i64 a1_0, .int .i64 a1_1, .int .i64 a1_2, .int .i64 a1_3] 45 (0, 0)) (by (with_reducible repeat (first | apply bN_ | apply bD_ | apply bA_)); exact BK406.out) hb)
                    have n4_ := Aside0.mk (blk_below (g := gb407) (o := .cells #[.int .i64 0, .slice none 0 0] 26 (0, 0)) (by (with_reducible repeat (first | apply bN_ | apply bD_ | apply bA_)); exact BK407.out) hb)
                    have n5_ := Aside0.mk (blk_below (g := gb432) (o := .cells #[.int .i64 0, .slice none 0 0] 26 (0, 0)) (by (with_reducible repeat (first | apply bN_ | apply bD_ | apply bA_)); exact BK432.out) hb)
                    have n6_ := Aside0.mk (below_step (by repeat (first | (with_reducible first | exact HB.out | apply lA_ | apply lN_ | apply lD_ | refine lS_ ?_ GE405.out | refine lS_ ?_ GE406.out | refine lS_ ?_ GE407.out | refine lS_ ?_ GE432.out) | exact HB.out)) hb)
                    clear HO419
                    clear BK405
                    clear BK406
                    clear BK407
                    clear BK432
                    clear HB
                    have HO419 := n0_
                    have HO413 := n1_
                    have BK405 := n2_
                    have BK406 := n3_
                    have BK407 := n4_
                    have BK432 := n5_
                    have HB := n6_
                    clear n0_ n1_ n2_ n3_ n4_ n5_ n6_
                    clear hb ho48
                    refine hK.out _ _ ⟨(blk_cell BK405.out 0).trans rfl, (blk_cell BK405.out 1).trans rfl, (blk_cell BK406.out 0).trans rfl, (blk_cell BK406.out 1).trans rfl, (blk_cell BK406.out 2).trans rfl, (blk_cell BK406.out 3).trans rfl⟩ (fun hHeld => ?_)
                    clear hK K
                    refine norm_ (a' := ?_) ?_ ?_
                    rotate_left
                    ·show Act.put _ (some 28) _ = _
                     simp only [Act.put, q1_, q2_, q3_, i64_w, i32_w]
                     rfl
                    exact norm_ (by first | (simp only [putAll, Act.put, q1_, q2_, q3_]; done) | (simp only [putAll, Act.put, q1_, q2_, q3_]; rfl)) (hJ2_7_14 (v412, v418, gb432) _ ⟨hHeld, (by (with_reducible repeat (first | apply Kd.R_alloc | apply Kd.R_drewN | apply Kd.R_drew)); exact Kd.R_mono HO413.out (fun _ hk => ⟨hk.1.2, hk.2⟩)), (by (with_reducible repeat (first | apply Kd.R_alloc | apply Kd.R_drewN | apply Kd.R_drew)); exact Kd.R_mono HO419.out (fun _ hk => ⟨hk.2, hk.1⟩)), (by (with_reducible repeat (first | apply bN_ | apply bD_ | apply bA_)); exact BK405.out), (by (with_reducible repeat (first | apply bN_ | apply bD_ | apply bA_)); exact BK406.out), (by (with_reducible repeat (first | apply bN_ | apply bD_ | apply bA_)); exact BK407.out), (by (with_reducible repeat (first | apply bN_ | apply bD_ | apply bA_)); exact BK432.out), GW432.out, GE432.out, NB405_432.out, NB432_405.out, NB406_432.out, NB432_406.out, NB407_432.out, NB432_407.out, (by repeat (first | (with_reducible first | exact HB.out | apply lA_ | apply lN_ | apply lD_ | refine lS_ ?_ GE405.out | refine lS_ ?_ GE406.out | refine lS_ ?_ GE407.out | refine lS_ ?_ GE432.out) | exact HB.out))⟩)
                  ·skip
                   rintro ⟨v412, gb432⟩ w46 ⟨hS_, h0_, h1_, h2_, h3_, h4_, h5_, h6_, h7_, h8_, h9_, h10_, h11_, h12_, h13_⟩
                   have n0_ : Aside0 (Kd.R k45 45 w46 w.heap.size (fun k_ => k_ ≠ gb406) v412 y411) := ⟨h0_⟩
                   have n1_ : Aside0 (w46.heap[gb405]? = some (.cells #[.int .i64 a0_0, .slice A0_1 l0_1.length c0_1] 26 (0, 0))) := ⟨h1_⟩
                   have n2_ : Aside0 (w46.heap[gb406]? = some (.cells #[.int .i64 a1_0, .int .i64 a1_1, .int .i64 a1_2, .int .i64 a1_3] 45 (0, 0))) := ⟨h2_⟩
                   have n3_ : Aside0 (w46.heap[gb407]? = some (.cells #[.int .i64 0, .slice none 0 0] 26 (0, 0))) := ⟨h3_⟩
                   have n4_ : Aside0 (w46.heap[gb432]? = some (.cells #[.int .i64 0, .slice none 0 0] 26 (0, 0))) := ⟨h4_⟩
                   have n5_ : Aside0 (w.heap.size ≤ gb432) := ⟨h5_⟩
                   have n6_ : Aside0 (w.heap.size ≤ gb432) := ⟨h6_⟩
                   have n7_ : Aside0 (gb405 ≠ gb432) := ⟨h7_⟩
                   have n8_ : Aside0 (gb432 ≠ gb405) := ⟨h8_⟩
                   have n9_ : Aside0 (gb406 ≠ gb432) := ⟨h9_⟩
                   have n10_ : Aside0 (gb432 ≠ gb406) := ⟨h10_⟩
                   have n11_ : Aside0 (gb407 ≠ gb432) := ⟨h11_⟩
                   have n12_ : Aside0 (gb432 ≠ gb407) := ⟨h12_⟩
                   have n13_ : Aside0 (Below w.heap.size w w46) := ⟨h13_⟩
                   clear BK405
                   clear BK406
                   clear BK407
                   clear HB
                   clear h0_ h1_ h2_ h3_ h4_ h5_ h6_ h7_ h8_ h9_ h10_ h11_ h12_ h13_
                   have HO413 := n0_
                   have BK405 := n1_
                   have BK406 := n2_
                   have BK407 := n3_
                   have BK432 := n4_
                   have GW432 := n5_
                   have GE432 := n6_
                   have NB405_432 := n7_
                   have NB432_405 := n8_
                   have NB406_432 := n9_
                   have NB432_406 := n10_
                   have NB407_432 := n11_
                   have NB432_407 := n12_
                   have HB := n13_
                   clear n0_ n1_ n2_ n3_ n4_ n5_ n6_ n7_ n8_ n9_ n10_ n11_ n12_ n13_
                   have hHeld : w46.cell? ⟨gb405, 0, none⟩ = some (.int .i64 a0_0) ∧ w46.cell? ⟨gb405, 1, none⟩ = some (.slice A0_1 l0_1.length c0_1) ∧ w46.cell? ⟨gb406, 0, none⟩ = some (.int .i64 a1_0) ∧ w46.cell? ⟨gb406, 1, none⟩ = some (.int .i64 a1_1) ∧ w46.cell? ⟨gb406, 2, none⟩ = some (.int .i64 a1_2) ∧ w46.cell? ⟨gb406, 3, none⟩ = some (.int .i64 a1_3) := hS_
                   refine norm_ (a' := ?_) ?_ ?_
                   rotate_left
                   ·simp only [putAll, Act.put, q1_, q2_, q3_]
                    rfl
                   refine two_ (i := 5) (j := 7) (Ni := some 31) (Nj := some 33) #[true, true, true, true, true, true, true, false, false, false, false, false, false, false, true, false, false] #[true, true, true, true, true, false, true, true, false, false, false, false, false, false, true, false, false] rfl rfl rfl rfl (two_of HT_.out (by kernel_rfl)) (by decide) (by decide) (fun K hK => ?_) (fun K hK => ?_)
                   ·skip
                    refine Kd.R_append_rows_step k45 (w0 := w) w.heap.size (by rfl) (.tmp 28) (.tmp 30) 24 45 (.agg #[(.int .i64 0), (.int .i64 0), (.int .i64 0), (.int .i64 0)]) 32 rfl Try.underlying24 info45 rfl (by decide) (by omega) v412 y411 l0_1 _ _ _ (fun k_ => k_ ≠ gb406) (fun _ => False) rfl rfl ?aO ?aR (fun _ _ h => h) (fun _ h => h.elim) ?aF ?aB ?aS ?aL ?_
                    (case aR => repeat (first | exact (Kd.C_below HR0_1.out HB.out) | (with_reducible refine Kd.C_alloc ?_ _) | (with_reducible refine Kd.C_drewN ?_ _) | (with_reducible refine Kd.C_drew ?_)))
                    (case aB => exact (by repeat (first | (with_reducible first | exact HB.out | apply lA_ | apply lN_ | apply lD_ | refine lS_ ?_ GE405.out | refine lS_ ?_ GE406.out | refine lS_ ?_ GE407.out | refine lS_ ?_ GE432.out) | exact HB.out)))
                    (case aF => exact (fun k_ hk => Kd.freshB (g := gb406) (o := .cells #[.int .i64 a1_0, .int .i64 a1_1, .int .i64 a1_2, .int .i64 a1_3] 45 (0, 0)) (by (with_reducible repeat (first | apply bN_ | apply bD_ | apply bA_)); exact BK406.out) k_ hk))
                    (case aO => exact (by (with_reducible repeat (first | apply Kd.R_alloc | apply Kd.R_drewN | apply Kd.R_drew)); exact HO413.out))
                    (case aS => exact (below_size (by repeat (first | (with_reducible first | exact HB.out | apply lA_ | apply lN_ | apply lD_ | refine lS_ ?_ GE405.out | refine lS_ ?_ GE406.out | refine lS_ ?_ GE407.out | refine lS_ ?_ GE432.out) | exact HB.out))))
                    (case aL => have := LMc24.out; omega)
                    intro v415 w47 ho hb hg hat
                    rw [← Ny414.out] at ho
                    have n0_ := Aside0.mk (blk_grown (g := gb405) (o := .cells #[.int .i64 a0_0, .slice A0_1 l0_1.length c0_1] 26 (0, 0)) (by (with_reducible repeat (first | apply bN_ | apply bD_ | apply bA_)); exact BK405.out) hg (Kd.R_ne HO413.out BK405.out (by decide)))
                    have n1_ := Aside0.mk (blk_grown (g := gb406) (o := .cells #[.int .i64 a1_0, .int .i64 a1_1, .int .i64 a1_2, .int .i64 a1_3] 45 (0, 0)) (by (with_reducible repeat (first | apply bN_ | apply bD_ | apply bA_)); exact BK406.out) hg (Kd.R_away HO413.out (fun _ hk => hk)))
                    have n2_ := Aside0.mk (blk_grown (g := gb407) (o := .cells #[.int .i64 0, .slice none 0 0] 26 (0, 0)) (by (with_reducible repeat (first | apply bN_ | apply bD_ | apply bA_)); exact BK407.out) hg (Kd.R_ne HO413.out BK407.out (by decide)))
                    have n3_ := Aside0.mk (blk_grown (g := gb432) (o := .cells #[.int .i64 0, .slice none 0 0] 26 (0, 0)) (by (with_reducible repeat (first | apply bN_ | apply bD_ | apply bA_)); exact BK432.out) hg (Kd.R_ne HO413.out BK432.out (by decide)))
                    have n4_ := Aside0.mk (hb)
                    have n5_ := Aside0.mk (ho)
                    clear BK405
                    clear BK406
                    clear BK407
                    clear BK432
                    clear HB
                    clear HO413
                    have BK405 := n0_
                    have BK406 := n1_
                    have BK407 := n2_
                    have BK432 := n3_
                    have HB := n4_
                    have HO416 := n5_
                    clear n0_ n1_ n2_ n3_ n4_ n5_
                    clear ho hb hg hat
                    refine hK.out _ _ ⟨(blk_cell BK405.out 0).trans rfl, (blk_cell BK405.out 1).trans rfl, (blk_cell BK406.out 0).trans rfl, (blk_cell BK406.out 1).trans rfl, (blk_cell BK406.out 2).trans rfl, (blk_cell BK406.out 3).trans rfl⟩ (fun hHeld => ?_)
                    clear hK K
                    refine norm_ (a' := ?_) ?_ ?_
                    rotate_left
                    ·show Act.put _ (some 31) _ = _
                     simp only [Act.put, q1_, q2_, q3_, i64_w, i32_w]
                     rfl
                    exact norm_ (by first | (simp only [putAll, Act.put, q1_, q2_, q3_]; done) | (simp only [putAll, Act.put, q1_, q2_, q3_]; rfl)) (hJ2_5_14 (v412, v415, gb432) _ ⟨hHeld, (by (with_reducible repeat (first | apply Kd.R_alloc | apply Kd.R_drewN | apply Kd.R_drew)); exact HO416.out), (by (with_reducible repeat (first | apply bN_ | apply bD_ | apply bA_)); exact BK405.out), (by (with_reducible repeat (first | apply bN_ | apply bD_ | apply bA_)); exact BK406.out), (by (with_reducible repeat (first | apply bN_ | apply bD_ | apply bA_)); exact BK407.out), (by (with_reducible repeat (first | apply bN_ | apply bD_ | apply bA_)); exact BK432.out), GW432.out, GE432.out, NB405_432.out, NB432_405.out, NB406_432.out, NB432_406.out, NB407_432.out, NB432_407.out, (by repeat (first | (with_reducible first | exact HB.out | apply lA_ | apply lN_ | apply lD_ | refine lS_ ?_ GE405.out | refine lS_ ?_ GE406.out | refine lS_ ?_ GE407.out | refine lS_ ?_ GE432.out) | exact HB.out))⟩)
                   ·skip
                    refine Kd.R_lit_step k45 _ 45 ?hg (N := 33) ?hd (xs := ([(⟨a1_0, a1_1, a1_2, a1_3⟩ : S45)] : List (S45))) (inner := [.int .i64 a1_0, .int .i64 a1_1, .int .i64 a1_2, .int .i64 a1_3]) (ok := fun _ => True) (okp := fun _ => True) ?hr ?hp (fun _ hk => hk) trivial (Below.refl _ _) (Nat.le_refl _) (by simp) ?_; (case hd => rfl); (case hg => rfl); (case hr => first | (go_simp; done) | (go_simp; rfl)); (case hp => exact (Reps.c4 (show Kd.M k45 _ _ _ (⟨a1_0, a1_1, a1_2, a1_3⟩ : S45) [.int .i64 a1_0, .int .i64 a1_1, .int .i64 a1_2, .int .i64 a1_3] from (k45_mkM _ _ _ (⟨a1_0, a1_1, a1_2, a1_3⟩ : S45) )) (Reps.none _ _)))
                    intro v418 w47 ho48 hb hg_ hnew_
                    clear hg_ hnew_
                    (first | rw [← Ny417.out] at ho48 | (simp only [Int.reduceToNat] at ho48; rw [← Ny417.out] at ho48))
                    have n0_ := Aside0.mk (Kd.R_elder' (by (with_reducible repeat (first | apply Kd.R_alloc | apply Kd.R_drewN | apply Kd.R_drew)); exact HO413.out) (Kd.R_base ho48) hb)
                    have n1_ := Aside0.mk (Kd.R_lower (Kd.R_newB (Kd.R_new' ho48 (Kd.R_lt (by (with_reducible repeat (first | apply Kd.R_alloc | apply Kd.R_drewN | apply Kd.R_drew)); exact HO413.out))) (g := gb406) (o := .cells #[.int .i64 a1_0, .int .i64 a1_1, .int .i64 a1_2, .int .i64 a1_3] 45 (0, 0)) (by (with_reducible repeat (first | apply bN_ | apply bD_ | apply bA_)); exact BK406.out)) (below_size (by repeat (first | (with_reducible first | exact HB.out | apply lA_ | apply lN_ | apply lD_ | refine lS_ ?_ GE405.out | refine lS_ ?_ GE406.out | refine lS_ ?_ GE407.out | refine lS_ ?_ GE432.out) | exact HB.out))))
                    have n2_ := Aside0.mk (blk_below (g := gb405) (o := .cells #[.int .i64 a0_0, .slice A0_1 l0_1.length c0_1] 26 (0, 0)) (by (with_reducible repeat (first | apply bN_ | apply bD_ | apply bA_)); exact BK405.out) hb)
                    have n3_ := Aside0.mk (blk_below (g := gb406) (o := .cells #[.int .i64 a1_0, .int .i64 a1_1, .int .i64 a1_2, .int .i64 a1_3] 45 (0, 0)) (by (with_reducible repeat (first | apply bN_ | apply bD_ | apply bA_)); exact BK406.out) hb)
                    have n4_ := Aside0.mk (blk_below (g := gb407) (o := .cells #[.int .i64 0, .slice none 0 0] 26 (0, 0)) (by (with_reducible repeat (first | apply bN_ | apply bD_ | apply bA_)); exact BK407.out) hb)
                    have n5_ := Aside0.mk (blk_below (g := gb432) (o := .cells #[.int .i64 0, .slice none 0 0] 26 (0, 0)) (by (with_reducible repeat (first | apply bN_ | apply bD_ | apply bA_)); exact BK432.out) hb)
                    have n6_ := Aside0.mk (below_step (by repeat (first | (with_reducible first | exact HB.out | apply lA_ | apply lN_ | apply lD_ | refine lS_ ?_ GE405.out | refine lS_ ?_ GE406.out | refine lS_ ?_ GE407.out | refine lS_ ?_ GE432.out) | exact HB.out)) hb)
                    clear HO413
                    clear BK405
                    clear BK406
                    clear BK407
                    clear BK432
                    clear HB
                    have HO413 := n0_
                    have HO419 := n1_
                    have BK405 := n2_
                    have BK406 := n3_
                    have BK407 := n4_
                    have BK432 := n5_
                    have HB := n6_
                    clear n0_ n1_ n2_ n3_ n4_ n5_ n6_
                    clear hb ho48
                    refine hK.out _ _ ⟨(blk_cell BK405.out 0).trans rfl, (blk_cell BK405.out 1).trans rfl, (blk_cell BK406.out 0).trans rfl, (blk_cell BK406.out 1).trans rfl, (blk_cell BK406.out 2).trans rfl, (blk_cell BK406.out 3).trans rfl⟩ (fun hHeld => ?_)
                    clear hK K
                    refine norm_ (a' := ?_) ?_ ?_
                    rotate_left
                    ·show Act.put _ (some 33) _ = _
                     simp only [Act.put, q1_, q2_, q3_, i64_w, i32_w]
                     rfl
                    exact norm_ (by first | (simp only [putAll, Act.put, q1_, q2_, q3_]; done) | (simp only [putAll, Act.put, q1_, q2_, q3_]; rfl)) (hJ2_7_14 (v412, v418, gb432) _ ⟨hHeld, (by (with_reducible repeat (first | apply Kd.R_alloc | apply Kd.R_drewN | apply Kd.R_drew)); exact Kd.R_mono HO413.out (fun _ hk => ⟨hk.2, hk.1⟩)), (by (with_reducible repeat (first | apply Kd.R_alloc | apply Kd.R_drewN | apply Kd.R_drew)); exact Kd.R_mono HO419.out (fun _ hk => ⟨hk.1.2, hk.2⟩)), (by (with_reducible repeat (first | apply bN_ | apply bD_ | apply bA_)); exact BK405.out), (by (with_reducible repeat (first | apply bN_ | apply bD_ | apply bA_)); exact BK406.out), (by (with_reducible repeat (first | apply bN_ | apply bD_ | apply bA_)); exact BK407.out), (by (with_reducible repeat (first | apply bN_ | apply bD_ | apply bA_)); exact BK432.out), GW432.out, GE432.out, NB405_432.out, NB432_405.out, NB406_432.out, NB432_406.out, NB407_432.out, NB432_407.out, (by repeat (first | (with_reducible first | exact HB.out | apply lA_ | apply lN_ | apply lD_ | refine lS_ ?_ GE405.out | refine lS_ ?_ GE406.out | refine lS_ ?_ GE407.out | refine lS_ ?_ GE432.out) | exact HB.out))⟩)
                 ·skip
                  rintro ⟨v412, v418⟩ w47 ⟨hS_, h0_, h1_, h2_, h3_, h4_, h5_⟩
                  have n0_ : Aside0 (Kd.R k45 45 w47 w.heap.size (fun k_ => some k_ ≠ (v418 : Value).ownBlock ∧ k_ ≠ gb406) v412 y411) := ⟨h0_⟩
                  have n1_ : Aside0 (Kd.R k45 45 w47 w.heap.size (fun k_ => some k_ ≠ (v412 : Value).ownBlock ∧ k_ ≠ gb406) v418 y417) := ⟨h1_⟩
                  have n2_ : Aside0 (w47.heap[gb405]? = some (.cells #[.int .i64 a0_0, .slice A0_1 l0_1.length c0_1] 26 (0, 0))) := ⟨h2_⟩
                  have n3_ : Aside0 (w47.heap[gb406]? = some (.cells #[.int .i64 a1_0, .int .i64 a1_1, .int .i64 a1_2, .int .i64 a1_3] 45 (0, 0))) := ⟨h3_⟩
                  have n4_ : Aside0 (w47.heap[gb407]? = some (.cells #[.int .i64 0, .slice none 0 0] 26 (0, 0))) := ⟨h4_⟩
                  have n5_ : Aside0 (Below w.heap.size w w47) := ⟨h5_⟩
                  clear BK405
                  clear BK406
                  clear BK407
                  clear HB
                  clear h0_ h1_ h2_ h3_ h4_ h5_
                  have HO413 := n0_
                  have HO419 := n1_
                  have BK405 := n2_
                  have BK406 := n3_
                  have BK407 := n4_
                  have HB := n5_
                  clear n0_ n1_ n2_ n3_ n4_ n5_
                  have hHeld : w47.cell? ⟨gb405, 0, none⟩ = some (.int .i64 a0_0) ∧ w47.cell? ⟨gb405, 1, none⟩ = some (.slice A0_1 l0_1.length c0_1) ∧ w47.cell? ⟨gb406, 0, none⟩ = some (.int .i64 a1_0) ∧ w47.cell? ⟨gb406, 1, none⟩ = some (.int .i64 a1_1) ∧ w47.cell? ⟨gb406, 2, none⟩ = some (.int .i64 a1_2) ∧ w47.cell? ⟨gb406, 3, none⟩ = some (.int .i64 a1_3) := hS_
                  refine norm_ (a' := ?_) ?_ ?_
                  rotate_left
                  ·simp only [putAll, Act.put, q1_, q2_, q3_]
                   rfl
                  refine two_ (i := 5) (j := 14) (Ni := some 31) (Nj := some 6) #[true, true, true, true, true, true, true, true, false, false, false, false, false, false, false, false, false] #[true, true, true, true, true, false, true, true, false, false, false, false, false, false, true, false, false] rfl rfl rfl rfl (two_of HT_.out (by kernel_rfl)) (by decide) (by decide) (fun K hK => ?_) (fun K hK => ?_)
                  ·skip
                   refine Kd.R_append_rows_step k45 (w0 := w) w.heap.size (by rfl) (.tmp 28) (.tmp 30) 24 45 (.agg #[(.int .i64 0), (.int .i64 0), (.int .i64 0), (.int .i64 0)]) 32 rfl Try.underlying24 info45 rfl (by decide) (by omega) v412 y411 l0_1 _ _ _ (fun k_ => some k_ ≠ (v418 : Value).ownBlock ∧ k_ ≠ gb406) (fun _ => False) rfl rfl ?aO ?aR (fun _ _ h => h) (fun _ h => h.elim) ?aF ?aB ?aS ?aL ?_
                   (case aR => repeat (first | exact (Kd.C_below HR0_1.out HB.out) | (with_reducible refine Kd.C_alloc ?_ _) | (with_reducible refine Kd.C_drewN ?_ _) | (with_reducible refine Kd.C_drew ?_)))
                   (case aB => exact (by repeat (first | (with_reducible first | exact HB.out | apply lA_ | apply lN_ | apply lD_ | refine lS_ ?_ GE405.out | refine lS_ ?_ GE406.out | refine lS_ ?_ GE407.out) | exact HB.out)))
                   (case aF => exact (fun k_ hk => ⟨Kd.fresh' (Kd.R_lt (by (with_reducible repeat (first | apply Kd.R_alloc | apply Kd.R_drewN | apply Kd.R_drew)); exact HO419.out)) k_ hk, Kd.freshB (g := gb406) (o := .cells #[.int .i64 a1_0, .int .i64 a1_1, .int .i64 a1_2, .int .i64 a1_3] 45 (0, 0)) (by (with_reducible repeat (first | apply bN_ | apply bD_ | apply bA_)); exact BK406.out) k_ hk⟩))
                   (case aO => exact (by (with_reducible repeat (first | apply Kd.R_alloc | apply Kd.R_drewN | apply Kd.R_drew)); exact HO413.out))
                   (case aS => exact (below_size (by repeat (first | (with_reducible first | exact HB.out | apply lA_ | apply lN_ | apply lD_ | refine lS_ ?_ GE405.out | refine lS_ ?_ GE406.out | refine lS_ ?_ GE407.out) | exact HB.out))))
                   (case aL => have := LMc24.out; omega)
                   intro v415 w48 ho hb hg hat
                   rw [← Ny414.out] at ho
                   have n0_ := Aside0.mk (blk_grown (g := gb405) (o := .cells #[.int .i64 a0_0, .slice A0_1 l0_1.length c0_1] 26 (0, 0)) (by (with_reducible repeat (first | apply bN_ | apply bD_ | apply bA_)); exact BK405.out) hg (Kd.R_ne HO413.out BK405.out (by decide)))
                   have n1_ := Aside0.mk (blk_grown (g := gb406) (o := .cells #[.int .i64 a1_0, .int .i64 a1_1, .int .i64 a1_2, .int .i64 a1_3] 45 (0, 0)) (by (with_reducible repeat (first | apply bN_ | apply bD_ | apply bA_)); exact BK406.out) hg (Kd.R_away HO413.out (fun _ hk => hk.2)))
                   have n2_ := Aside0.mk (blk_grown (g := gb407) (o := .cells #[.int .i64 0, .slice none 0 0] 26 (0, 0)) (by (with_reducible repeat (first | apply bN_ | apply bD_ | apply bA_)); exact BK407.out) hg (Kd.R_ne HO413.out BK407.out (by decide)))
                   have n3_ := Aside0.mk (Kd.R_after (ok := (fun k_ => k_ ≠ gb406)) (by (with_reducible repeat (first | apply Kd.R_alloc | apply Kd.R_drewN | apply Kd.R_drew)); exact Kd.R_mono HO419.out (fun _ hk => ⟨hk.2, hk.1⟩)) hg hat)
                   have n4_ := Aside0.mk (hb)
                   have n5_ := Aside0.mk (ho)
                   clear BK405
                   clear BK406
                   clear BK407
                   clear HO419
                   clear HB
                   clear HO413
                   have BK405 := n0_
                   have BK406 := n1_
                   have BK407 := n2_
                   have HO419 := n3_
                   have HB := n4_
                   have HO416 := n5_
                   clear n0_ n1_ n2_ n3_ n4_ n5_
                   clear ho hb hg hat
                   refine hK.out _ _ ⟨(blk_cell BK405.out 0).trans rfl, (blk_cell BK405.out 1).trans rfl, (blk_cell BK406.out 0).trans rfl, (blk_cell BK406.out 1).trans rfl, (blk_cell BK406.out 2).trans rfl, (blk_cell BK406.out 3).trans rfl⟩ (fun hHeld => ?_)
                   clear hK K
                   refine norm_ (a' := ?_) ?_ ?_
                   rotate_left
                   ·show Act.put _ (some 31) _ = _
                    simp only [Act.put, q1_, q2_, q3_, i64_w, i32_w]
                    rfl
                   exact norm_ (by first | (simp only [putAll, Act.put, q1_, q2_, q3_]; done) | (simp only [putAll, Act.put, q1_, q2_, q3_]; rfl)) (hJ2_5_7 (v412, v415, v418) _ ⟨hHeld, (by (with_reducible repeat (first | apply Kd.R_alloc | apply Kd.R_drewN | apply Kd.R_drew)); exact HO416.out), (by (with_reducible repeat (first | apply Kd.R_alloc | apply Kd.R_drewN | apply Kd.R_drew)); exact Kd.R_mono HO419.out (fun _ hk => ⟨hk.2, hk.1⟩)), (by (with_reducible repeat (first | apply bN_ | apply bD_ | apply bA_)); exact BK405.out), (by (with_reducible repeat (first | apply bN_ | apply bD_ | apply bA_)); exact BK406.out), (by (with_reducible repeat (first | apply bN_ | apply bD_ | apply bA_)); exact BK407.out), (by repeat (first | (with_reducible first | exact HB.out | apply lA_ | apply lN_ | apply lD_ | refine lS_ ?_ GE405.out | refine lS_ ?_ GE406.out | refine lS_ ?_ GE407.out) | exact HB.out))⟩)
                  ·skip
                   refine box_step ?hg (N := 6) ?hd (cs := #[.int .i64 0, .slice none 0 0]) (t := 26) ?hr ?_; (case hd => rfl); (case hg => rfl); (case hr => first | (go_simp; done) | (go_simp; rfl))
                   intro gb432 hg w48 hbox hb
                   have n0_ := Aside0.mk (Kd.R_below (by (with_reducible repeat (first | apply Kd.R_alloc | apply Kd.R_drewN | apply Kd.R_drew)); exact HO413.out) hb)
                   have n1_ := Aside0.mk (Kd.R_below (by (with_reducible repeat (first | apply Kd.R_alloc | apply Kd.R_drewN | apply Kd.R_drew)); exact HO419.out) hb)
                   have n2_ := Aside0.mk (blk_below (g := gb405) (o := .cells #[.int .i64 a0_0, .slice A0_1 l0_1.length c0_1] 26 (0, 0)) (by (with_reducible repeat (first | apply bN_ | apply bD_ | apply bA_)); exact BK405.out) hb)
                   have n3_ := Aside0.mk (blk_below (g := gb406) (o := .cells #[.int .i64 a1_0, .int .i64 a1_1, .int .i64 a1_2, .int .i64 a1_3] 45 (0, 0)) (by (with_reducible repeat (first | apply bN_ | apply bD_ | apply bA_)); exact BK406.out) hb)
                   have n4_ := Aside0.mk (blk_below (g := gb407) (o := .cells #[.int .i64 0, .slice none 0 0] 26 (0, 0)) (by (with_reducible repeat (first | apply bN_ | apply bD_ | apply bA_)); exact BK407.out) hb)
                   have n5_ := Aside0.mk (below_step (by repeat (first | (with_reducible first | exact HB.out | apply lA_ | apply lN_ | apply lD_ | refine lS_ ?_ GE405.out | refine lS_ ?_ GE406.out | refine lS_ ?_ GE407.out) | exact HB.out)) hb)
                   have n6_ := Aside0.mk (hbox)
                   have n7_ := Aside0.mk ((by rw [hg]; exact (below_size (by repeat (first | (with_reducible first | exact HB.out | apply lA_ | apply lN_ | apply lD_ | refine lS_ ?_ GE405.out | refine lS_ ?_ GE406.out | refine lS_ ?_ GE407.out) | exact HB.out))) : w.heap.size ≤ gb432))
                   have n8_ := Aside0.mk ((by rw [hg]; exact (below_size (by repeat (first | (with_reducible first | exact HB.out | apply lA_ | apply lN_ | apply lD_ | refine lS_ ?_ GE405.out | refine lS_ ?_ GE406.out | refine lS_ ?_ GE407.out) | exact HB.out))) : w.heap.size ≤ gb432))
                   have n9_ := Aside0.mk ((by rw [hg]; exact Nat.ne_of_lt (blk_lt (g := gb405) (o := .cells #[.int .i64 a0_0, .slice A0_1 l0_1.length c0_1] 26 (0, 0)) (by (with_reducible repeat (first | apply bN_ | apply bD_ | apply bA_)); exact BK405.out)) : gb405 ≠ gb432))
                   have n10_ := Aside0.mk ((by rw [hg]; exact Nat.ne_of_gt (blk_lt (g := gb405) (o := .cells #[.int .i64 a0_0, .slice A0_1 l0_1.length c0_1] 26 (0, 0)) (by (with_reducible repeat (first | apply bN_ | apply bD_ | apply bA_)); exact BK405.out)) : gb432 ≠ gb405))
                   have n11_ := Aside0.mk ((by rw [hg]; exact Nat.ne_of_lt (blk_lt (g := gb406) (o := .cells #[.int .i64 a1_0, .int .i64 a1_1, .int .i64 a1_2, .int .i64 a1_3] 45 (0, 0)) (by (with_reducible repeat (first | apply bN_ | apply bD_ | apply bA_)); exact BK406.out)) : gb406 ≠ gb432))
                   have n12_ := Aside0.mk ((by rw [hg]; exact Nat.ne_of_gt (blk_lt (g := gb406) (o := .cells #[.int .i64 a1_0, .int .i64 a1_1, .int .i64 a1_2, .int .i64 a1_3] 45 (0, 0)) (by (with_reducible repeat (first | apply bN_ | apply bD_ | apply bA_)); exact BK406.out)) : gb432 ≠ gb406))
                   have n13_ := Aside0.mk ((by rw [hg]; exact Nat.ne_of_lt (blk_lt (g := gb407) (o := .cells #[.int .i64 0, .slice none 0 0] 26 (0, 0)) (by (with_reducible repeat (first | apply bN_ | apply bD_ | apply bA_)); exact BK407.out)) : gb407 ≠ gb432))
                   have n14_ := Aside0.mk ((by rw [hg]; exact Nat.ne_of_gt (blk_lt (g := gb407) (o := .cells #[.int .i64 0, .slice none 0 0] 26 (0, 0)) (by (with_reducible repeat (first | apply bN_ | apply bD_ | apply bA_)); exact BK407.out)) : gb432 ≠ gb407))
                   clear HO413
                   clear HO419
                   clear BK405
                   clear BK406
                   clear BK407
                   clear HB
                   have HO413 := n0_
                   have HO419 := n1_
                   have BK405 := n2_
                   have BK406 := n3_
                   have BK407 := n4_
                   have HB := n5_
                   have BK432 := n6_
                   have GW432 := n7_
                   have GE432 := n8_
                   have NB405_432 := n9_
                   have NB432_405 := n10_
                   have NB406_432 := n11_
                   have NB432_406 := n12_
                   have NB407_432 := n13_
                   have NB432_407 := n14_
                   clear n0_ n1_ n2_ n3_ n4_ n5_ n6_ n7_ n8_ n9_ n10_ n11_ n12_ n13_ n14_
                   clear hb hbox hg
                   refine hK.out _ _ ⟨(blk_cell BK405.out 0).trans rfl, (blk_cell BK405.out 1).trans rfl, (blk_cell BK406.out 0).trans rfl, (blk_cell BK406.out 1).trans rfl, (blk_cell BK406.out 2).trans rfl, (blk_cell BK406.out 3).trans rfl⟩ (fun hHeld => ?_)
                   clear hK K
                   refine norm_ (a' := ?_) ?_ ?_
                   rotate_left
                   ·show Act.put _ (some 6) _ = _
                    simp only [Act.put, q1_, q2_, q3_, i64_w, i32_w]
                    rfl
                   exact norm_ (by first | (simp only [putAll, Act.put, q1_, q2_, q3_]; done) | (simp only [putAll, Act.put, q1_, q2_, q3_]; rfl)) (hJ2_7_14 (v412, v418, gb432) _ ⟨hHeld, (by (with_reducible repeat (first | apply Kd.R_alloc | apply Kd.R_drewN | apply Kd.R_drew)); exact HO413.out), (by (with_reducible repeat (first | apply Kd.R_alloc | apply Kd.R_drewN | apply Kd.R_drew)); exact HO419.out), (by (with_reducible repeat (first | apply bN_ | apply bD_ | apply bA_)); exact BK405.out), (by (with_reducible repeat (first | apply bN_ | apply bD_ | apply bA_)); exact BK406.out), (by (with_reducible repeat (first | apply bN_ | apply bD_ | apply bA_)); exact BK407.out), (by (with_reducible repeat (first | apply bN_ | apply bD_ | apply bA_)); exact BK432.out), GW432.out, GE432.out, NB405_432.out, NB432_405.out, NB406_432.out, NB432_406.out, NB407_432.out, NB432_407.out, (by repeat (first | (with_reducible first | exact HB.out | apply lA_ | apply lN_ | apply lD_ | refine lS_ ?_ GE405.out | refine lS_ ?_ GE406.out | refine lS_ ?_ GE407.out | refine lS_ ?_ GE432.out) | exact HB.out))⟩)
                ·skip
                 rintro ⟨v412, v415⟩ w46 ⟨hS_, h0_, h1_, h2_, h3_, h4_⟩
                 have n0_ : Aside0 (Kd.R k45 45 w46 w.heap.size (fun k_ => k_ ≠ gb406) v415 y414) := ⟨h0_⟩
                 have n1_ : Aside0 (w46.heap[gb405]? = some (.cells #[.int .i64 a0_0, .slice A0_1 l0_1.length c0_1] 26 (0, 0))) := ⟨h1_⟩
                 have n2_ : Aside0 (w46.heap[gb406]? = some (.cells #[.int .i64 a1_0, .int .i64 a1_1, .int .i64 a1_2, .int .i64 a1_3] 45 (0, 0))) := ⟨h2_⟩
                 have n3_ : Aside0 (w46.heap[gb407]? = some (.cells #[.int .i64 0, .slice none 0 0] 26 (0, 0))) := ⟨h3_⟩
                 have n4_ : Aside0 (Below w.heap.size w w46) := ⟨h4_⟩
                 clear BK405
                 clear BK406
                 clear BK407
                 clear HB
                 clear h0_ h1_ h2_ h3_ h4_
                 have HO416 := n0_
                 have BK405 := n1_
                 have BK406 := n2_
                 have BK407 := n3_
                 have HB := n4_
                 clear n0_ n1_ n2_ n3_ n4_
                 have hHeld : w46.cell? ⟨gb405, 0, none⟩ = some (.int .i64 a0_0) ∧ w46.cell? ⟨gb405, 1, none⟩ = some (.slice A0_1 l0_1.length c0_1) ∧ w46.cell? ⟨gb406, 0, none⟩ = some (.int .i64 a1_0) ∧ w46.cell? ⟨gb406, 1, none⟩ = some (.int .i64 a1_1) ∧ w46.cell? ⟨gb406, 2, none⟩ = some (.int .i64 a1_2) ∧ w46.cell? ⟨gb406, 3, none⟩ = some (.int .i64 a1_3) := hS_
                 refine norm_ (a' := ?_) ?_ ?_
                 rotate_left
                 ·simp only [putAll, Act.put, q1_, q2_, q3_]
                  rfl
                 refine two_ (i := 7) (j := 14) (Ni := some 33) (Nj := some 6) #[true, true, true, true, true, true, true, true, false, false, false, false, false, false, false, false, false] #[true, true, true, true, true, true, true, false, false, false, false, false, false, false, true, false, false] rfl rfl rfl rfl (two_of HT_.out (by kernel_rfl)) (by decide) (by decide) (fun K hK => ?_) (fun K hK => ?_)
                 ·skip
                  refine Kd.R_lit_step k45 _ 45 ?hg (N := 33) ?hd (xs := ([(⟨a1_0, a1_1, a1_2, a1_3⟩ : S45)] : List (S45))) (inner := [.int .i64 a1_0, .int .i64 a1_1, .int .i64 a1_2, .int .i64 a1_3]) (ok := fun _ => True) (okp := fun _ => True) ?hr ?hp (fun _ hk => hk) trivial (Below.refl _ _) (Nat.le_refl _) (by simp) ?_; (case hd => rfl); (case hg => rfl); (case hr => first | (go_simp; done) | (go_simp; rfl)); (case hp => exact (Reps.c4 (show Kd.M k45 _ _ _ (⟨a1_0, a1_1, a1_2, a1_3⟩ : S45) [.int .i64 a1_0, .int .i64 a1_1, .int .i64 a1_2, .int .i64 a1_3] from (k45_mkM _ _ _ (⟨a1_0, a1_1, a1_2, a1_3⟩ : S45) )) (Reps.none _ _)))
                  intro v418 w47 ho48 hb hg_ hnew_
                  clear hg_ hnew_
                  (first | rw [← Ny417.out] at ho48 | (simp only [Int.reduceToNat] at ho48; rw [← Ny417.out] at ho48))
                  have n0_ := Aside0.mk (Kd.R_elder' (by (with_reducible repeat (first | apply Kd.R_alloc | apply Kd.R_drewN | apply Kd.R_drew)); exact HO416.out) (Kd.R_base ho48) hb)
                  have n1_ := Aside0.mk (Kd.R_lower (Kd.R_newB (Kd.R_new' ho48 (Kd.R_lt (by (with_reducible repeat (first | apply Kd.R_alloc | apply Kd.R_drewN | apply Kd.R_drew)); exact HO416.out))) (g := gb406) (o := .cells #[.int .i64 a1_0, .int .i64 a1_1, .int .i64 a1_2, .int .i64 a1_3] 45 (0, 0)) (by (with_reducible repeat (first | apply bN_ | apply bD_ | apply bA_)); exact BK406.out)) (below_size (by repeat (first | (with_reducible first | exact HB.out | apply lA_ | apply lN_ | apply lD_ | refine lS_ ?_ GE405.out | refine lS_ ?_ GE406.out | refine lS_ ?_ GE407.out) | exact HB.out))))
                  have n2_ := Aside0.mk (blk_below (g := gb405) (o := .cells #[.int .i64 a0_0, .slice A0_1 l0_1.length c0_1] 26 (0, 0)) (by (with_reducible repeat (first | apply bN_ | apply bD_ | apply bA_)); exact BK405.out) hb)
                  have n3_ := Aside0.mk (blk_below (g := gb406) (o := .cells #[.int .i64 a1_0, .int .i64 a1_1, .int .i64 a1_2, .int .i64 a1_3] 45 (0, 0)) (by (with_reducible repeat (first | apply bN_ | apply bD_ | apply bA_)); exact BK406.out) hb)
                  have n4_ := Aside0.mk (blk_below (g := gb407) (o := .cells #[.int .i64 0, .slice none 0 0] 26 (0, 0)) (by (with_reducible repeat (first | apply bN_ | apply bD_ | apply bA_)); exact BK407.out) hb)
                  have n5_ := Aside0.mk (below_step (by repeat (first | (with_reducible first | exact HB.out | apply lA_ | apply lN_ | apply lD_ | refine lS_ ?_ GE405.out | refine lS_ ?_ GE406.out | refine lS_ ?_ GE407.out) | exact HB.out)) hb)
                  clear HO416
                  clear BK405
                  clear BK406
                  clear BK407
                  clear HB
                  have HO416 := n0_
                  have HO419 := n1_
                  have BK405 := n2_
                  have BK406 := n3_
                  have BK407 := n4_
                  have HB := n5_
                  clear n0_ n1_ n2_ n3_ n4_ n5_
                  clear hb ho48
                  refine hK.out _ _ ⟨(blk_cell BK405.out 0).trans rfl, (blk_cell BK405.out 1).trans rfl, (blk_cell BK406.out 0).trans rfl, (blk_cell BK406.out 1).trans rfl, (blk_cell BK406.out 2).trans rfl, (blk_cell BK406.out 3).trans rfl⟩ (fun hHeld => ?_)
                  clear hK K
                  refine norm_ (a' := ?_) ?_ ?_
                  rotate_left
                  ·show Act.put _ (some 33) _ = _
                   simp only [Act.put, q1_, q2_, q3_, i64_w, i32_w]
                   rfl
                  exact norm_ (by first | (simp only [putAll, Act.put, q1_, q2_, q3_]; done) | (simp only [putAll, Act.put, q1_, q2_, q3_]; rfl)) (hJ2_5_7 (v412, v415, v418) _ ⟨hHeld, (by (with_reducible repeat (first | apply Kd.R_alloc | apply Kd.R_drewN | apply Kd.R_drew)); exact Kd.R_mono HO416.out (fun _ hk => ⟨hk.2, hk.1⟩)), (by (with_reducible repeat (first | apply Kd.R_alloc | apply Kd.R_drewN | apply Kd.R_drew)); exact Kd.R_mono HO419.out (fun _ hk => ⟨hk.1.2, hk.2⟩)), (by (with_reducible repeat (first | apply bN_ | apply bD_ | apply bA_)); exact BK405.out), (by (with_reducible repeat (first | apply bN_ | apply bD_ | apply bA_)); exact BK406.out), (by (with_reducible repeat (first | apply bN_ | apply bD_ | apply bA_)); exact BK407.out), (by repeat (first | (with_reducible first | exact HB.out | apply lA_ | apply lN_ | apply lD_ | refine lS_ ?_ GE405.out | refine lS_ ?_ GE406.out | refine lS_ ?_ GE407.out) | exact HB.out))⟩)
                 ·skip
                  refine box_step ?hg (N := 6) ?hd (cs := #[.int .i64 0, .slice none 0 0]) (t := 26) ?hr ?_; (case hd => rfl); (case hg => rfl); (case hr => first | (go_simp; done) | (go_simp; rfl))
                  intro gb432 hg w47 hbox hb
                  have n0_ := Aside0.mk (Kd.R_below (by (with_reducible repeat (first | apply Kd.R_alloc | apply Kd.R_drewN | apply Kd.R_drew)); exact HO416.out) hb)
                  have n1_ := Aside0.mk (blk_below (g := gb405) (o := .cells #[.int .i64 a0_0, .slice A0_1 l0_1.length c0_1] 26 (0, 0)) (by (with_reducible repeat (first | apply bN_ | apply bD_ | apply bA_)); exact BK405.out) hb)
                  have n2_ := Aside0.mk (blk_below (g := gb406) (o := .cells #[.int .i64 a1_0, .int .i64 a1_1, .int .i64 a1_2, .int .i64 a1_3] 45 (0, 0)) (by (with_reducible repeat (first | apply bN_ | apply bD_ | apply bA_)); exact BK406.out) hb)
                  have n3_ := Aside0.mk (blk_below (g := gb407) (o := .cells #[.int .i64 0, .slice none 0 0] 26 (0, 0)) (by (with_reducible repeat (first | apply bN_ | apply bD_ | apply bA_)); exact BK407.out) hb)
                  have n4_ := Aside0.mk (below_step (by repeat (first | (with_reducible first | exact HB.out | apply lA_ | apply lN_ | apply lD_ | refine lS_ ?_ GE405.out | refine lS_ ?_ GE406.out | refine lS_ ?_ GE407.out) | exact HB.out)) hb)
                  have n5_ := Aside0.mk (hbox)
                  have n6_ := Aside0.mk ((by rw [hg]; exact (below_size (by repeat (first | (with_reducible first | exact HB.out | apply lA_ | apply lN_ | apply lD_ | refine lS_ ?_ GE405.out | refine lS_ ?_ GE406.out | refine lS_ ?_ GE407.out) | exact HB.out))) : w.heap.size ≤ gb432))
                  have n7_ := Aside0.mk ((by rw [hg]; exact (below_size (by repeat (first | (with_reducible first | exact HB.out | apply lA_ | apply lN_ | apply lD_ | refine lS_ ?_ GE405.out | refine lS_ ?_ GE406.out | refine lS_ ?_ GE407.out) | exact HB.out))) : w.heap.size ≤ gb432))
                  have n8_ := Aside0.mk ((by rw [hg]; exact Nat.ne_of_lt (blk_lt (g := gb405) (o := .cells #[.int .i64 a0_0, .slice A0_1 l0_1.length c0_1] 26 (0, 0)) (by (with_reducible repeat (first | apply bN_ | apply bD_ | apply bA_)); exact BK405.out)) : gb405 ≠ gb432))
                  have n9_ := Aside0.mk ((by rw [hg]; exact Nat.ne_of_gt (blk_lt (g := gb405) (o := .cells #[.int .i64 a0_0, .slice A0_1 l0_1.length c0_1] 26 (0, 0)) (by (with_reducible repeat (first | apply bN_ | apply bD_ | apply bA_)); exact BK405.out)) : gb432 ≠ gb405))
                  have n10_ := Aside0.mk ((by rw [hg]; exact Nat.ne_of_lt (blk_lt (g := gb406) (o := .cells #[.int .i64 a1_0, .int .i64 a1_1, .int .i64 a1_2, .int .i64 a1_3] 45 (0, 0)) (by (with_reducible repeat (first | apply bN_ | apply bD_ | apply bA_)); exact BK406.out)) : gb406 ≠ gb432))
                  have n11_ := Aside0.mk ((by rw [hg]; exact Nat.ne_of_gt (blk_lt (g := gb406) (o := .cells #[.int .i64 a1_0, .int .i64 a1_1, .int .i64 a1_2, .int .i64 a1_3] 45 (0, 0)) (by (with_reducible repeat (first | apply bN_ | apply bD_ | apply bA_)); exact BK406.out)) : gb432 ≠ gb406))
                  have n12_ := Aside0.mk ((by rw [hg]; exact Nat.ne_of_lt (blk_lt (g := gb407) (o := .cells #[.int .i64 0, .slice none 0 0] 26 (0, 0)) (by (with_reducible repeat (first | apply bN_ | apply bD_ | apply bA_)); exact BK407.out)) : gb407 ≠ gb432))
                  have n13_ := Aside0.mk ((by rw [hg]; exact Nat.ne_of_gt (blk_lt (g := gb407) (o := .cells #[.int .i64 0, .slice none 0 0] 26 (0, 0)) (by (with_reducible repeat (first | apply bN_ | apply bD_ | apply bA_)); exact BK407.out)) : gb432 ≠ gb407))
                  clear HO416
                  clear BK405
                  clear BK406
                  clear BK407
                  clear HB
                  have HO416 := n0_
                  have BK405 := n1_
                  have BK406 := n2_
                  have BK407 := n3_
                  have HB := n4_
                  have BK432 := n5_
                  have GW432 := n6_
                  have GE432 := n7_
                  have NB405_432 := n8_
                  have NB432_405 := n9_
                  have NB406_432 := n10_
                  have NB432_406 := n11_
                  have NB407_432 := n12_
                  have NB432_407 := n13_
                  clear n0_ n1_ n2_ n3_ n4_ n5_ n6_ n7_ n8_ n9_ n10_ n11_ n12_ n13_
                  clear hb hbox hg
                  refine hK.out _ _ ⟨(blk_cell BK405.out 0).trans rfl, (blk_cell BK405.out 1).trans rfl, (blk_cell BK406.out 0).trans rfl, (blk_cell BK406.out 1).trans rfl, (blk_cell BK406.out 2).trans rfl, (blk_cell BK406.out 3).trans rfl⟩ (fun hHeld => ?_)
                  clear hK K
                  refine norm_ (a' := ?_) ?_ ?_
                  rotate_left
                  ·show Act.put _ (some 6) _ = _
                   simp only [Act.put, q1_, q2_, q3_, i64_w, i32_w]
                   rfl
                  exact norm_ (by first | (simp only [putAll, Act.put, q1_, q2_, q3_]; done) | (simp only [putAll, Act.put, q1_, q2_, q3_]; rfl)) (hJ2_5_14 (v412, v415, gb432) _ ⟨hHeld, (by (with_reducible repeat (first | apply Kd.R_alloc | apply Kd.R_drewN | apply Kd.R_drew)); exact HO416.out), (by (with_reducible repeat (first | apply bN_ | apply bD_ | apply bA_)); exact BK405.out), (by (with_reducible repeat (first | apply bN_ | apply bD_ | apply bA_)); exact BK406.out), (by (with_reducible repeat (first | apply bN_ | apply bD_ | apply bA_)); exact BK407.out), (by (with_reducible repeat (first | apply bN_ | apply bD_ | apply bA_)); exact BK432.out), GW432.out, GE432.out, NB405_432.out, NB432_405.out, NB406_432.out, NB432_406.out, NB407_432.out, NB432_407.out, (by repeat (first | (with_reducible first | exact HB.out | apply lA_ | apply lN_ | apply lD_ | refine lS_ ?_ GE405.out | refine lS_ ?_ GE406.out | refine lS_ ?_ GE407.out | refine lS_ ?_ GE432.out) | exact HB.out))⟩)
               ·skip
                rintro ⟨v412, v418, gb432⟩ w48 ⟨hS_, h0_, h1_, h2_, h3_, h4_, h5_, h6_, h7_, h8_, h9_, h10_, h11_, h12_, h13_, h14_⟩
                have n0_ : Aside0 (Kd.R k45 45 w48 w.heap.size (fun k_ => some k_ ≠ (v418 : Value).ownBlock ∧ k_ ≠ gb406) v412 y411) := ⟨h0_⟩
                have n1_ : Aside0 (Kd.R k45 45 w48 w.heap.size (fun k_ => some k_ ≠ (v412 : Value).ownBlock ∧ k_ ≠ gb406) v418 y417) := ⟨h1_⟩
                have n2_ : Aside0 (w48.heap[gb405]? = some (.cells #[.int .i64 a0_0, .slice A0_1 l0_1.length c0_1] 26 (0, 0))) := ⟨h2_⟩
                have n3_ : Aside0 (w48.heap[gb406]? = some (.cells #[.int .i64 a1_0, .int .i64 a1_1, .int .i64 a1_2, .int .i64 a1_3] 45 (0, 0))) := ⟨h3_⟩
                have n4_ : Aside0 (w48.heap[gb407]? = some (.cells #[.int .i64 0, .slice none 0 0] 26 (0, 0))) := ⟨h4_⟩
                have n5_ : Aside0 (w48.heap[gb432]? = some (.cells #[.int .i64 0, .slice none 0 0] 26 (0, 0))) := ⟨h5_⟩
                have n6_ : Aside0 (w.heap.size ≤ gb432) := ⟨h6_⟩
                have n7_ : Aside0 (w.heap.size ≤ gb432) := ⟨h7_⟩
                have n8_ : Aside0 (gb405 ≠ gb432) := ⟨h8_⟩
                have n9_ : Aside0 (gb432 ≠ gb405) := ⟨h9_⟩
                have n10_ : Aside0 (gb406 ≠ gb432) := ⟨h10_⟩
                have n11_ : Aside0 (gb432 ≠ gb406) := ⟨h11_⟩
                have n12_ : Aside0 (gb407 ≠ gb432) := ⟨h12_⟩
                have n13_ : Aside0 (gb432 ≠ gb407) := ⟨h13_⟩
                have n14_ : Aside0 (Below w.heap.size w w48) := ⟨h14_⟩
                clear BK405
                clear BK406
                clear BK407
                clear HB
                clear h0_ h1_ h2_ h3_ h4_ h5_ h6_ h7_ h8_ h9_ h10_ h11_ h12_ h13_ h14_
                have HO413 := n0_
                have HO419 := n1_
                have BK405 := n2_
                have BK406 := n3_
                have BK407 := n4_
                have BK432 := n5_
                have GW432 := n6_
                have GE432 := n7_
                have NB405_432 := n8_
                have NB432_405 := n9_
                have NB406_432 := n10_
                have NB432_406 := n11_
                have NB407_432 := n12_
                have NB432_407 := n13_
                have HB := n14_
                clear n0_ n1_ n2_ n3_ n4_ n5_ n6_ n7_ n8_ n9_ n10_ n11_ n12_ n13_ n14_
                have hHeld : w48.cell? ⟨gb405, 0, none⟩ = some (.int .i64 a0_0) ∧ w48.cell? ⟨gb405, 1, none⟩ = some (.slice A0_1 l0_1.length c0_1) ∧ w48.cell? ⟨gb406, 0, none⟩ = some (.int .i64 a1_0) ∧ w48.cell? ⟨gb406, 1, none⟩ = some (.int .i64 a1_1) ∧ w48.cell? ⟨gb406, 2, none⟩ = some (.int .i64 a1_2) ∧ w48.cell? ⟨gb406, 3, none⟩ = some (.int .i64 a1_3) := hS_
                refine norm_ (a' := ?_) ?_ ?_
                rotate_left
                ·simp only [putAll, Act.put, q1_, q2_, q3_]
                 rfl
                refine one_ (i := 5) (N := some 31) #[true, true, true, true, true, true, true, true, false, false, false, false, false, false, true, false, false] rfl rfl (one_of HT_.out (by kernel_rfl)) (by decide) (fun K hK => ?_)
                refine Kd.R_append_rows_step k45 (w0 := w) w.heap.size (by rfl) (.tmp 28) (.tmp 30) 24 45 (.agg #[(.int .i64 0), (.int .i64 0), (.int .i64 0), (.int .i64 0)]) 32 rfl Try.underlying24 info45 rfl (by decide) (by omega) v412 y411 l0_1 _ _ _ (fun k_ => some k_ ≠ (v418 : Value).ownBlock ∧ k_ ≠ gb406) (fun _ => False) rfl rfl ?aO ?aR (fun _ _ h => h) (fun _ h => h.elim) ?aF ?aB ?aS ?aL ?_
                (case aR => repeat (first | exact (Kd.C_below HR0_1.out HB.out) | (with_reducible refine Kd.C_alloc ?_ _) | (with_reducible refine Kd.C_drewN ?_ _) | (with_reducible refine Kd.C_drew ?_)))
                (case aB => exact (by repeat (first | (with_reducible first | exact HB.out | apply lA_ | apply lN_ | apply lD_ | refine lS_ ?_ GE405.out | refine lS_ ?_ GE406.out | refine lS_ ?_ GE407.out | refine lS_ ?_ GE432.out) | exact HB.out)))
                (case aF => exact (fun k_ hk => ⟨Kd.fresh' (Kd.R_lt (by (with_reducible repeat (first | apply Kd.R_alloc | apply Kd.R_drewN | apply Kd.R_drew)); exact HO419.out)) k_ hk, Kd.freshB (g := gb406) (o := .cells #[.int .i64 a1_0, .int .i64 a1_1, .int .i64 a1_2, .int .i64 a1_3] 45 (0, 0)) (by (with_reducible repeat (first | apply bN_ | apply bD_ | apply bA_)); exact BK406.out) k_ hk⟩))
                (case aO => exact (by (with_reducible repeat (first | apply Kd.R_alloc | apply Kd.R_drewN | apply Kd.R_drew)); exact HO413.out))
                (case aS => exact (below_size (by repeat (first | (with_reducible first | exact HB.out | apply lA_ | apply lN_ | apply lD_ | refine lS_ ?_ GE405.out | refine lS_ ?_ GE406.out | refine lS_ ?_ GE407.out | refine lS_ ?_ GE432.out) | exact HB.out))))
                (case aL => have := LMc24.out; omega)
                intro v415 w49 ho hb hg hat
                rw [← Ny414.out] at ho
                have n0_ := Aside0.mk (blk_grown (g := gb405) (o := .cells #[.int .i64 a0_0, .slice A0_1 l0_1.length c0_1] 26 (0, 0)) (by (with_reducible repeat (first | apply bN_ | apply bD_ | apply bA_)); exact BK405.out) hg (Kd.R_ne HO413.out BK405.out (by decide)))
                have n1_ := Aside0.mk (blk_grown (g := gb406) (o := .cells #[.int .i64 a1_0, .int .i64 a1_1, .int .i64 a1_2, .int .i64 a1_3] 45 (0, 0)) (by (with_reducible repeat (first | apply bN_ | apply bD_ | apply bA_)); exact BK406.out) hg (Kd.R_away HO413.out (fun _ hk => hk.2)))
                have n2_ := Aside0.mk (blk_grown (g := gb407) (o := .cells #[.int .i64 0, .slice none 0 0] 26 (0, 0)) (by (with_reducible repeat (first | apply bN_ | apply bD_ | apply bA_)); exact BK407.out) hg (Kd.R_ne HO413.out BK407.out (by decide)))
                have n3_ := Aside0.mk (Kd.R_after (ok := (fun k_ => k_ ≠ gb406)) (by (with_reducible repeat (first | apply Kd.R_alloc | apply Kd.R_drewN | apply Kd.R_drew)); exact Kd.R_mono HO419.out (fun _ hk => ⟨hk.2, hk.1⟩)) hg hat)
                have n4_ := Aside0.mk (blk_grown (g := gb432) (o := .cells #[.int .i64 0, .slice none 0 0] 26 (0, 0)) (by (with_reducible repeat (first | apply bN_ | apply bD_ | apply bA_)); exact BK432.out) hg (Kd.R_ne HO413.out BK432.out (by decide)))
                have n5_ := Aside0.mk (hb)
                have n6_ := Aside0.mk (ho)
                clear BK405
                clear BK406
                clear BK407
                clear HO419
                clear BK432
                clear HB
                clear HO413
                have BK405 := n0_
                have BK406 := n1_
                have BK407 := n2_
                have HO419 := n3_
                have BK432 := n4_
                have HB := n5_
                have HO416 := n6_
                clear n0_ n1_ n2_ n3_ n4_ n5_ n6_
                clear ho hb hg hat
                refine hK.out _ _ ⟨(blk_cell BK405.out 0).trans rfl, (blk_cell BK405.out 1).trans rfl, (blk_cell BK406.out 0).trans rfl, (blk_cell BK406.out 1).trans rfl, (blk_cell BK406.out 2).trans rfl, (blk_cell BK406.out 3).trans rfl⟩ (fun hHeld => ?_)
                clear hK K
                refine norm_ (a' := ?_) ?_ ?_
                rotate_left
                ·show Act.put _ (some 31) _ = _
                 simp only [Act.put, q1_, q2_, q3_, i64_w, i32_w]
                 rfl
                exact norm_ (by first | (simp only [putAll, Act.put, q1_, q2_, q3_]; done) | (simp only [putAll, Act.put, q1_, q2_, q3_]; rfl)) (hJ2_5_7_14 (v412, v415, v418, gb432) _ ⟨hHeld, (by (with_reducible repeat (first | apply Kd.R_alloc | apply Kd.R_drewN | apply Kd.R_drew)); exact HO416.out), (by (with_reducible repeat (first | apply Kd.R_alloc | apply Kd.R_drewN | apply Kd.R_drew)); exact Kd.R_mono HO419.out (fun _ hk => ⟨hk.2, hk.1⟩)), (by (with_reducible repeat (first | apply bN_ | apply bD_ | apply bA_)); exact BK405.out), (by (with_reducible repeat (first | apply bN_ | apply bD_ | apply bA_)); exact BK406.out), (by (with_reducible repeat (first | apply bN_ | apply bD_ | apply bA_)); exact BK407.out), (by (with_reducible repeat (first | apply bN_ | apply bD_ | apply bA_)); exact BK432.out), GW432.out, GE432.out, NB405_432.out, NB432_405.out, NB406_432.out, NB432_406.out, NB407_432.out, NB432_407.out, (by repeat (first | (with_reducible first | exact HB.out | apply lA_ | apply lN_ | apply lD_ | refine lS_ ?_ GE405.out | refine lS_ ?_ GE406.out | refine lS_ ?_ GE407.out | refine lS_ ?_ GE432.out) | exact HB.out))⟩)
              ·skip
               rintro ⟨v412, v415, gb432⟩ w47 ⟨hS_, h0_, h1_, h2_, h3_, h4_, h5_, h6_, h7_, h8_, h9_, h10_, h11_, h12_, h13_⟩
               have n0_ : Aside0 (Kd.R k45 45 w47 w.heap.size (fun k_ => k_ ≠ gb406) v415 y414) := ⟨h0_⟩
               have n1_ : Aside0 (w47.heap[gb405]? = some (.cells #[.int .i64 a0_0, .slice A0_1 l0_1.length c0_1] 26 (0, 0))) := ⟨h1_⟩
               have n2_ : Aside0 (w47.heap[gb406]? = some (.cells #[.int .i64 a1_0, .int .i64 a1_1, .int .i64 a1_2, .int .i64 a1_3] 45 (0, 0))) := ⟨h2_⟩
               have n3_ : Aside0 (w47.heap[gb407]? = some (.cells #[.int .i64 0, .slice none 0 0] 26 (0, 0))) := ⟨h3_⟩
               have n4_ : Aside0 (w47.heap[gb432]? = some (.cells #[.int .i64 0, .slice none 0 0] 26 (0, 0))) := ⟨h4_⟩
               have n5_ : Aside0 (w.heap.size ≤ gb432) := ⟨h5_⟩
               have n6_ : Aside0 (w.heap.size ≤ gb432) := ⟨h6_⟩
               have n7_ : Aside0 (gb405 ≠ gb432) := ⟨h7_⟩
               have n8_ : Aside0 (gb432 ≠ gb405) := ⟨h8_⟩
               have n9_ : Aside0 (gb406 ≠ gb432) := ⟨h9_⟩
               have n10_ : Aside0 (gb432 ≠ gb406) := ⟨h10_⟩
               have n11_ : Aside0 (gb407 ≠ gb432) := ⟨h11_⟩
               have n12_ : Aside0 (gb432 ≠ gb407) := ⟨h12_⟩
               have n13_ : Aside0 (Below w.heap.size w w47) := ⟨h13_⟩
               clear BK405
               clear BK406
               clear BK407
               clear HB
               clear h0_ h1_ h2_ h3_ h4_ h5_ h6_ h7_ h8_ h9_ h10_ h11_ h12_ h13_
               have HO416 := n0_
               have BK405 := n1_
               have BK406 := n2_
               have BK407 := n3_
               have BK432 := n4_
               have GW432 := n5_
               have GE432 := n6_
               have NB405_432 := n7_
               have NB432_405 := n8_
               have NB406_432 := n9_
               have NB432_406 := n10_
               have NB407_432 := n11_
               have NB432_407 := n12_
               have HB := n13_
               clear n0_ n1_ n2_ n3_ n4_ n5_ n6_ n7_ n8_ n9_ n10_ n11_ n12_ n13_
               have hHeld : w47.cell? ⟨gb405, 0, none⟩ = some (.int .i64 a0_0) ∧ w47.cell? ⟨gb405, 1, none⟩ = some (.slice A0_1 l0_1.length c0_1) ∧ w47.cell? ⟨gb406, 0, none⟩ = some (.int .i64 a1_0) ∧ w47.cell? ⟨gb406, 1, none⟩ = some (.int .i64 a1_1) ∧ w47.cell? ⟨gb406, 2, none⟩ = some (.int .i64 a1_2) ∧ w47.cell? ⟨gb406, 3, none⟩ = some (.int .i64 a1_3) := hS_
               refine norm_ (a' := ?_) ?_ ?_
               rotate_left
               ·simp only [putAll, Act.put, q1_, q2_, q3_]
                rfl
               refine one_ (i := 7) (N := some 33) #[true, true, true, true, true, true, true, true, false, false, false, false, false, false, true, false, false] rfl rfl (one_of HT_.out (by kernel_rfl)) (by decide) (fun K hK => ?_)
               refine Kd.R_lit_step k45 _ 45 ?hg (N := 33) ?hd (xs := ([(⟨a1_0, a1_1, a1_2, a1_3⟩ : S45)] : List (S45))) (inner := [.int .i64 a1_0, .int .i64 a1_1, .int .i64 a1_2, .int .i64 a1_3]) (ok := fun _ => True) (okp := fun _ => True) ?hr ?hp (fun _ hk => hk) trivial (Below.refl _ _) (Nat.le_refl _) (by simp) ?_; (case hd => rfl); (case hg => rfl); (case hr => first | (go_simp; done) | (go_simp; rfl)); (case hp => exact (Reps.c4 (show Kd.M k45 _ _ _ (⟨a1_0, a1_1, a1_2, a1_3⟩ : S45) [.int .i64 a1_0, .int .i64 a1_1, .int .i64 a1_2, .int .i64 a1_3] from (k45_mkM _ _ _ (⟨a1_0, a1_1, a1_2, a1_3⟩ : S45) )) (Reps.none _ _)))
               intro v418 w48 ho49 hb hg_ hnew_
               clear hg_ hnew_
               (first | rw [← Ny417.out] at ho49 | (simp only [Int.reduceToNat] at ho49; rw [← Ny417.out] at ho49))
               have n0_ := Aside0.mk (Kd.R_elder' (by (with_reducible repeat (first | apply Kd.R_alloc | apply Kd.R_drewN | apply Kd.R_drew)); exact HO416.out) (Kd.R_base ho49) hb)
               have n1_ := Aside0.mk (Kd.R_lower (Kd.R_newB (Kd.R_new' ho49 (Kd.R_lt (by (with_reducible repeat (first | apply Kd.R_alloc | apply Kd.R_drewN | apply Kd.R_drew)); exact HO416.out))) (g := gb406) (o := .cells #[.int .i64 a1_0, .int .i64 a1_1, .int .i64 a1_2, .int .i64 a1_3] 45 (0, 0)) (by (with_reducible repeat (first | apply bN_ | apply bD_ | apply bA_)); exact BK406.out)) (below_size (by repeat (first | (with_reducible first | exact HB.out | apply lA_ | apply lN_ | apply lD_ | refine lS_ ?_ GE405.out | refine lS_ ?_ GE406.out | refine lS_ ?_ GE407.out | refine lS_ ?_ GE432.out) | exact HB.out))))
               have n2_ := Aside0.mk (blk_below (g := gb405) (o := .cells #[.int .i64 a0_0, .slice A0_1 l0_1.length c0_1] 26 (0, 0)) (by (with_reducible repeat (first | apply bN_ | apply bD_ | apply bA_)); exact BK405.out) hb)
               have n3_ := Aside0.mk (blk_below (g := gb406) (o := .cells #[.int .i64 a1_0, .int .i64 a1_1, .int .i64 a1_2, .int .i64 a1_3] 45 (0, 0)) (by (with_reducible repeat (first | apply bN_ | apply bD_ | apply bA_)); exact BK406.out) hb)
               have n4_ := Aside0.mk (blk_below (g := gb407) (o := .cells #[.int .i64 0, .slice none 0 0] 26 (0, 0)) (by (with_reducible repeat (first | apply bN_ | apply bD_ | apply bA_)); exact BK407.out) hb)
               have n5_ := Aside0.mk (blk_below (g := gb432) (o := .cells #[.int .i64 0, .slice none 0 0] 26 (0, 0)) (by (with_reducible repeat (first | apply bN_ | apply bD_ | apply bA_)); exact BK432.out) hb)
               have n6_ := Aside0.mk (below_step (by repeat (first | (with_reducible first | exact HB.out | apply lA_ | apply lN_ | apply lD_ | refine lS_ ?_ GE405.out | refine lS_ ?_ GE406.out | refine lS_ ?_ GE407.out | refine lS_ ?_ GE432.out) | exact HB.out)) hb)
               clear HO416
               clear BK405
               clear BK406
               clear BK407
               clear BK432
               clear HB
               have HO416 := n0_
               have HO419 := n1_
               have BK405 := n2_
               have BK406 := n3_
               have BK407 := n4_
               have BK432 := n5_
               have HB := n6_
               clear n0_ n1_ n2_ n3_ n4_ n5_ n6_
               clear hb ho49
               refine hK.out _ _ ⟨(blk_cell BK405.out 0).trans rfl, (blk_cell BK405.out 1).trans rfl, (blk_cell BK406.out 0).trans rfl, (blk_cell BK406.out 1).trans rfl, (blk_cell BK406.out 2).trans rfl, (blk_cell BK406.out 3).trans rfl⟩ (fun hHeld => ?_)
               clear hK K
               refine norm_ (a' := ?_) ?_ ?_
               rotate_left
               ·show Act.put _ (some 33) _ = _
                simp only [Act.put, q1_, q2_, q3_, i64_w, i32_w]
                rfl
               exact norm_ (by first | (simp only [putAll, Act.put, q1_, q2_, q3_]; done) | (simp only [putAll, Act.put, q1_, q2_, q3_]; rfl)) (hJ2_5_7_14 (v412, v415, v418, gb432) _ ⟨hHeld, (by (with_reducible repeat (first | apply Kd.R_alloc | apply Kd.R_drewN | apply Kd.R_drew)); exact Kd.R_mono HO416.out (fun _ hk => ⟨hk.2, hk.1⟩)), (by (with_reducible repeat (first | apply Kd.R_alloc | apply Kd.R_drewN | apply Kd.R_drew)); exact Kd.R_mono HO419.out (fun _ hk => ⟨hk.1.2, hk.2⟩)), (by (with_reducible repeat (first | apply bN_ | apply bD_ | apply bA_)); exact BK405.out), (by (with_reducible repeat (first | apply bN_ | apply bD_ | apply bA_)); exact BK406.out), (by (with_reducible repeat (first | apply bN_ | apply bD_ | apply bA_)); exact BK407.out), (by (with_reducible repeat (first | apply bN_ | apply bD_ | apply bA_)); exact BK432.out), GW432.out, GE432.out, NB405_432.out, NB432_405.out, NB406_432.out, NB432_406.out, NB407_432.out, NB432_407.out, (by repeat (first | (with_reducible first | exact HB.out | apply lA_ | apply lN_ | apply lD_ | refine lS_ ?_ GE405.out | refine lS_ ?_ GE406.out | refine lS_ ?_ GE407.out | refine lS_ ?_ GE432.out) | exact HB.out))⟩)
             ·skip
              rintro ⟨v412, v415, v418⟩ w48 ⟨hS_, h0_, h1_, h2_, h3_, h4_, h5_⟩
              have n0_ : Aside0 (Kd.R k45 45 w48 w.heap.size (fun k_ => some k_ ≠ (v418 : Value).ownBlock ∧ k_ ≠ gb406) v415 y414) := ⟨h0_⟩
              have n1_ : Aside0 (Kd.R k45 45 w48 w.heap.size (fun k_ => some k_ ≠ (v415 : Value).ownBlock ∧ k_ ≠ gb406) v418 y417) := ⟨h1_⟩
              have n2_ : Aside0 (w48.heap[gb405]? = some (.cells #[.int .i64 a0_0, .slice A0_1 l0_1.length c0_1] 26 (0, 0))) := ⟨h2_⟩
              have n3_ : Aside0 (w48.heap[gb406]? = some (.cells #[.int .i64 a1_0, .int .i64 a1_1, .int .i64 a1_2, .int .i64 a1_3] 45 (0, 0))) := ⟨h3_⟩
              have n4_ : Aside0 (w48.heap[gb407]? = some (.cells #[.int .i64 0, .slice none 0 0] 26 (0, 0))) := ⟨h4_⟩
              have n5_ : Aside0 (Below w.heap.size w w48) := ⟨h5_⟩
              clear BK405
              clear BK406
              clear BK407
              clear HB
              clear h0_ h1_ h2_ h3_ h4_ h5_
              have HO416 := n0_
              have HO419 := n1_
              have BK405 := n2_
              have BK406 := n3_
              have BK407 := n4_
              have HB := n5_
              clear n0_ n1_ n2_ n3_ n4_ n5_
              have hHeld : w48.cell? ⟨gb405, 0, none⟩ = some (.int .i64 a0_0) ∧ w48.cell? ⟨gb405, 1, none⟩ = some (.slice A0_1 l0_1.length c0_1) ∧ w48.cell? ⟨gb406, 0, none⟩ = some (.int .i64 a1_0) ∧ w48.cell? ⟨gb406, 1, none⟩ = some (.int .i64 a1_1) ∧ w48.cell? ⟨gb406, 2, none⟩ = some (.int .i64 a1_2) ∧ w48.cell? ⟨gb406, 3, none⟩ = some (.int .i64 a1_3) := hS_
              obtain ⟨Ao50, co50, eo50⟩ := Kd.R_slice HO419.out
              (first | subst eo50 | (injection eo50 with f1_ f2_ f3_; have f4_ := f1_.symm; have f5_ := f3_.symm; clear f1_ f2_ f3_; subst f4_; subst f5_))
              refine norm_ (a' := ?_) ?_ ?_
              rotate_left
              ·simp only [putAll, Act.put, q1_, q2_, q3_]
               rfl
              refine two_ (i := 8) (j := 14) (Ni := some 34) (Nj := some 6) #[true, true, true, true, true, true, true, true, true, false, false, false, false, false, false, false, false] #[true, true, true, true, true, true, true, true, false, false, false, false, false, false, true, false, false] rfl rfl rfl rfl (two_of HT_.out (by kernel_rfl)) (by decide) (by decide) (fun K hK => ?_) (fun K hK => ?_)
              ·skip
               refine Kd.R_append_rows_step k45 (w0 := w) w.heap.size (by rfl) (.tmp 31) (.tmp 33) 24 45 (.agg #[(.int .i64 0), (.int .i64 0), (.int .i64 0), (.int .i64 0)]) 32 rfl Try.underlying24 info45 rfl (by decide) (by omega) v415 y414 y417 _ _ _ (fun k_ => some k_ ≠ (.slice Ao50 y417.length co50 : Value).ownBlock ∧ k_ ≠ gb406) (fun _ => False) rfl rfl ?aO ?aR (fun _ _ h => h) (fun _ h => h.elim) ?aF ?aB ?aS ?aL ?_
               (case aR => repeat (first | exact (Kd.R_reads' HO419.out).2.2 | (with_reducible refine Kd.C_alloc ?_ _) | (with_reducible refine Kd.C_drewN ?_ _) | (with_reducible refine Kd.C_drew ?_)))
               (case aB => exact (by repeat (first | (with_reducible first | exact HB.out | apply lA_ | apply lN_ | apply lD_ | refine lS_ ?_ GE405.out | refine lS_ ?_ GE406.out | refine lS_ ?_ GE407.out) | exact HB.out)))
               (case aF => exact (fun k_ hk => ⟨Kd.fresh' (Kd.R_lt (by (with_reducible repeat (first | apply Kd.R_alloc | apply Kd.R_drewN | apply Kd.R_drew)); exact HO419.out)) k_ hk, Kd.freshB (g := gb406) (o := .cells #[.int .i64 a1_0, .int .i64 a1_1, .int .i64 a1_2, .int .i64 a1_3] 45 (0, 0)) (by (with_reducible repeat (first | apply bN_ | apply bD_ | apply bA_)); exact BK406.out) k_ hk⟩))
               (case aO => exact (by (with_reducible repeat (first | apply Kd.R_alloc | apply Kd.R_drewN | apply Kd.R_drew)); exact HO416.out))
               (case aS => exact (below_size (by repeat (first | (with_reducible first | exact HB.out | apply lA_ | apply lN_ | apply lD_ | refine lS_ ?_ GE405.out | refine lS_ ?_ GE406.out | refine lS_ ?_ GE407.out) | exact HB.out))))
               (case aL => have := LMc25.out; omega)
               intro v421 w49 ho hb hg hat
               rw [← Ny420.out] at ho
               have n0_ := Aside0.mk (blk_grown (g := gb405) (o := .cells #[.int .i64 a0_0, .slice A0_1 l0_1.length c0_1] 26 (0, 0)) (by (with_reducible repeat (first | apply bN_ | apply bD_ | apply bA_)); exact BK405.out) hg (Kd.R_ne HO416.out BK405.out (by decide)))
               have n1_ := Aside0.mk (blk_grown (g := gb406) (o := .cells #[.int .i64 a1_0, .int .i64 a1_1, .int .i64 a1_2, .int .i64 a1_3] 45 (0, 0)) (by (with_reducible repeat (first | apply bN_ | apply bD_ | apply bA_)); exact BK406.out) hg (Kd.R_away HO416.out (fun _ hk => hk.2)))
               have n2_ := Aside0.mk (blk_grown (g := gb407) (o := .cells #[.int .i64 0, .slice none 0 0] 26 (0, 0)) (by (with_reducible repeat (first | apply bN_ | apply bD_ | apply bA_)); exact BK407.out) hg (Kd.R_ne HO416.out BK407.out (by decide)))
               have n3_ := Aside0.mk (Kd.R_after (ok := (fun k_ => k_ ≠ gb406)) (by (with_reducible repeat (first | apply Kd.R_alloc | apply Kd.R_drewN | apply Kd.R_drew)); exact Kd.R_mono HO419.out (fun _ hk => ⟨hk.2, hk.1⟩)) hg hat)
               have n4_ := Aside0.mk (hb)
               have n5_ := Aside0.mk (ho)
               clear BK405
               clear BK406
               clear BK407
               clear HO419
               clear HB
               clear HO416
               have BK405 := n0_
               have BK406 := n1_
               have BK407 := n2_
               have HO419 := n3_
               have HB := n4_
               have HO422 := n5_
               clear n0_ n1_ n2_ n3_ n4_ n5_
               clear ho hb hg hat
               refine hK.out _ _ ⟨(blk_cell BK405.out 0).trans rfl, (blk_cell BK405.out 1).trans rfl, (blk_cell BK406.out 0).trans rfl, (blk_cell BK406.out 1).trans rfl, (blk_cell BK406.out 2).trans rfl, (blk_cell BK406.out 3).trans rfl⟩ (fun hHeld => ?_)
               clear hK K
               refine norm_ (a' := ?_) ?_ ?_
               rotate_left
               ·show Act.put _ (some 34) _ = _
                simp only [Act.put, q1_, q2_, q3_, i64_w, i32_w]
                rfl
               exact norm_ (by first | (simp only [putAll, Act.put, q1_, q2_, q3_]; done) | (simp only [putAll, Act.put, q1_, q2_, q3_]; rfl)) (hJ2_5_7_8 (v412, v415, .slice Ao50 y417.length co50, v421) _ ⟨hHeld, (by (with_reducible repeat (first | apply Kd.R_alloc | apply Kd.R_drewN | apply Kd.R_drew)); exact Kd.R_mono HO419.out (fun _ hk => ⟨hk.2, hk.1⟩)), (by (with_reducible repeat (first | apply Kd.R_alloc | apply Kd.R_drewN | apply Kd.R_drew)); exact HO422.out), (by (with_reducible repeat (first | apply bN_ | apply bD_ | apply bA_)); exact BK405.out), (by (with_reducible repeat (first | apply bN_ | apply bD_ | apply bA_)); exact BK406.out), (by (with_reducible repeat (first | apply bN_ | apply bD_ | apply bA_)); exact BK407.out), (by repeat (first | (with_reducible first | exact HB.out | apply lA_ | apply lN_ | apply lD_ | refine lS_ ?_ GE405.out | refine lS_ ?_ GE406.out | refine lS_ ?_ GE407.out) | exact HB.out))⟩)
              ·skip
               refine box_step ?hg (N := 6) ?hd (cs := #[.int .i64 0, .slice none 0 0]) (t := 26) ?hr ?_; (case hd => rfl); (case hg => rfl); (case hr => first | (go_simp; done) | (go_simp; rfl))
               intro gb432 hg w49 hbox hb
               have n0_ := Aside0.mk (Kd.R_below (by (with_reducible repeat (first | apply Kd.R_alloc | apply Kd.R_drewN | apply Kd.R_drew)); exact HO416.out) hb)
               have n1_ := Aside0.mk (Kd.R_below (by (with_reducible repeat (first | apply Kd.R_alloc | apply Kd.R_drewN | apply Kd.R_drew)); exact HO419.out) hb)
               have n2_ := Aside0.mk (blk_below (g := gb405) (o := .cells #[.int .i64 a0_0, .slice A0_1 l0_1.length c0_1] 26 (0, 0)) (by (with_reducible repeat (first | apply bN_ | apply bD_ | apply bA_)); exact BK405.out) hb)
               have n3_ := Aside0.mk (blk_below (g := gb406) (o := .cells #[.int .i64 a1_0, .int .i64 a1_1, .int .i64 a1_2, .int .i64 a1_3] 45 (0, 0)) (by (with_reducible repeat (first | apply bN_ | apply bD_ | apply bA_)); exact BK406.out) hb)
               have n4_ := Aside0.mk (blk_below (g := gb407) (o := .cells #[.int .i64 0, .slice none 0 0] 26 (0, 0)) (by (with_reducible repeat (first | apply bN_ | apply bD_ | apply bA_)); exact BK407.out) hb)
               have n5_ := Aside0.mk (below_step (by repeat (first | (with_reducible first | exact HB.out | apply lA_ | apply lN_ | apply lD_ | refine lS_ ?_ GE405.out | refine lS_ ?_ GE406.out | refine lS_ ?_ GE407.out) | exact HB.out)) hb)
               have n6_ := Aside0.mk (hbox)
               have n7_ := Aside0.mk ((by rw [hg]; exact (below_size (by repeat (first | (with_reducible first | exact HB.out | apply lA_ | apply lN_ | apply lD_ | refine lS_ ?_ GE405.out | refine lS_ ?_ GE406.out | refine lS_ ?_ GE407.out) | exact HB.out))) : w.heap.size ≤ gb432))
               have n8_ := Aside0.mk ((by rw [hg]; exact (below_size (by repeat (first | (with_reducible first | exact HB.out | apply lA_ | apply lN_ | apply lD_ | refine lS_ ?_ GE405.out | refine lS_ ?_ GE406.out | refine lS_ ?_ GE407.out) | exact HB.out))) : w.heap.size ≤ gb432))
               have n9_ := Aside0.mk ((by rw [hg]; exact Nat.ne_of_lt (blk_lt (g := gb405) (o := .cells #[.int .i64 a0_0, .slice A0_1 l0_1.length c0_1] 26 (0, 0)) (by (with_reducible repeat (first | apply bN_ | apply bD_ | apply bA_)); exact BK405.out)) : gb405 ≠ gb432))
               have n10_ := Aside0.mk ((by rw [hg]; exact Nat.ne_of_gt (blk_lt (g := gb405) (o := .cells #[.int .i64 a0_0, .slice A0_1 l0_1.length c0_1] 26 (0, 0)) (by (with_reducible repeat (first | apply bN_ | apply bD_ | apply bA_)); exact BK405.out)) : gb432 ≠ gb405))
               have n11_ := Aside0.mk ((by rw [hg]; exact Nat.ne_of_lt (blk_lt (g := gb406) (o := .cells #[.int .i64 a1_0, .int .i64 a1_1, .int .i64 a1_2, .int .i64 a1_3] 45 (0, 0)) (by (with_reducible repeat (first | apply bN_ | apply bD_ | apply bA_)); exact BK406.out)) : gb406 ≠ gb432))
               have n12_ := Aside0.mk ((by rw [hg]; exact Nat.ne_of_gt (blk_lt (g := gb406) (o := .cells #[.int .i64 a1_0, .int .i64 a1_1, .int .i64 a1_2, .int .i64 a1_3] 45 (0, 0)) (by (with_reducible repeat (first | apply bN_ | apply bD_ | apply bA_)); exact BK406.out)) : gb432 ≠ gb406))
               have n13_ := Aside0.mk ((by rw [hg]; exact Nat.ne_of_lt (blk_lt (g := gb407) (o := .cells #[.int .i64 0, .slice none 0 0] 26 (0, 0)) (by (with_reducible repeat (first | apply bN_ | apply bD_ | apply bA_)); exact BK407.out)) : gb407 ≠ gb432))
               have n14_ := Aside0.mk ((by rw [hg]; exact Nat.ne_of_gt (blk_lt (g := gb407) (o := .cells #[.int .i64 0, .slice none 0 0] 26 (0, 0)) (by (with_reducible repeat (first | apply bN_ | apply bD_ | apply bA_)); exact BK407.out)) : gb432 ≠ gb407))
               clear HO416
               clear HO419
               clear BK405
               clear BK406
               clear BK407
               clear HB
               have HO416 := n0_
               have HO419 := n1_
               have BK405 := n2_
               have BK406 := n3_
               have BK407 := n4_
               have HB := n5_
               have BK432 := n6_
               have GW432 := n7_
               have GE432 := n8_
               have NB405_432 := n9_
               have NB432_405 := n10_
               have NB406_432 := n11_
               have NB432_406 := n12_
               have NB407_432 := n13_
               have NB432_407 := n14_
               clear n0_ n1_ n2_ n3_ n4_ n5_ n6_ n7_ n8_ n9_ n10_ n11_ n12_ n13_ n14_
               clear hb hbox hg
               refine hK.out _ _ ⟨(blk_cell BK405.out 0).trans rfl, (blk_cell BK405.out 1).trans rfl, (blk_cell BK406.out 0).trans rfl, (blk_cell BK406.out 1).trans rfl, (blk_cell BK406.out 2).trans rfl, (blk_cell BK406.out 3).trans rfl⟩ (fun hHeld => ?_)
               clear hK K
               refine norm_ (a' := ?_) ?_ ?_
               rotate_left
               ·show Act.put _ (some 6) _ = _
                simp only [Act.put, q1_, q2_, q3_, i64_w, i32_w]
                rfl
               exact norm_ (by first | (simp only [putAll, Act.put, q1_, q2_, q3_]; done) | (simp only [putAll, Act.put, q1_, q2_, q3_]; rfl)) (hJ2_5_7_14 (v412, v415, .slice Ao50 y417.length co50, gb432) _ ⟨hHeld, (by (with_reducible repeat (first | apply Kd.R_alloc | apply Kd.R_drewN | apply Kd.R_drew)); exact HO416.out), (by (with_reducible repeat (first | apply Kd.R_alloc | apply Kd.R_drewN | apply Kd.R_drew)); exact HO419.out), (by (with_reducible repeat (first | apply bN_ | apply bD_ | apply bA_)); exact BK405.out), (by (with_reducible repeat (first | apply bN_ | apply bD_ | apply bA_)); exact BK406.out), (by (with_reducible repeat (first | apply bN_ | apply bD_ | apply bA_)); exact BK407.out), (by (with_reducible repeat (first | apply bN_ | apply bD_ | apply bA_)); exact BK432.out), GW432.out, GE432.out, NB405_432.out, NB432_405.out, NB406_432.out, NB432_406.out, NB407_432.out, NB432_407.out, (by repeat (first | (with_reducible first | exact HB.out | apply lA_ | apply lN_ | apply lD_ | refine lS_ ?_ GE405.out | refine lS_ ?_ GE406.out | refine lS_ ?_ GE407.out | refine lS_ ?_ GE432.out) | exact HB.out))⟩)
            ·skip
             rintro ⟨v412, v415, v418, gb432⟩ w49 ⟨hS_, h0_, h1_, h2_, h3_, h4_, h5_, h6_, h7_, h8_, h9_, h10_, h11_, h12_, h13_, h14_⟩
             have n0_ : Aside0 (Kd.R k45 45 w49 w.heap.size (fun k_ => some k_ ≠ (v418 : Value).ownBlock ∧ k_ ≠ gb406) v415 y414) := ⟨h0_⟩
             have n1_ : Aside0 (Kd.R k45 45 w49 w.heap.size (fun k_ => some k_ ≠ (v415 : Value).ownBlock ∧ k_ ≠ gb406) v418 y417) := ⟨h1_⟩
             have n2_ : Aside0 (w49.heap[gb405]? = some (.cells #[.int .i64 a0_0, .slice A0_1 l0_1.length c0_1] 26 (0, 0))) := ⟨h2_⟩
             have n3_ : Aside0 (w49.heap[gb406]? = some (.cells #[.int .i64 a1_0, .int .i64 a1_1, .int .i64 a1_2, .int .i64 a1_3] 45 (0, 0))) := ⟨h3_⟩
             have n4_ : Aside0 (w49.heap[gb407]? = some (.cells #[.int .i64 0, .slice none 0 0] 26 (0, 0))) := ⟨h4_⟩
             have n5_ : Aside0 (w49.heap[gb432]? = some (.cells #[.int .i64 0, .slice none 0 0] 26 (0, 0))) := ⟨h5_⟩
             have n6_ : Aside0 (w.heap.size ≤ gb432) := ⟨h6_⟩
             have n7_ : Aside0 (w.heap.size ≤ gb432) := ⟨h7_⟩
             have n8_ : Aside0 (gb405 ≠ gb432) := ⟨h8_⟩
             have n9_ : Aside0 (gb432 ≠ gb405) := ⟨h9_⟩
             have n10_ : Aside0 (gb406 ≠ gb432) := ⟨h10_⟩
             have n11_ : Aside0 (gb432 ≠ gb406) := ⟨h11_⟩
             have n12_ : Aside0 (gb407 ≠ gb432) := ⟨h12_⟩
             have n13_ : Aside0 (gb432 ≠ gb407) := ⟨h13_⟩
             have n14_ : Aside0 (Below w.heap.size w w49) := ⟨h14_⟩
             clear BK405
             clear BK406
             clear BK407
             clear HB
             clear h0_ h1_ h2_ h3_ h4_ h5_ h6_ h7_ h8_ h9_ h10_ h11_ h12_ h13_ h14_
             have HO416 := n0_
             have HO419 := n1_
             have BK405 := n2_
             have BK406 := n3_
             have BK407 := n4_
             have BK432 := n5_
             have GW432 := n6_
             have GE432 := n7_
             have NB405_432 := n8_
             have NB432_405 := n9_
             have NB406_432 := n10_
             have NB432_406 := n11_
             have NB407_432 := n12_
             have NB432_407 := n13_
             have HB := n14_
             clear n0_ n1_ n2_ n3_ n4_ n5_ n6_ n7_ n8_ n9_ n10_ n11_ n12_ n13_ n14_
             have hHeld : w49.cell? ⟨gb405, 0, none⟩ = some (.int .i64 a0_0) ∧ w49.cell? ⟨gb405, 1, none⟩ = some (.slice A0_1 l0_1.length c0_1) ∧ w49.cell? ⟨gb406, 0, none⟩ = some (.int .i64 a1_0) ∧ w49.cell? ⟨gb406, 1, none⟩ = some (.int .i64 a1_1) ∧ w49.cell? ⟨gb406, 2, none⟩ = some (.int .i64 a1_2) ∧ w49.cell? ⟨gb406, 3, none⟩ = some (.int .i64 a1_3) := hS_
             obtain ⟨Ao51, co51, eo51⟩ := Kd.R_slice HO419.out
             (first | subst eo51 | (injection eo51 with f1_ f2_ f3_; have f4_ := f1_.symm; have f5_ := f3_.symm; clear f1_ f2_ f3_; subst f4_; subst f5_))
             refine norm_ (a' := ?_) ?_ ?_
             rotate_left
             ·simp only [putAll, Act.put, q1_, q2_, q3_]
              rfl
             refine one_ (i := 8) (N := some 34) #[true, true, true, true, true, true, true, true, true, false, false, false, false, false, true, false, false] rfl rfl (one_of HT_.out (by kernel_rfl)) (by decide) (fun K hK => ?_)
             refine Kd.R_append_rows_step k45 (w0 := w) w.heap.size (by rfl) (.tmp 31) (.tmp 33) 24 45 (.agg #[(.int .i64 0), (.int .i64 0), (.int .i64 0), (.int .i64 0)]) 32 rfl Try.underlying24 info45 rfl (by decide) (by omega) v415 y414 y417 _ _ _ (fun k_ => some k_ ≠ (.slice Ao51 y417.length co51 : Value).ownBlock ∧ k_ ≠ gb406) (fun _ => False) rfl rfl ?aO ?aR (fun _ _ h => h) (fun _ h => h.elim) ?aF ?aB ?aS ?aL ?_
             (case aR => repeat (first | exact (Kd.R_reads' HO419.out).2.2 | (with_reducible refine Kd.C_alloc ?_ _) | (with_reducible refine Kd.C_drewN ?_ _) | (with_reducible refine Kd.C_drew ?_)))
             (case aB => exact (by repeat (first | (with_reducible first | exact HB.out | apply lA_ | apply lN_ | apply lD_ | refine lS_ ?_ GE405.out | refine lS_ ?_ GE406.out | refine lS_ ?_ GE407.out | refine lS_ ?_ GE432.out) | exact HB.out)))
             (case aF => exact (fun k_ hk => ⟨Kd.fresh' (Kd.R_lt (by (with_reducible repeat (first | apply Kd.R_alloc | apply Kd.R_drewN | apply Kd.R_drew)); exact HO419.out)) k_ hk, Kd.freshB (g := gb406) (o := .cells #[.int .i64 a1_0, .int .i64 a1_1, .int .i64 a1_2, .int .i64 a1_3] 45 (0, 0)) (by (with_reducible repeat (first | apply bN_ | apply bD_ | apply bA_)); exact BK406.out) k_ hk⟩))
             (case aO => exact (by (with_reducible repeat (first | apply Kd.R_alloc | apply Kd.R_drewN | apply Kd.R_drew)); exact HO416.out))
             (case aS => exact (below_size (by repeat (first | (with_reducible first | exact HB.out | apply lA_ | apply lN_ | apply lD_ | refine lS_ ?_ GE405.out | refine lS_ ?_ GE406.out | refine lS_ ?_ GE407.out | refine lS_ ?_ GE432.out) | exact HB.out))))
             (case aL => have := LMc25.out; omega)
             intro v421 w50 ho hb hg hat
             rw [← Ny420.out] at ho
             have n0_ := Aside0.mk (blk_grown (g := gb405) (o := .cells #[.int .i64 a0_0, .slice A0_1 l0_1.length c0_1] 26 (0, 0)) (by (with_reducible repeat (first | apply bN_ | apply bD_ | apply bA_)); exact BK405.out) hg (Kd.R_ne HO416.out BK405.out (by decide)))
             have n1_ := Aside0.mk (blk_grown (g := gb406) (o := .cells #[.int .i64 a1_0, .int .i64 a1_1, .int .i64 a1_2, .int .i64 a1_3] 45 (0, 0)) (by (with_reducible repeat (first | apply bN_ | apply bD_ | apply bA_)); exact BK406.out) hg (Kd.R_away HO416.out (fun _ hk => hk.2)))
             have n2_ := Aside0.mk (blk_grown (g := gb407) (o := .cells #[.int .i64 0, .slice none 0 0] 26 (0, 0)) (by (with_reducible repeat (first | apply bN_ | apply bD_ | apply bA_)); exact BK407.out) hg (Kd.R_ne HO416.out BK407.out (by decide)))
             have n3_ := Aside0.mk (Kd.R_after (ok := (fun k_ => k_ ≠ gb406)) (by (with_reducible repeat (first | apply Kd.R_alloc | apply Kd.R_drewN | apply Kd.R_drew)); exact Kd.R_mono HO419.out (fun _ hk => ⟨hk.2, hk.1⟩)) hg hat)
             have n4_ := Aside0.mk (blk_grown (g := gb432) (o := .cells #[.int .i64 0, .slice none 0 0] 26 (0, 0)) (by (with_reducible repeat (first | apply bN_ | apply bD_ | apply bA_)); exact BK432.out) hg (Kd.R_ne HO416.out BK432.out (by decide)))
             have n5_ := Aside0.mk (hb)
             have n6_ := Aside0.mk (ho)
             clear BK405
             clear BK406
             clear BK407
             clear HO419
             clear BK432
             clear HB
             clear HO416
             have BK405 := n0_
             have BK406 := n1_
             have BK407 := n2_
             have HO419 := n3_
             have BK432 := n4_
             have HB := n5_
             have HO422 := n6_
             clear n0_ n1_ n2_ n3_ n4_ n5_ n6_
             clear ho hb hg hat
             refine hK.out _ _ ⟨(blk_cell BK405.out 0).trans rfl, (blk_cell BK405.out 1).trans rfl, (blk_cell BK406.out 0).trans rfl, (blk_cell BK406.out 1).trans rfl, (blk_cell BK406.out 2).trans rfl, (blk_cell BK406.out 3).trans rfl⟩ (fun hHeld => ?_)
             clear hK K
             refine norm_ (a' := ?_) ?_ ?_
             rotate_left
             ·show Act.put _ (some 34) _ = _
              simp only [Act.put, q1_, q2_, q3_, i64_w, i32_w]
              rfl
             exact norm_ (by first | (simp only [putAll, Act.put, q1_, q2_, q3_]; done) | (simp only [putAll, Act.put, q1_, q2_, q3_]; rfl)) (hJ2_5_7_8_14 (v412, v415, .slice Ao51 y417.length co51, v421, gb432) _ ⟨hHeld, (by (with_reducible repeat (first | apply Kd.R_alloc | apply Kd.R_drewN | apply Kd.R_drew)); exact Kd.R_mono HO419.out (fun _ hk => ⟨hk.2, hk.1⟩)), (by (with_reducible repeat (first | apply Kd.R_alloc | apply Kd.R_drewN | apply Kd.R_drew)); exact HO422.out), (by (with_reducible repeat (first | apply bN_ | apply bD_ | apply bA_)); exact BK405.out), (by (with_reducible repeat (first | apply bN_ | apply bD_ | apply bA_)); exact BK406.out), (by (with_reducible repeat (first | apply bN_ | apply bD_ | apply bA_)); exact BK407.out), (by (with_reducible repeat (first | apply bN_ | apply bD_ | apply bA_)); exact BK432.out), GW432.out, GE432.out, NB405_432.out, NB432_405.out, NB406_432.out, NB432_406.out, NB407_432.out, NB432_407.out, (by repeat (first | (with_reducible first | exact HB.out | apply lA_ | apply lN_ | apply lD_ | refine lS_ ?_ GE405.out | refine lS_ ?_ GE406.out | refine lS_ ?_ GE407.out | refine lS_ ?_ GE432.out) | exact HB.out))⟩)
           ·skip
            rintro ⟨v412, v415, v418, v421⟩ w50 ⟨hS_, h0_, h1_, h2_, h3_, h4_, h5_⟩
            have n0_ : Aside0 (Kd.R k45 45 w50 w.heap.size (fun k_ => some k_ ≠ (v421 : Value).ownBlock ∧ k_ ≠ gb406) v418 y417) := ⟨h0_⟩
            have n1_ : Aside0 (Kd.R k45 45 w50 w.heap.size (fun k_ => some k_ ≠ (v418 : Value).ownBlock ∧ k_ ≠ gb406) v421 y420) := ⟨h1_⟩
            have n2_ : Aside0 (w50.heap[gb405]? = some (.cells #[.int .i64 a0_0, .slice A0_1 l0_1.length c0_1] 26 (0, 0))) := ⟨h2_⟩
            have n3_ : Aside0 (w50.heap[gb406]? = some (.cells #[.int .i64 a1_0, .int .i64 a1_1, .int .i64 a1_2, .int .i64 a1_3] 45 (0, 0))) := ⟨h3_⟩
            have n4_ : Aside0 (w50.heap[gb407]? = some (.cells #[.int .i64 0, .slice none 0 0] 26 (0, 0))) := ⟨h4_⟩
            have n5_ : Aside0 (Below w.heap.size w w50) := ⟨h5_⟩
            clear BK405
            clear BK406
            clear BK407
            clear HB
            clear h0_ h1_ h2_ h3_ h4_ h5_
            have HO419 := n0_
            have HO422 := n1_
            have BK405 := n2_
            have BK406 := n3_
            have BK407 := n4_
            have HB := n5_
            clear n0_ n1_ n2_ n3_ n4_ n5_
            have hHeld : w50.cell? ⟨gb405, 0, none⟩ = some (.int .i64 a0_0) ∧ w50.cell? ⟨gb405, 1, none⟩ = some (.slice A0_1 l0_1.length c0_1) ∧ w50.cell? ⟨gb406, 0, none⟩ = some (.int .i64 a1_0) ∧ w50.cell? ⟨gb406, 1, none⟩ = some (.int .i64 a1_1) ∧ w50.cell? ⟨gb406, 2, none⟩ = some (.int .i64 a1_2) ∧ w50.cell? ⟨gb406, 3, none⟩ = some (.int .i64 a1_3) := hS_
            obtain ⟨Ao51, co51, eo51⟩ := Kd.R_slice HO422.out
            (first | subst eo51 | (injection eo51 with f1_ f2_ f3_; have f4_ := f1_.symm; have f5_ := f3_.symm; clear f1_ f2_ f3_; subst f4_; subst f5_))
            refine norm_ (a' := ?_) ?_ ?_
            rotate_left
            ·simp only [putAll, Act.put, q1_, q2_, q3_]
             rfl
            refine two_ (i := 9) (j := 14) (Ni := some 35) (Nj := some 6) #[true, true, true, true, true, true, true, true, true, true, false, false, false, false, false, false, false] #[true, true, true, true, true, true, true, true, true, false, false, false, false, false, true, false, false] rfl rfl rfl rfl (two_of HT_.out (by kernel_rfl)) (by decide) (by decide) (fun K hK => ?_) (fun K hK => ?_)
            ·skip
             refine goes_ Try.func52 (by kernel_rfl) rfl #[.int .i64 a0_0, .slice Ao51 y420.length co51] (by rfl) rfl rfl (by (try simp only [List.map_toArray, List.map_cons, List.map_nil]); first | done | rfl | (simp only [List.length_drop, List.length_take]; rfl)) ?_
             with_reducible refine (spec_l01Made.calls a0_0 _ _ y420 t423 t424 _ ?side1 ?side2 A26.out).mono ?_
             (case side1 => repeat (first | exact (Kd.R_reads' HO422.out).2.2 | (with_reducible refine Kd.C_alloc ?_ _) | (with_reducible refine Kd.C_drewN ?_ _) | (with_reducible refine Kd.C_drew ?_)))
             (case side2 => exact (Kd.R_reads' HO422.out).2.1)
             rintro e w52 ⟨v425, rfl, ho0, hb⟩
             refine ⟨_, rfl, ?_⟩
             have n0_ := Aside0.mk (Kd.R_elder' (by (with_reducible repeat (first | apply Kd.R_alloc | apply Kd.R_drewN | apply Kd.R_drew)); exact HO419.out) (Kd.R_base ho0) hb)
             have n1_ := Aside0.mk (Kd.R_elder' (by (with_reducible repeat (first | apply Kd.R_alloc | apply Kd.R_drewN | apply Kd.R_drew)); exact HO422.out) (Kd.R_base ho0) hb)
             have n2_ := Aside0.mk (Kd.R_lower (Kd.R_newB (Kd.R_new' (Kd.R_new' ho0 (Kd.R_lt (by (with_reducible repeat (first | apply Kd.R_alloc | apply Kd.R_drewN | apply Kd.R_drew)); exact HO419.out))) (Kd.R_lt (by (with_reducible repeat (first | apply Kd.R_alloc | apply Kd.R_drewN | apply Kd.R_drew)); exact HO422.out))) (g := gb406) (o := .cells #[.int .i64 a1_0, .int .i64 a1_1, .int .i64 a1_2, .int .i64 a1_3] 45 (0, 0)) (by (with_reducible repeat (first | apply bN_ | apply bD_ | apply bA_)); exact BK406.out)) (below_size (by repeat (first | (with_reducible first | exact HB.out | apply lA_ | apply lN_ | apply lD_ | refine lS_ ?_ GE405.out | refine lS_ ?_ GE406.out | refine lS_ ?_ GE407.out) | exact HB.out))))
             have n3_ := Aside0.mk (blk_below (g := gb405) (o := .cells #[.int .i64 a0_0, .slice A0_1 l0_1.length c0_1] 26 (0, 0)) (by (with_reducible repeat (first | apply bN_ | apply bD_ | apply bA_)); exact BK405.out) hb)
             have n4_ := Aside0.mk (blk_below (g := gb406) (o := .cells #[.int .i64 a1_0, .int .i64 a1_1, .int .i64 a1_2, .int .i64 a1_3] 45 (0, 0)) (by (with_reducible repeat (first | apply bN_ | apply bD_ | apply bA_)); exact BK406.out) hb)
             have n5_ := Aside0.mk (blk_below (g := gb407) (o := .cells #[.int .i64 0, .slice none 0 0] 26 (0, 0)) (by (with_reducible repeat (first | apply bN_ | apply bD_ | apply bA_)); exact BK407.out) hb)
             have n6_ := Aside0.mk (below_step (by repeat (first | (with_reducible first | exact HB.out | apply lA_ | apply lN_ | apply lD_ | refine lS_ ?_ GE405.out | refine lS_ ?_ GE406.out | refine lS_ ?_ GE407.out) | exact HB.out)) hb)
             clear HO419
             clear HO422
             clear BK405
             clear BK406
             clear BK407
             clear HB
             have HO419 := n0_
             have HO422 := n1_
             have HO426 := n2_
             have BK405 := n3_
             have BK406 := n4_
             have BK407 := n5_
             have HB := n6_
             clear n0_ n1_ n2_ n3_ n4_ n5_ n6_
             (try clear hb)
             (try clear hb2)
             (try clear hk)
             (try clear hi)
             (try clear ho0)
             refine hK.out _ _ ⟨(blk_cell BK405.out 0).trans rfl, (blk_cell BK405.out 1).trans rfl, (blk_cell BK406.out 0).trans rfl, (blk_cell BK406.out 1).trans rfl, (blk_cell BK406.out 2).trans rfl, (blk_cell BK406.out 3).trans rfl⟩ (fun hHeld => ?_)
             clear hK K
             refine norm_ (a' := ?_) ?_ ?_
             rotate_left
             ·show Act.put _ (some 35) _ = _
              simp only [Act.put, q1_, q2_, q3_, i64_w, i32_w]
              rfl
             exact norm_ (by first | (simp only [putAll, Act.put, q1_, q2_, q3_]; done) | (simp only [putAll, Act.put, q1_, q2_, q3_]; rfl)) (hJ2_5_7_8_9 (v412, v415, v418, .slice Ao51 y420.length co51, v425) _ ⟨hHeld, (by (with_reducible repeat (first | apply Kd.R_alloc | apply Kd.R_drewN | apply Kd.R_drew)); exact Kd.R_mono HO419.out (fun _ hk => ⟨hk.1.1, ⟨hk.2, hk.1.2⟩⟩)), (by (with_reducible repeat (first | apply Kd.R_alloc | apply Kd.R_drewN | apply Kd.R_drew)); exact Kd.R_mono HO422.out (fun _ hk => ⟨hk.1.1, ⟨hk.2, hk.1.2⟩⟩)), (by (with_reducible repeat (first | apply Kd.R_alloc | apply Kd.R_drewN | apply Kd.R_drew)); exact Kd.R_mono HO426.out (fun _ hk => ⟨hk.1.1.2, ⟨hk.1.2, hk.2⟩⟩)), (by (with_reducible repeat (first | apply bN_ | apply bD_ | apply bA_)); exact BK405.out), (by (with_reducible repeat (first | apply bN_ | apply bD_ | apply bA_)); exact BK406.out), (by (with_reducible repeat (first | apply bN_ | apply bD_ | apply bA_)); exact BK407.out), (by repeat (first | (with_reducible first | exact HB.out | apply lA_ | apply lN_ | apply lD_ | refine lS_ ?_ GE405.out | refine lS_ ?_ GE406.out | refine lS_ ?_ GE407.out) | exact HB.out))⟩)
            ·skip
             refine box_step ?hg (N := 6) ?hd (cs := #[.int .i64 0, .slice none 0 0]) (t := 26) ?hr ?_; (case hd => rfl); (case hg => rfl); (case hr => first | (go_simp; done) | (go_simp; rfl))
             intro gb432 hg w51 hbox hb
             have n0_ := Aside0.mk (Kd.R_below (by (with_reducible repeat (first | apply Kd.R_alloc | apply Kd.R_drewN | apply Kd.R_drew)); exact HO419.out) hb)
             have n1_ := Aside0.mk (Kd.R_below (by (with_reducible repeat (first | apply Kd.R_alloc | apply Kd.R_drewN | apply Kd.R_drew)); exact HO422.out) hb)
             have n2_ := Aside0.mk (blk_below (g := gb405) (o := .cells #[.int .i64 a0_0, .slice A0_1 l0_1.length c0_1] 26 (0, 0)) (by (with_reducible repeat (first | apply bN_ | apply bD_ | apply bA_)); exact BK405.out) hb)
             have n3_ := Aside0.mk (blk_below (g := gb406) (o := .cells #[.int .i64 a1_0, .int .i64 a1_1, .int .i64 a1_2, .int .i64 a1_3] 45 (0, 0)) (by (with_reducible repeat (first | apply bN_ | apply bD_ | apply bA_)); exact BK406.out) hb)
             have n4_ := Aside0.mk (blk_below (g := gb407) (o := .cells #[.int .i64 0, .slice none 0 0] 26 (0, 0)) (by (with_reducible repeat (first | apply bN_ | apply bD_ | apply bA_)); exact BK407.out) hb)
             have n5_ := Aside0.mk (below_step (by repeat (first | (with_reducible first | exact HB.out | apply lA_ | apply lN_ | apply lD_ | refine lS_ ?_ GE405.out | refine lS_ ?_ GE406.out | refine lS_ ?_ GE407.out) | exact HB.out)) hb)
             have n6_ := Aside0.mk (hbox)
             have n7_ := Aside0.mk ((by rw [hg]; exact (below_size (by repeat (first | (with_reducible first | exact HB.out | apply lA_ | apply lN_ | apply lD_ | refine lS_ ?_ GE405.out | refine lS_ ?_ GE406.out | refine lS_ ?_ GE407.out) | exact HB.out))) : w.heap.size ≤ gb432))
             have n8_ := Aside0.mk ((by rw [hg]; exact (below_size (by repeat (first | (with_reducible first | exact HB.out | apply lA_ | apply lN_ | apply lD_ | refine lS_ ?_ GE405.out | refine lS_ ?_ GE406.out | refine lS_ ?_ GE407.out) | exact HB.out))) : w.heap.size ≤ gb432))
             have n9_ := Aside0.mk ((by rw [hg]; exact Nat.ne_of_lt (blk_lt (g := gb405) (o := .cells #[.int .i64 a0_0, .slice A0_1 l0_1.length c0_1] 26 (0, 0)) (by (with_reducible repeat (first | apply bN_ | apply bD_ | apply bA_)); exact BK405.out)) : gb405 ≠ gb432))
             have n10_ := Aside0.mk ((by rw [hg]; exact Nat.ne_of_gt (blk_lt (g := gb405) (o := .cells #[.int .i64 a0_0, .slice A0_1 l0_1.length c0_1] 26 (0, 0)) (by (with_reducible repeat (first | apply bN_ | apply bD_ | apply bA_)); exact BK405.out)) : gb432 ≠ gb405))
             have n11_ := Aside0.mk ((by rw [hg]; exact Nat.ne_of_lt (blk_lt (g := gb406) (o := .cells #[.int .i64 a1_0, .int .i64 a1_1, .int .i64 a1_2, .int .i64 a1_3] 45 (0, 0)) (by (with_reducible repeat (first | apply bN_ | apply bD_ | apply bA_)); exact BK406.out)) : gb406 ≠ gb432))
             have n12_ := Aside0.mk ((by rw [hg]; exact Nat.ne_of_gt (blk_lt (g := gb406) (o := .cells #[.int .i64 a1_0, .int .i64 a1_1, .int .i64 a1_2, .int .i64 a1_3] 45 (0, 0)) (by (with_reducible repeat (first | apply bN_ | apply bD_ | apply bA_)); exact BK406.out)) : gb432 ≠ gb406))
             have n13_ := Aside0.mk ((by rw [hg]; exact Nat.ne_of_lt (blk_lt (g := gb407) (o := .cells #[.int .i64 0, .slice none 0 0] 26 (0, 0)) (by (with_reducible repeat (first | apply bN_ | apply bD_ | apply bA_)); exact BK407.out)) : gb407 ≠ gb432))
             have n14_ := Aside0.mk ((by rw [hg]; exact Nat.ne_of_gt (blk_lt (g := gb407) (o := .cells #[.int .i64 0, .slice none 0 0] 26 (0, 0)) (by (with_reducible repeat (first | apply bN_ | apply bD_ | apply bA_)); exact BK407.out)) : gb432 ≠ gb407))
             clear HO419
             clear HO422
             clear BK405
             clear BK406
             clear BK407
             clear HB
             have HO419 := n0_
             have HO422 := n1_
             have BK405 := n2_
             have BK406 := n3_
             have BK407 := n4_
             have HB := n5_
             have BK432 := n6_
             have GW432 := n7_
             have GE432 := n8_
             have NB405_432 := n9_
             have NB432_405 := n10_
             have NB406_432 := n11_
             have NB432_406 := n12_
             have NB407_432 := n13_
             have NB432_407 := n14_
             clear n0_ n1_ n2_ n3_ n4_ n5_ n6_ n7_ n8_ n9_ n10_ n11_ n12_ n13_ n14_
             clear hb hbox hg
             refine hK.out _ _ ⟨(blk_cell BK405.out 0).trans rfl, (blk_cell BK405.out 1).trans rfl, (blk_cell BK406.out 0).trans rfl, (blk_cell BK406.out 1).trans rfl, (blk_cell BK406.out 2).trans rfl, (blk_cell BK406.out 3).trans rfl⟩ (fun hHeld => ?_)
             clear hK K
             refine norm_ (a' := ?_) ?_ ?_
             rotate_left
             ·show Act.put _ (some 6) _ = _
              simp only [Act.put, q1_, q2_, q3_, i64_w, i32_w]
              rfl
             exact norm_ (by first | (simp only [putAll, Act.put, q1_, q2_, q3_]; done) | (simp only [putAll, Act.put, q1_, q2_, q3_]; rfl)) (hJ2_5_7_8_14 (v412, v415, v418, .slice Ao51 y420.length co51, gb432) _ ⟨hHeld, (by (with_reducible repeat (first | apply Kd.R_alloc | apply Kd.R_drewN | apply Kd.R_drew)); exact HO419.out), (by (with_reducible repeat (first | apply Kd.R_alloc | apply Kd.R_drewN | apply Kd.R_drew)); exact HO422.out), (by (with_reducible repeat (first | apply bN_ | apply bD_ | apply bA_)); exact BK405.out), (by (with_reducible repeat (first | apply bN_ | apply bD_ | apply bA_)); exact BK406.out), (by (with_reducible repeat (first | apply bN_ | apply bD_ | apply bA_)); exact BK407.out), (by (with_reducible repeat (first | apply bN_ | apply bD_ | apply bA_)); exact BK432.out), GW432.out, GE432.out, NB405_432.out, NB432_405.out, NB406_432.out, NB432_406.out, NB407_432.out, NB432_407.out, (by repeat (first | (with_reducible first | exact HB.out | apply lA_ | apply lN_ | apply lD_ | refine lS_ ?_ GE405.out | refine lS_ ?_ GE406.out | refine lS_ ?_ GE407.out | refine lS_ ?_ GE432.out) | exact HB.out))⟩)
          ·skip
           rintro ⟨v412, v415, v418, v421, gb432⟩ w51 ⟨hS_, h0_, h1_, h2_, h3_, h4_, h5_, h6_, h7_, h8_, h9_, h10_, h11_, h12_, h13_, h14_⟩
           have n0_ : Aside0 (Kd.R k45 45 w51 w.heap.size (fun k_ => some k_ ≠ (v421 : Value).ownBlock ∧ k_ ≠ gb406) v418 y417) := ⟨h0_⟩
           have n1_ : Aside0 (Kd.R k45 45 w51 w.heap.size (fun k_ => some k_ ≠ (v418 : Value).ownBlock ∧ k_ ≠ gb406) v421 y420) := ⟨h1_⟩
           have n2_ : Aside0 (w51.heap[gb405]? = some (.cells #[.int .i64 a0_0, .slice A0_1 l0_1.length c0_1] 26 (0, 0))) := ⟨h2_⟩
           have n3_ : Aside0 (w51.heap[gb406]? = some (.cells #[.int .i64 a1_0, .int .i64 a1_1, .int .i64 a1_2, .int .i64 a1_3] 45 (0, 0))) := ⟨h3_⟩
           have n4_ : Aside0 (w51.heap[gb407]? = some (.cells #[.int .i64 0, .slice none 0 0] 26 (0, 0))) := ⟨h4_⟩
           have n5_ : Aside0 (w51.heap[gb432]? = some (.cells #[.int .i64 0, .slice none 0 0] 26 (0, 0))) := ⟨h5_⟩
           have n6_ : Aside0 (w.heap.size ≤ gb432) := ⟨h6_⟩
           have n7_ : Aside0 (w.heap.size ≤ gb432) := ⟨h7_⟩
           have n8_ : Aside0 (gb405 ≠ gb432) := ⟨h8_⟩
           have n9_ : Aside0 (gb432 ≠ gb405) := ⟨h9_⟩
           have n10_ : Aside0 (gb406 ≠ gb432) := ⟨h10_⟩
           have n11_ : Aside0 (gb432 ≠ gb406) := ⟨h11_⟩
           have n12_ : Aside0 (gb407 ≠ gb432) := ⟨h12_⟩
           have n13_ : Aside0 (gb432 ≠ gb407) := ⟨h13_⟩
           have n14_ : Aside0 (Below w.heap.size w w51) := ⟨h14_⟩
           clear BK405
           clear BK406
           clear BK407
           clear HB
           clear h0_ h1_ h2_ h3_ h4_ h5_ h6_ h7_ h8_ h9_ h10_ h11_ h12_ h13_ h14_
           have HO419 := n0_
           have HO422 := n1_
           have BK405 := n2_
           have BK406 := n3_
           have BK407 := n4_
           have BK432 := n5_
           have GW432 := n6_
           have GE432 := n7_
           have NB405_432 := n8_
           have NB432_405 := n9_
           have NB406_432 := n10_
           have NB432_406 := n11_
           have NB407_432 := n12_
           have NB432_407 := n13_
           have HB := n14_
           clear n0_ n1_ n2_ n3_ n4_ n5_ n6_ n7_ n8_ n9_ n10_ n11_ n12_ n13_ n14_
           have hHeld : w51.cell? ⟨gb405, 0, none⟩ = some (.int .i64 a0_0) ∧ w51.cell? ⟨gb405, 1, none⟩ = some (.slice A0_1 l0_1.length c0_1) ∧ w51.cell? ⟨gb406, 0, none⟩ = some (.int .i64 a1_0) ∧ w51.cell? ⟨gb406, 1, none⟩ = some (.int .i64 a1_1) ∧ w51.cell? ⟨gb406, 2, none⟩ = some (.int .i64 a1_2) ∧ w51.cell? ⟨gb406, 3, none⟩ = some (.int .i64 a1_3) := hS_
           obtain ⟨Ao52, co52, eo52⟩ := Kd.R_slice HO422.out
           (first | subst eo52 | (injection eo52 with f1_ f2_ f3_; have f4_ := f1_.symm; have f5_ := f3_.symm; clear f1_ f2_ f3_; subst f4_; subst f5_))
           refine norm_ (a' := ?_) ?_ ?_
           rotate_left
           ·simp only [putAll, Act.put, q1_, q2_, q3_]
            rfl
           refine one_ (i := 9) (N := some 35) #[true, true, true, true, true, true, true, true, true, true, false, false, false, false, true, false, false] rfl rfl (one_of HT_.out (by kernel_rfl)) (by decide) (fun K hK => ?_)
           refine goes_ Try.func52 (by kernel_rfl) rfl #[.int .i64 a0_0, .slice Ao52 y420.length co52] (by rfl) rfl rfl (by (try simp only [List.map_toArray, List.map_cons, List.map_nil]); first | done | rfl | (simp only [List.length_drop, List.length_take]; rfl)) ?_
           with_reducible refine (spec_l01Made.calls a0_0 _ _ y420 t423 t424 _ ?side1 ?side2 A26.out).mono ?_
           (case side1 => repeat (first | exact (Kd.R_reads' HO422.out).2.2 | (with_reducible refine Kd.C_alloc ?_ _) | (with_reducible refine Kd.C_drewN ?_ _) | (with_reducible refine Kd.C_drew ?_)))
           (case side2 => exact (Kd.R_reads' HO422.out).2.1)
           rintro e w53 ⟨v425, rfl, ho0, hb⟩
           refine ⟨_, rfl, ?_⟩
           have n0_ := Aside0.mk (Kd.R_elder' (by (with_reducible repeat (first | apply Kd.R_alloc | apply Kd.R_drewN | apply Kd.R_drew)); exact HO419.out) (Kd.R_base ho0) hb)
           have n1_ := Aside0.mk (Kd.R_elder' (by (with_reducible repeat (first | apply Kd.R_alloc | apply Kd.R_drewN | apply Kd.R_drew)); exact HO422.out) (Kd.R_base ho0) hb)
           have n2_ := Aside0.mk (Kd.R_lower (Kd.R_newB (Kd.R_new' (Kd.R_new' ho0 (Kd.R_lt (by (with_reducible repeat (first | apply Kd.R_alloc | apply Kd.R_drewN | apply Kd.R_drew)); exact HO419.out))) (Kd.R_lt (by (with_reducible repeat (first | apply Kd.R_alloc | apply Kd.R_drewN | apply Kd.R_drew)); exact HO422.out))) (g := gb406) (o := .cells #[.int .i64 a1_0, .int .i64 a1_1, .int .i64 a1_2, .int .i64 a1_3] 45 (0, 0)) (by (with_reducible repeat (first | apply bN_ | apply bD_ | apply bA_)); exact BK406.out)) (below_size (by repeat (first | (with_reducible first | exact HB.out | apply lA_ | apply lN_ | apply lD_ | refine lS_ ?_ GE405.out | refine lS_ ?_ GE406.out | refine lS_ ?_ GE407.out | refine lS_ ?_ GE432.out) | exact HB.out))))
           have n3_ := Aside0.mk (blk_below (g := gb405) (o := .cells #[.int .i64 a0_0, .slice A0_1 l0_1.length c0_1] 26 (0, 0)) (by (with_reducible repeat (first | apply bN_ | apply bD_ | apply bA_)); exact BK405.out) hb)
           have n4_ := Aside0.mk (blk_below (g := gb406) (o := .cells #[.int .i64 a1_0, .int .i64 a1_1, .int .i64 a1_2, .int .i64 a1_3] 45 (0, 0)) (by (with_reducible repeat (first | apply bN_ | apply bD_ | apply bA_)); exact BK406.out) hb)
           have n5_ := Aside0.mk (blk_below (g := gb407) (o := .cells #[.int .i64 0, .slice none 0 0] 26 (0, 0)) (by (with_reducible repeat (first | apply bN_ | apply bD_ | apply bA_)); exact BK407.out) hb)
           have n6_ := Aside0.mk (blk_below (g := gb432) (o := .cells #[.int .i64 0, .slice none 0 0] 26 (0, 0)) (by (with_reducible repeat (first | apply bN_ | apply bD_ | apply bA_)); exact BK432.out) hb)
           have n7_ := Aside0.mk (below_step (by repeat (first | (with_reducible first | exact HB.out | apply lA_ | apply lN_ | apply lD_ | refine lS_ ?_ GE405.out | refine lS_ ?_ GE406.out | refine lS_ ?_ GE407.out | refine lS_ ?_ GE432.out) | exact HB.out)) hb)
           clear HO419
           clear HO422
           clear BK405
           clear BK406
           clear BK407
           clear BK432
           clear HB
           have HO419 := n0_
           have HO422 := n1_
           have HO426 := n2_
           have BK405 := n3_
           have BK406 := n4_
           have BK407 := n5_
           have BK432 := n6_
           have HB := n7_
           clear n0_ n1_ n2_ n3_ n4_ n5_ n6_ n7_
           (try clear hb)
           (try clear hb2)
           (try clear hk)
           (try clear hi)
           (try clear ho0)
           refine hK.out _ _ ⟨(blk_cell BK405.out 0).trans rfl, (blk_cell BK405.out 1).trans rfl, (blk_cell BK406.out 0).trans rfl, (blk_cell BK406.out 1).trans rfl, (blk_cell BK406.out 2).trans rfl, (blk_cell BK406.out 3).trans rfl⟩ (fun hHeld => ?_)
           clear hK K
           refine norm_ (a' := ?_) ?_ ?_
           rotate_left
           ·show Act.put _ (some 35) _ = _
            simp only [Act.put, q1_, q2_, q3_, i64_w, i32_w]
            rfl
           exact norm_ (by first | (simp only [putAll, Act.put, q1_, q2_, q3_]; done) | (simp only [putAll, Act.put, q1_, q2_, q3_]; rfl)) (hJ2_5_7_8_9_14 (v412, v415, v418, .slice Ao52 y420.length co52, v425, gb432) _ ⟨hHeld, (by (with_reducible repeat (first | apply Kd.R_alloc | apply Kd.R_drewN | apply Kd.R_drew)); exact Kd.R_mono HO419.out (fun _ hk => ⟨hk.1.1, ⟨hk.2, hk.1.2⟩⟩)), (by (with_reducible repeat (first | apply Kd.R_alloc | apply Kd.R_drewN | apply Kd.R_drew)); exact Kd.R_mono HO422.out (fun _ hk => ⟨hk.1.1, ⟨hk.2, hk.1.2⟩⟩)), (by (with_reducible repeat (first | apply Kd.R_alloc | apply Kd.R_drewN | apply Kd.R_drew)); exact Kd.R_mono HO426.out (fun _ hk => ⟨hk.1.1.2, ⟨hk.1.2, hk.2⟩⟩)), (by (with_reducible repeat (first | apply bN_ | apply bD_ | apply bA_)); exact BK405.out), (by (with_reducible repeat (first | apply bN_ | apply bD_ | apply bA_)); exact BK406.out), (by (with_reducible repeat (first | apply bN_ | apply bD_ | apply bA_)); exact BK407.out), (by (with_reducible repeat (first | apply bN_ | apply bD_ | apply bA_)); exact BK432.out), GW432.out, GE432.out, NB405_432.out, NB432_405.out, NB406_432.out, NB432_406.out, NB407_432.out, NB432_407.out, (by repeat (first | (with_reducible first | exact HB.out | apply lA_ | apply lN_ | apply lD_ | refine lS_ ?_ GE405.out | refine lS_ ?_ GE406.out | refine lS_ ?_ GE407.out | refine lS_ ?_ GE432.out) | exact HB.out))⟩)
         ·skip
          rintro ⟨v412, v415, v418, v421, v425⟩ w52 ⟨hS_, h0_, h1_, h2_, h3_, h4_, h5_, h6_⟩
          have n0_ : Aside0 (Kd.R k45 45 w52 w.heap.size (fun k_ => some k_ ≠ (v421 : Value).ownBlock ∧ some k_ ≠ (v425 : Value).ownBlock ∧ k_ ≠ gb406) v418 y417) := ⟨h0_⟩
          have n1_ : Aside0 (Kd.R k45 45 w52 w.heap.size (fun k_ => some k_ ≠ (v418 : Value).ownBlock ∧ some k_ ≠ (v425 : Value).ownBlock ∧ k_ ≠ gb406) v421 y420) := ⟨h1_⟩
          have n2_ : Aside0 (Kd.R k45 45 w52 w.heap.size (fun k_ => some k_ ≠ (v418 : Value).ownBlock ∧ some k_ ≠ (v421 : Value).ownBlock ∧ k_ ≠ gb406) v425 t424) := ⟨h2_⟩
          have n3_ : Aside0 (w52.heap[gb405]? = some (.cells #[.int .i64 a0_0, .slice A0_1 l0_1.length c0_1] 26 (0, 0))) := ⟨h3_⟩
          have n4_ : Aside0 (w52.heap[gb406]? = some (.cells #[.int .i64 a1_0, .int .i64 a1_1, .int .i64 a1_2, .int .i64 a1_3] 45 (0, 0))) := ⟨h4_⟩
          have n5_ : Aside0 (w52.heap[gb407]? = some (.cells #[.int .i64 0, .slice none 0 0] 26 (0, 0))) := ⟨h5_⟩
          have n6_ : Aside0 (Below w.heap.size w w52) := ⟨h6_⟩
          clear BK405
          clear BK406
          clear BK407
          clear HB
          clear h0_ h1_ h2_ h3_ h4_ h5_ h6_
          have HO419 := n0_
          have HO422 := n1_
          have HO426 := n2_
          have BK405 := n3_
          have BK406 := n4_
          have BK407 := n5_
          have HB := n6_
          clear n0_ n1_ n2_ n3_ n4_ n5_ n6_
          have hHeld : w52.cell? ⟨gb405, 0, none⟩ = some (.int .i64 a0_0) ∧ w52.cell? ⟨gb405, 1, none⟩ = some (.slice A0_1 l0_1.length c0_1) ∧ w52.cell? ⟨gb406, 0, none⟩ = some (.int .i64 a1_0) ∧ w52.cell? ⟨gb406, 1, none⟩ = some (.int .i64 a1_1) ∧ w52.cell? ⟨gb406, 2, none⟩ = some (.int .i64 a1_2) ∧ w52.cell? ⟨gb406, 3, none⟩ = some (.int .i64 a1_3) := hS_
          obtain ⟨Ao53, co53, eo53⟩ := Kd.R_slice HO426.out
          (first | subst eo53 | (injection eo53 with f1_ f2_ f3_; have f4_ := f1_.symm; have f5_ := f3_.symm; clear f1_ f2_ f3_; subst f4_; subst f5_))
          refine norm_ (a' := ?_) ?_ ?_
          rotate_left
          ·simp only [putAll, Act.put, q1_, q2_, q3_]
           rfl
          refine two_ (i := 10) (j := 14) (Ni := some 36) (Nj := some 6) #[true, true, true, true, true, true, true, true, true, true, true, false, false, false, false, false, false] #[true, true, true, true, true, true, true, true, true, true, false, false, false, false, true, false, false] rfl rfl rfl rfl (two_of HT_.out (by kernel_rfl)) (by decide) (by decide) (fun K hK => ?_) (fun K hK => ?_)
          ·skip
           refine goes_ Try.func51 (by kernel_rfl) rfl #[.agg #[.int .i64 t423, .slice Ao53 t424.length co53]] (by rfl) rfl rfl (by (try simp only [List.map_toArray, List.map_cons, List.map_nil]); first | done | rfl | (simp only [List.length_drop, List.length_take]; rfl)) ?_
           with_reducible refine (spec_l01Told.calls t423 (fun k_ => some k_ = (.slice Ao53 t424.length co53 : Value).ownBlock) (.slice Ao53 t424.length co53) t424 t427 t428 t431 w _ ?side1 ?side2 A27.out).mono ?_
           (case side1 => repeat (first | (with_reducible first | exact HB.out | apply lA_ | apply lN_ | apply lD_ | refine lS_ ?_ GE405.out | refine lS_ ?_ GE406.out | refine lS_ ?_ GE407.out) | exact HB.out))
           (case side2 => exact Kd.R_tight rfl HO426.out)
           rintro e w54 ⟨v429, rfl, ho0, hb, hkp⟩
           refine ⟨_, rfl, ?_⟩
           have n0_ := Aside0.mk (blk_kept (by (with_reducible repeat (first | apply bN_ | apply bD_ | apply bA_)); exact BK405.out) hkp (fun hs_ => (fun e_ => (Kd.R_ne HO426.out BK405.out (by decide)) e_) hs_))
           have n1_ := Aside0.mk (blk_kept (by (with_reducible repeat (first | apply bN_ | apply bD_ | apply bA_)); exact BK406.out) hkp (fun hs_ => (fun e_ => (Kd.R_away HO426.out (fun _ hk => hk.2.2)) e_) hs_))
           have n2_ := Aside0.mk (blk_kept (by (with_reducible repeat (first | apply bN_ | apply bD_ | apply bA_)); exact BK407.out) hkp (fun hs_ => (fun e_ => (Kd.R_ne HO426.out BK407.out (by decide)) e_) hs_))
           have n3_ := Aside0.mk (Kd.R_mono (ok' := fun k_ => some k_ ≠ (v421 : Value).ownBlock ∧ k_ ≠ gb406 ∧ some k_ ≠ (v429 : Value).ownBlock) (Kd.R_keptB (HO419.out) hkp (fun k_ hk_ hs_ => (hk_.2.1) hs_)) (fun k_ hk_ => ⟨hk_.1.1, hk_.1.2.2, fun e_ => Or.elim (ho0.1 k_ e_.symm) (fun hs_ => hk_.2.1 hs_) (fun hn_ => Nat.not_le.2 hk_.2.2 hn_)⟩))
           have n4_ := Aside0.mk (Kd.R_mono (ok' := fun k_ => some k_ ≠ (v418 : Value).ownBlock ∧ k_ ≠ gb406 ∧ some k_ ≠ (v429 : Value).ownBlock) (Kd.R_keptB (HO422.out) hkp (fun k_ hk_ hs_ => (hk_.2.1) hs_)) (fun k_ hk_ => ⟨hk_.1.1, hk_.1.2.2, fun e_ => Or.elim (ho0.1 k_ e_.symm) (fun hs_ => hk_.2.1 hs_) (fun hn_ => Nat.not_le.2 hk_.2.2 hn_)⟩))
           have n5_ := Aside0.mk (Kd.R_mono (ok' := fun k_ => some k_ ≠ (v418 : Value).ownBlock ∧ some k_ ≠ (v421 : Value).ownBlock ∧ k_ ≠ gb406) ho0 (fun k_ hk_ => ⟨Or.elim hk_ (fun hs_ => fun e_ => (((HO419.out).1 k_ e_.symm).2.1) hs_) (fun hn_ => (Kd.fresh' (Kd.R_lt (by (with_reducible repeat (first | apply Kd.R_alloc | apply Kd.R_drewN | apply Kd.R_drew)); exact HO419.out)) k_ hn_)), Or.elim hk_ (fun hs_ => fun e_ => (((HO422.out).1 k_ e_.symm).2.1) hs_) (fun hn_ => (Kd.fresh' (Kd.R_lt (by (with_reducible repeat (first | apply Kd.R_alloc | apply Kd.R_drewN | apply Kd.R_drew)); exact HO422.out)) k_ hn_)), Or.elim hk_ (fun hs_ => fun e_ => (Kd.R_away HO426.out (fun _ hk => hk.2.2)) (by rw [← e_]; exact hs_)) (fun hn_ => (Kd.freshB (g := gb406) (o := .cells #[.int .i64 a1_0, .int .i64 a1_1, .int .i64 a1_2, .int .i64 a1_3] 45 (0, 0)) (by (with_reducible repeat (first | apply bN_ | apply bD_ | apply bA_)); exact BK406.out) k_ hn_))⟩))
           have n6_ := Aside0.mk (hb)
           clear BK405
           clear BK406
           clear BK407
           clear HO419
           clear HO422
           clear HB
           clear HO426
           have BK405 := n0_
           have BK406 := n1_
           have BK407 := n2_
           have HO419 := n3_
           have HO422 := n4_
           have HO430 := n5_
           have HB := n6_
           clear n0_ n1_ n2_ n3_ n4_ n5_ n6_
           (try clear hb)
           (try clear hkp)
           (try clear ho0)
           refine hK.out _ _ ⟨(blk_cell BK405.out 0).trans rfl, (blk_cell BK405.out 1).trans rfl, (blk_cell BK406.out 0).trans rfl, (blk_cell BK406.out 1).trans rfl, (blk_cell BK406.out 2).trans rfl, (blk_cell BK406.out 3).trans rfl⟩ (fun hHeld => ?_)
           clear hK K
           refine norm_ (a' := ?_) ?_ ?_
           rotate_left
           ·show Act.put _ (some 36) _ = _
            simp only [Act.put, q1_, q2_, q3_, i64_w, i32_w]
            rfl
           refine pure_ (i := 11) (N := some 25) (v := ?_) (a' := ?_) #[true, true, true, true, true, true, true, true, true, true, true, true, false, false, false, false, false] rfl rfl (any_of HT_.out (by kernel_rfl)) (fun _ _ _ h => h) (Or.inl ⟨by rfl, ?_⟩) ?_ ?_
           rotate_left
           ·intro w'
            go_simp
            with_reducible rfl
           rotate_left
           ·simp only [Act.put, q1_, q2_, q3_, i64_w, i32_w]
            rfl
           refine pure_ (i := 12) (N := some 37) (v := ?_) (a' := ?_) #[true, true, true, true, true, true, true, true, true, true, true, true, true, false, false, false, false] rfl rfl (any_of HT_.out (by kernel_rfl)) (fun _ _ _ h => h) (Or.inl ⟨by rfl, ?_⟩) ?_ ?_
           rotate_left
           ·intro w'
            go_simp
            with_reducible rfl
           rotate_left
           ·simp only [Act.put, q1_, q2_, q3_, i64_w, i32_w]
            rfl
           refine pure_ (i := 13) (N := some 38) (v := ?_) (a' := ?_) #[true, true, true, true, true, true, true, true, true, true, true, true, true, true, false, false, false] rfl rfl (any_of HT_.out (by kernel_rfl)) (fun _ _ _ h => h) (Or.inl ⟨by rfl, ?_⟩) ?_ ?_
           rotate_left
           ·intro w'
            go_simp
            with_reducible rfl
           rotate_left
           ·simp only [Act.put, q1_, q2_, q3_, i64_w, i32_w]
            rfl
           exact norm_ (by first | (simp only [putAll, Act.put, q1_, q2_, q3_]; done) | (simp only [putAll, Act.put, q1_, q2_, q3_]; rfl)) (hJ2_5_7_8_9_10 (v412, v415, v418, v421, .slice Ao53 t424.length co53, v429) _ ⟨hHeld, (by (with_reducible repeat (first | apply Kd.R_alloc | apply Kd.R_drewN | apply Kd.R_drew)); exact Kd.R_mono HO419.out (fun _ hk => ⟨hk.1, ⟨hk.2.2, hk.2.1⟩⟩)), (by (with_reducible repeat (first | apply Kd.R_alloc | apply Kd.R_drewN | apply Kd.R_drew)); exact Kd.R_mono HO422.out (fun _ hk => ⟨hk.1, ⟨hk.2.2, hk.2.1⟩⟩)), (by (with_reducible repeat (first | apply Kd.R_alloc | apply Kd.R_drewN | apply Kd.R_drew)); exact HO430.out), (by (with_reducible repeat (first | apply bN_ | apply bD_ | apply bA_)); exact BK405.out), (by (with_reducible repeat (first | apply bN_ | apply bD_ | apply bA_)); exact BK406.out), (by (with_reducible repeat (first | apply bN_ | apply bD_ | apply bA_)); exact BK407.out), (by repeat (first | (with_reducible first | exact HB.out | apply lA_ | apply lN_ | apply lD_ | refine lS_ ?_ GE405.out | refine lS_ ?_ GE406.out | refine lS_ ?_ GE407.out) | exact HB.out))⟩)
          ·skip
           refine box_step ?hg (N := 6) ?hd (cs := #[.int .i64 0, .slice none 0 0]) (t := 26) ?hr ?_; (case hd => rfl); (case hg => rfl); (case hr => first | (go_simp; done) | (go_simp; rfl))
           intro gb432 hg w53 hbox hb
           have n0_ := Aside0.mk (Kd.R_below (by (with_reducible repeat (first | apply Kd.R_alloc | apply Kd.R_drewN | apply Kd.R_drew)); exact HO419.out) hb)
           have n1_ := Aside0.mk (Kd.R_below (by (with_reducible repeat (first | apply Kd.R_alloc | apply Kd.R_drewN | apply Kd.R_drew)); exact HO422.out) hb)
           have n2_ := Aside0.mk (Kd.R_below (by (with_reducible repeat (first | apply Kd.R_alloc | apply Kd.R_drewN | apply Kd.R_drew)); exact HO426.out) hb)
           have n3_ := Aside0.mk (blk_below (g := gb405) (o := .cells #[.int .i64 a0_0, .slice A0_1 l0_1.length c0_1] 26 (0, 0)) (by (with_reducible repeat (first | apply bN_ | apply bD_ | apply bA_)); exact BK405.out) hb)
           have n4_ := Aside0.mk (blk_below (g := gb406) (o := .cells #[.int .i64 a1_0, .int .i64 a1_1, .int .i64 a1_2, .int .i64 a1_3] 45 (0, 0)) (by (with_reducible repeat (first | apply bN_ | apply bD_ | apply bA_)); exact BK406.out) hb)
           have n5_ := Aside0.mk (blk_below (g := gb407) (o := .cells #[.int .i64 0, .slice none 0 0] 26 (0, 0)) (by (with_reducible repeat (first | apply bN_ | apply bD_ | apply bA_)); exact BK407.out) hb)
           have n6_ := Aside0.mk (below_step (by repeat (first | (with_reducible first | exact HB.out | apply lA_ | apply lN_ | apply lD_ | refine lS_ ?_ GE405.out | refine lS_ ?_ GE406.out | refine lS_ ?_ GE407.out) | exact HB.out)) hb)
           have n7_ := Aside0.mk (hbox)
           have n8_ := Aside0.mk ((by rw [hg]; exact (below_size (by repeat (first | (with_reducible first | exact HB.out | apply lA_ | apply lN_ | apply lD_ | refine lS_ ?_ GE405.out | refine lS_ ?_ GE406.out | refine lS_ ?_ GE407.out) | exact HB.out))) : w.heap.size ≤ gb432))
           have n9_ := Aside0.mk ((by rw [hg]; exact (below_size (by repeat (first | (with_reducible first | exact HB.out | apply lA_ | apply lN_ | apply lD_ | refine lS_ ?_ GE405.out | refine lS_ ?_ GE406.out | refine lS_ ?_ GE407.out) | exact HB.out))) : w.heap.size ≤ gb432))
           have n10_ := Aside0.mk ((by rw [hg]; exact Nat.ne_of_lt (blk_lt (g := gb405) (o := .cells #[.int .i64 a0_0, .slice A0_1 l0_1.length c0_1] 26 (0, 0)) (by (with_reducible repeat (first | apply bN_ | apply bD_ | apply bA_)); exact BK405.out)) : gb405 ≠ gb432))
           have n11_ := Aside0.mk ((by rw [hg]; exact Nat.ne_of_gt (blk_lt (g := gb405) (o := .cells #[.int .i64 a0_0, .slice A0_1 l0_1.length c0_1] 26 (0, 0)) (by (with_reducible repeat (first | apply bN_ | apply bD_ | apply bA_)); exact BK405.out)) : gb432 ≠ gb405))
           have n12_ := Aside0.mk ((by rw [hg]; exact Nat.ne_of_lt (blk_lt (g := gb406) (o := .cells #[.int .i64 a1_0, .int .i64 a1_1, .int .i64 a1_2, .int .i64 a1_3] 45 (0, 0)) (by (with_reducible repeat (first | apply bN_ | apply bD_ | apply bA_)); exact BK406.out)) : gb406 ≠ gb432))
           have n13_ := Aside0.mk ((by rw [hg]; exact Nat.ne_of_gt (blk_lt (g := gb406) (o := .cells #[.int .i64 a1_0, .int .i64 a1_1, .int .i64 a1_2, .int .i64 a1_3] 45 (0, 0)) (by (with_reducible repeat (first | apply bN_ | apply bD_ | apply bA_)); exact BK406.out)) : gb432 ≠ gb406))
           have n14_ := Aside0.mk ((by rw [hg]; exact Nat.ne_of_lt (blk_lt (g := gb407) (o := .cells #[.int .i64 0, .slice none 0 0] 26 (0, 0)) (by (with_reducible repeat (first | apply bN_ | apply bD_ | apply bA_)); exact BK407.out)) : gb407 ≠ gb432))
           have n15_ := Aside0.mk ((by rw [hg]; exact Nat.ne_of_gt (blk_lt (g := gb407) (o := .cells #[.int .i64 0, .slice none 0 0] 26 (0, 0)) (by (with_reducible repeat (first | apply bN_ | apply bD_ | apply bA_)); exact BK407.out)) : gb432 ≠ gb407))
           clear HO419
           clear HO422
           clear HO426
           clear BK405
           clear BK406
           clear BK407
           clear HB
           have HO419 := n0_
           have HO422 := n1_
           have HO426 := n2_
           have BK405 := n3_
           have BK406 := n4_
           have BK407 := n5_
           have HB := n6_
           have BK432 := n7_
           have GW432 := n8_
           have GE432 := n9_
           have NB405_432 := n10_
           have NB432_405 := n11_
           have NB406_432 := n12_
           have NB432_406 := n13_
           have NB407_432 := n14_
           have NB432_407 := n15_
           clear n0_ n1_ n2_ n3_ n4_ n5_ n6_ n7_ n8_ n9_ n10_ n11_ n12_ n13_ n14_ n15_
           clear hb hbox hg
           refine hK.out _ _ ⟨(blk_cell BK405.out 0).trans rfl, (blk_cell BK405.out 1).trans rfl, (blk_cell BK406.out 0).trans rfl, (blk_cell BK406.out 1).trans rfl, (blk_cell BK406.out 2).trans rfl, (blk_cell BK406.out 3).trans rfl⟩ (fun hHeld => ?_)
           clear hK K
           refine norm_ (a' := ?_) ?_ ?_
           rotate_left
           ·show Act.put _ (some 6) _ = _
            simp only [Act.put, q1_, q2_, q3_, i64_w, i32_w]
            rfl
           exact norm_ (by first | (simp only [putAll, Act.put, q1_, q2_, q3_]; done) | (simp only [putAll, Act.put, q1_, q2_, q3_]; rfl)) (hJ2_5_7_8_9_14 (v412, v415, v418, v421, .slice Ao53 t424.length co53, gb432) _ ⟨hHeld, (by (with_reducible repeat (first | apply Kd.R_alloc | apply Kd.R_drewN | apply Kd.R_drew)); exact HO419.out), (by (with_reducible repeat (first | apply Kd.R_alloc | apply Kd.R_drewN | apply Kd.R_drew)); exact HO422.out), (by (with_reducible repeat (first | apply Kd.R_alloc | apply Kd.R_drewN | apply Kd.R_drew)); exact HO426.out), (by (with_reducible repeat (first | apply bN_ | apply bD_ | apply bA_)); exact BK405.out), (by (with_reducible repeat (first | apply bN_ | apply bD_ | apply bA_)); exact BK406.out), (by (with_reducible repeat (first | apply bN_ | apply bD_ | apply bA_)); exact BK407.out), (by (with_reducible repeat (first | apply bN_ | apply bD_ | apply bA_)); exact BK432.out), GW432.out, GE432.out, NB405_432.out, NB432_405.out, NB406_432.out, NB432_406.out, NB407_432.out, NB432_407.out, (by repeat (first | (with_reducible first | exact HB.out | apply lA_ | apply lN_ | apply lD_ | refine lS_ ?_ GE405.out | refine lS_ ?_ GE406.out | refine lS_ ?_ GE407.out | refine lS_ ?_ GE432.out) | exact HB.out))⟩)
        ·skip
         rintro ⟨v412, v415, v418, v421, v425, gb432⟩ w53 ⟨hS_, h0_, h1_, h2_, h3_, h4_, h5_, h6_, h7_, h8_, h9_, h10_, h11_, h12_, h13_, h14_, h15_⟩
         have n0_ : Aside0 (Kd.R k45 45 w53 w.heap.size (fun k_ => some k_ ≠ (v421 : Value).ownBlock ∧ some k_ ≠ (v425 : Value).ownBlock ∧ k_ ≠ gb406) v418 y417) := ⟨h0_⟩
         have n1_ : Aside0 (Kd.R k45 45 w53 w.heap.size (fun k_ => some k_ ≠ (v418 : Value).ownBlock ∧ some k_ ≠ (v425 : Value).ownBlock ∧ k_ ≠ gb406) v421 y420) := ⟨h1_⟩
         have n2_ : Aside0 (Kd.R k45 45 w53 w.heap.size (fun k_ => some k_ ≠ (v418 : Value).ownBlock ∧ some k_ ≠ (v421 : Value).ownBlock ∧ k_ ≠ gb406) v425 t424) := ⟨h2_⟩
         have n3_ : Aside0 (w53.heap[gb405]? = some (.cells #[.int .i64 a0_0, .slice A0_1 l0_1.length c0_1] 26 (0, 0))) := ⟨h3_⟩
         have n4_ : Aside0 (w53.heap[gb406]? = some (.cells #[.int .i64 a1_0, .int .i64 a1_1, .int .i64 a1_2, .int .i64 a1_3] 45 (0, 0))) := ⟨h4_⟩
         have n5_ : Aside0 (w53.heap[gb407]? = some (.cells #[.int .i64 0, .slice none 0 0] 26 (0, 0))) := ⟨h5_⟩
         have n6_ : Aside0 (w53.heap[gb432]? = some (.cells #[.int .i64 0, .slice none 0 0] 26 (0, 0))) := ⟨h6_⟩
         have n7_ : Aside0 (w.heap.size ≤ gb432) := ⟨h7_⟩
         have n8_ : Aside0 (w.heap.size ≤ gb432) := ⟨h8_⟩
         have n9_ : Aside0 (gb405 ≠ gb432) := ⟨h9_⟩
         have n10_ : Aside0 (gb432 ≠ gb405) := ⟨h10_⟩
         have n11_ : Aside0 (gb406 ≠ gb432) := ⟨h11_⟩
         have n12_ : Aside0 (gb432 ≠ gb406) := ⟨h12_⟩
         have n13_ : Aside0 (gb407 ≠ gb432) := ⟨h13_⟩
         have n14_ : Aside0 (gb432 ≠ gb407) := ⟨h14_⟩
         have n15_ : Aside0 (Below w.heap.size w w53) := ⟨h15_⟩
         clear BK405
         clear BK406
         clear BK407
         clear HB
         clear h0_ h1_ h2_ h3_ h4_ h5_ h6_ h7_ h8_ h9_ h10_ h11_ h12_ h13_ h14_ h15_
         have HO419 := n0_
         have HO422 := n1_
         have HO426 := n2_
         have BK405 := n3_
         have BK406 := n4_
         have BK407 := n5_
         have BK432 := n6_
         have GW432 := n7_
         have GE432 := n8_
         have NB405_432 := n9_
         have NB432_405 := n10_
         have NB406_432 := n11_
         have NB432_406 := n12_
         have NB407_432 := n13_
         have NB432_407 := n14_
         have HB := n15_
         clear n0_ n1_ n2_ n3_ n4_ n5_ n6_ n7_ n8_ n9_ n10_ n11_ n12_ n13_ n14_ n15_
         have hHeld : w53.cell? ⟨gb405, 0, none⟩ = some (.int .i64 a0_0) ∧ w53.cell? ⟨gb405, 1, none⟩ = some (.slice A0_1 l0_1.length c0_1) ∧ w53.cell? ⟨gb406, 0, none⟩ = some (.int .i64 a1_0) ∧ w53.cell? ⟨gb406, 1, none⟩ = some (.int .i64 a1_1) ∧ w53.cell? ⟨gb406, 2, none⟩ = some (.int .i64 a1_2) ∧ w53.cell? ⟨gb406, 3, none⟩ = some (.int .i64 a1_3) := hS_
         obtain ⟨Ao54, co54, eo54⟩ := Kd.R_slice HO426.out
         (first | subst eo54 | (injection eo54 with f1_ f2_ f3_; have f4_ := f1_.symm; have f5_ := f3_.symm; clear f1_ f2_ f3_; subst f4_; subst f5_))
         refine norm_ (a' := ?_) ?_ ?_
         rotate_left
         ·simp only [putAll, Act.put, q1_, q2_, q3_]
          rfl
         refine one_ (i := 10) (N := some 36) #[true, true, true, true, true, true, true, true, true, true, true, false, false, false, true, false, false] rfl rfl (one_of HT_.out (by kernel_rfl)) (by decide) (fun K hK => ?_)
         refine goes_ Try.func51 (by kernel_rfl) rfl #[.agg #[.int .i64 t423, .slice Ao54 t424.length co54]] (by rfl) rfl rfl (by (try simp only [List.map_toArray, List.map_cons, List.map_nil]); first | done | rfl | (simp only [List.length_drop, List.length_take]; rfl)) ?_
         with_reducible refine (spec_l01Told.calls t423 (fun k_ => some k_ = (.slice Ao54 t424.length co54 : Value).ownBlock) (.slice Ao54 t424.length co54) t424 t427 t428 t431 w _ ?side1 ?side2 A27.out).mono ?_
         (case side1 => repeat (first | (with_reducible first | exact HB.out | apply lA_ | apply lN_ | apply lD_ | refine lS_ ?_ GE405.out | refine lS_ ?_ GE406.out | refine lS_ ?_ GE407.out | refine lS_ ?_ GE432.out) | exact HB.out))
         (case side2 => exact Kd.R_tight rfl HO426.out)
         rintro e w55 ⟨v429, rfl, ho0, hb, hkp⟩
         refine ⟨_, rfl, ?_⟩
         have n0_ := Aside0.mk (blk_kept (by (with_reducible repeat (first | apply bN_ | apply bD_ | apply bA_)); exact BK405.out) hkp (fun hs_ => (fun e_ => (Kd.R_ne HO426.out BK405.out (by decide)) e_) hs_))
         have n1_ := Aside0.mk (blk_kept (by (with_reducible repeat (first | apply bN_ | apply bD_ | apply bA_)); exact BK406.out) hkp (fun hs_ => (fun e_ => (Kd.R_away HO426.out (fun _ hk => hk.2.2)) e_) hs_))
         have n2_ := Aside0.mk (blk_kept (by (with_reducible repeat (first | apply bN_ | apply bD_ | apply bA_)); exact BK407.out) hkp (fun hs_ => (fun e_ => (Kd.R_ne HO426.out BK407.out (by decide)) e_) hs_))
         have n3_ := Aside0.mk (Kd.R_mono (ok' := fun k_ => some k_ ≠ (v421 : Value).ownBlock ∧ k_ ≠ gb406 ∧ some k_ ≠ (v429 : Value).ownBlock) (Kd.R_keptB (HO419.out) hkp (fun k_ hk_ hs_ => (hk_.2.1) hs_)) (fun k_ hk_ => ⟨hk_.1.1, hk_.1.2.2, fun e_ => Or.elim (ho0.1 k_ e_.symm) (fun hs_ => hk_.2.1 hs_) (fun hn_ => Nat.not_le.2 hk_.2.2 hn_)⟩))
         have n4_ := Aside0.mk (Kd.R_mono (ok' := fun k_ => some k_ ≠ (v418 : Value).ownBlock ∧ k_ ≠ gb406 ∧ some k_ ≠ (v429 : Value).ownBlock) (Kd.R_keptB (HO422.out) hkp (fun k_ hk_ hs_ => (hk_.2.1) hs_)) (fun k_ hk_ => ⟨hk_.1.1, hk_.1.2.2, fun e_ => Or.elim (ho0.1 k_ e_.symm) (fun hs_ => hk_.2.1 hs_) (fun hn_ => Nat.not_le.2 hk_.2.2 hn_)⟩))
         have n5_ := Aside0.mk (blk_kept (by (with_reducible repeat (first | apply bN_ | apply bD_ | apply bA_)); exact BK432.out) hkp (fun hs_ => (fun e_ => (Kd.R_ne HO426.out BK432.out (by decide)) e_) hs_))
         have n6_ := Aside0.mk (Kd.R_mono (ok' := fun k_ => some k_ ≠ (v418 : Value).ownBlock ∧ some k_ ≠ (v421 : Value).ownBlock ∧ k_ ≠ gb406) ho0 (fun k_ hk_ => ⟨Or.elim hk_ (fun hs_ => fun e_ => (((HO419.out).1 k_ e_.symm).2.1) hs_) (fun hn_ => (Kd.fresh' (Kd.R_lt (by (with_reducible repeat (first | apply Kd.R_alloc | apply Kd.R_drewN | apply Kd.R_drew)); exact HO419.out)) k_ hn_)), Or.elim hk_ (fun hs_ => fun e_ => (((HO422.out).1 k_ e_.symm).2.1) hs_) (fun hn_ => (Kd.fresh' (Kd.R_lt (by (with_reducible repeat (first | apply Kd.R_alloc | apply Kd.R_drewN | apply Kd.R_drew)); exact HO422.out)) k_ hn_)), Or.elim hk_ (fun hs_ => fun e_ => (Kd.R_away HO426.out (fun _ hk => hk.2.2)) (by rw [← e_]; exact hs_)) (fun hn_ => (Kd.freshB (g := gb406) (o := .cells #[.int .i64 a1_0, .int .i64 a1_1, .int .i64 a1_2, .int .i64 a1_3] 45 (0, 0)) (by (with_reducible repeat (first | apply bN_ | apply bD_ | apply bA_)); exact BK406.out) k_ hn_))⟩))
         have n7_ := Aside0.mk (hb)
         clear BK405
         clear BK406
         clear BK407
         clear HO419
         clear HO422
         clear BK432
         clear HB
         clear HO426
         have BK405 := n0_
         have BK406 := n1_
         have BK407 := n2_
         have HO419 := n3_
         have HO422 := n4_
         have BK432 := n5_
         have HO430 := n6_
         have HB := n7_
         clear n0_ n1_ n2_ n3_ n4_ n5_ n6_ n7_
         (try clear hb)
         (try clear hkp)
         (try clear ho0)
         refine hK.out _ _ ⟨(blk_cell BK405.out 0).trans rfl, (blk_cell BK405.out 1).trans rfl, (blk_cell BK406.out 0).trans rfl, (blk_cell BK406.out 1).trans rfl, (blk_cell BK406.out 2).trans rfl, (blk_cell BK406.out 3).trans rfl⟩ (fun hHeld => ?_)
         clear hK K
         refine norm_ (a' := ?_) ?_ ?_
         rotate_left
         ·show Act.put _ (some 36) _ = _
          simp only [Act.put, q1_, q2_, q3_, i64_w, i32_w]
          rfl
         refine pure_ (i := 11) (N := some 25) (v := ?_) (a' := ?_) #[true, true, true, true, true, true, true, true, true, true, true, true, false, false, true, false, false] rfl rfl (any_of HT_.out (by kernel_rfl)) (fun _ _ _ h => h) (Or.inl ⟨by rfl, ?_⟩) ?_ ?_
         rotate_left
         ·intro w'
          go_simp
          with_reducible rfl
         rotate_left
         ·simp only [Act.put, q1_, q2_, q3_, i64_w, i32_w]
          rfl
         refine pure_ (i := 12) (N := some 37) (v := ?_) (a' := ?_) #[true, true, true, true, true, true, true, true, true, true, true, true, true, false, true, false, false] rfl rfl (any_of HT_.out (by kernel_rfl)) (fun _ _ _ h => h) (Or.inl ⟨by rfl, ?_⟩) ?_ ?_
         rotate_left
         ·intro w'
          go_simp
          with_reducible rfl
         rotate_left
         ·simp only [Act.put, q1_, q2_, q3_, i64_w, i32_w]
          rfl
         refine pure_ (i := 13) (N := some 38) (v := ?_) (a' := ?_) #[true, true, true, true, true, true, true, true, true, true, true, true, true, true, true, false, false] rfl rfl (any_of HT_.out (by kernel_rfl)) (fun _ _ _ h => h) (Or.inl ⟨by rfl, ?_⟩) ?_ ?_
         rotate_left
         ·intro w'
          go_simp
          with_reducible rfl
         rotate_left
         ·simp only [Act.put, q1_, q2_, q3_, i64_w, i32_w]
          rfl
         exact norm_ (by first | (simp only [putAll, Act.put, q1_, q2_, q3_]; done) | (simp only [putAll, Act.put, q1_, q2_, q3_]; rfl)) (hJ2_5_7_8_9_10_14 (v412, v415, v418, v421, .slice Ao54 t424.length co54, v429, gb432) _ ⟨hHeld, (by (with_reducible repeat (first | apply Kd.R_alloc | apply Kd.R_drewN | apply Kd.R_drew)); exact Kd.R_mono HO419.out (fun _ hk => ⟨hk.1, ⟨hk.2.2, hk.2.1⟩⟩)), (by (with_reducible repeat (first | apply Kd.R_alloc | apply Kd.R_drewN | apply Kd.R_drew)); exact Kd.R_mono HO422.out (fun _ hk => ⟨hk.1, ⟨hk.2.2, hk.2.1⟩⟩)), (by (with_reducible repeat (first | apply Kd.R_alloc | apply Kd.R_drewN | apply Kd.R_drew)); exact HO430.out), (by (with_reducible repeat (first | apply bN_ | apply bD_ | apply bA_)); exact BK405.out), (by (with_reducible repeat (first | apply bN_ | apply bD_ | apply bA_)); exact BK406.out), (by (with_reducible repeat (first | apply bN_ | apply bD_ | apply bA_)); exact BK407.out), (by (with_reducible repeat (first | apply bN_ | apply bD_ | apply bA_)); exact BK432.out), GW432.out, GE432.out, NB405_432.out, NB432_405.out, NB406_432.out, NB432_406.out, NB407_432.out, NB432_407.out, (by repeat (first | (with_reducible first | exact HB.out | apply lA_ | apply lN_ | apply lD_ | refine lS_ ?_ GE405.out | refine lS_ ?_ GE406.out | refine lS_ ?_ GE407.out | refine lS_ ?_ GE432.out) | exact HB.out))⟩)
       ·skip
        rintro ⟨v412, v415, v418, v421, v425, v429⟩ w54 ⟨hS_, h0_, h1_, h2_, h3_, h4_, h5_, h6_⟩
        have n0_ : Aside0 (Kd.R k45 45 w54 w.heap.size (fun k_ => some k_ ≠ (v421 : Value).ownBlock ∧ some k_ ≠ (v429 : Value).ownBlock ∧ k_ ≠ gb406) v418 y417) := ⟨h0_⟩
        have n1_ : Aside0 (Kd.R k45 45 w54 w.heap.size (fun k_ => some k_ ≠ (v418 : Value).ownBlock ∧ some k_ ≠ (v429 : Value).ownBlock ∧ k_ ≠ gb406) v421 y420) := ⟨h1_⟩
        have n2_ : Aside0 (Kd.R k45 45 w54 w.heap.size (fun k_ => some k_ ≠ (v418 : Value).ownBlock ∧ some k_ ≠ (v421 : Value).ownBlock ∧ k_ ≠ gb406) v429 t428) := ⟨h2_⟩
        have n3_ : Aside0 (w54.heap[gb405]? = some (.cells #[.int .i64 a0_0, .slice A0_1 l0_1.length c0_1] 26 (0, 0))) := ⟨h3_⟩
        have n4_ : Aside0 (w54.heap[gb406]? = some (.cells #[.int .i64 a1_0, .int .i64 a1_1, .int .i64 a1_2, .int .i64 a1_3] 45 (0, 0))) := ⟨h4_⟩
        have n5_ : Aside0 (w54.heap[gb407]? = some (.cells #[.int .i64 0, .slice none 0 0] 26 (0, 0))) := ⟨h5_⟩
        have n6_ : Aside0 (Below w.heap.size w w54) := ⟨h6_⟩
        clear BK405
        clear BK406
        clear BK407
        clear HB
        clear h0_ h1_ h2_ h3_ h4_ h5_ h6_
        have HO419 := n0_
        have HO422 := n1_
        have HO430 := n2_
        have BK405 := n3_
        have BK406 := n4_
        have BK407 := n5_
        have HB := n6_
        clear n0_ n1_ n2_ n3_ n4_ n5_ n6_
        have hHeld : w54.cell? ⟨gb405, 0, none⟩ = some (.int .i64 a0_0) ∧ w54.cell? ⟨gb405, 1, none⟩ = some (.slice A0_1 l0_1.length c0_1) ∧ w54.cell? ⟨gb406, 0, none⟩ = some (.int .i64 a1_0) ∧ w54.cell? ⟨gb406, 1, none⟩ = some (.int .i64 a1_1) ∧ w54.cell? ⟨gb406, 2, none⟩ = some (.int .i64 a1_2) ∧ w54.cell? ⟨gb406, 3, none⟩ = some (.int .i64 a1_3) := hS_
        refine norm_ (a' := ?_) ?_ ?_
        rotate_left
        ·simp only [putAll, Act.put, q1_, q2_, q3_]
         rfl
        refine one_ (i := 14) (N := some 6) #[true, true, true, true, true, true, true, true, true, true, true, true, true, true, true, false, false] rfl rfl (one_of HT_.out (by kernel_rfl)) (by decide) (fun K hK => ?_)
        refine box_step ?hg (N := 6) ?hd (cs := #[.int .i64 0, .slice none 0 0]) (t := 26) ?hr ?_; (case hd => rfl); (case hg => rfl); (case hr => first | (go_simp; done) | (go_simp; rfl))
        intro gb432 hg w55 hbox hb
        have n0_ := Aside0.mk (Kd.R_below (by (with_reducible repeat (first | apply Kd.R_alloc | apply Kd.R_drewN | apply Kd.R_drew)); exact HO419.out) hb)
        have n1_ := Aside0.mk (Kd.R_below (by (with_reducible repeat (first | apply Kd.R_alloc | apply Kd.R_drewN | apply Kd.R_drew)); exact HO422.out) hb)
        have n2_ := Aside0.mk (Kd.R_below (by (with_reducible repeat (first | apply Kd.R_alloc | apply Kd.R_drewN | apply Kd.R_drew)); exact HO430.out) hb)
        have n3_ := Aside0.mk (blk_below (g := gb405) (o := .cells #[.int .i64 a0_0, .slice A0_1 l0_1.length c0_1] 26 (0, 0)) (by (with_reducible repeat (first | apply bN_ | apply bD_ | apply bA_)); exact BK405.out) hb)
        have n4_ := Aside0.mk (blk_below (g := gb406) (o := .cells #[.int .i64 a1_0, .int .i64 a1_1, .int .i64 a1_2, .int .i64 a1_3] 45 (0, 0)) (by (with_reducible repeat (first | apply bN_ | apply bD_ | apply bA_)); exact BK406.out) hb)
        have n5_ := Aside0.mk (blk_below (g := gb407) (o := .cells #[.int .i64 0, .slice none 0 0] 26 (0, 0)) (by (with_reducible repeat (first | apply bN_ | apply bD_ | apply bA_)); exact BK407.out) hb)
        have n6_ := Aside0.mk (below_step (by repeat (first | (with_reducible first | exact HB.out | apply lA_ | apply lN_ | apply lD_ | refine lS_ ?_ GE405.out | refine lS_ ?_ GE406.out | refine lS_ ?_ GE407.out) | exact HB.out)) hb)
        have n7_ := Aside0.mk (hbox)
        have n8_ := Aside0.mk ((by rw [hg]; exact (below_size (by repeat (first | (with_reducible first | exact HB.out | apply lA_ | apply lN_ | apply lD_ | refine lS_ ?_ GE405.out | refine lS_ ?_ GE406.out | refine lS_ ?_ GE407.out) | exact HB.out))) : w.heap.size ≤ gb432))
        have n9_ := Aside0.mk ((by rw [hg]; exact (below_size (by repeat (first | (with_reducible first | exact HB.out | apply lA_ | apply lN_ | apply lD_ | refine lS_ ?_ GE405.out | refine lS_ ?_ GE406.out | refine lS_ ?_ GE407.out) | exact HB.out))) : w.heap.size ≤ gb432))
        have n10_ := Aside0.mk ((by rw [hg]; exact Nat.ne_of_lt (blk_lt (g := gb405) (o := .cells #[.int .i64 a0_0, .slice A0_1 l0_1.length c0_1] 26 (0, 0)) (by (with_reducible repeat (first | apply bN_ | apply bD_ | apply bA_)); exact BK405.out)) : gb405 ≠ gb432))
        have n11_ := Aside0.mk ((by rw [hg]; exact Nat.ne_of_gt (blk_lt (g := gb405) (o := .cells #[.int .i64 a0_0, .slice A0_1 l0_1.length c0_1] 26 (0, 0)) (by (with_reducible repeat (first | apply bN_ | apply bD_ | apply bA_)); exact BK405.out)) : gb432 ≠ gb405))
        have n12_ := Aside0.mk ((by rw [hg]; exact Nat.ne_of_lt (blk_lt (g := gb406) (o := .cells #[.int .i64 a1_0, .int .i64 a1_1, .int .i64 a1_2, .int .i64 a1_3] 45 (0, 0)) (by (with_reducible repeat (first | apply bN_ | apply bD_ | apply bA_)); exact BK406.out)) : gb406 ≠ gb432))
        have n13_ := Aside0.mk ((by rw [hg]; exact Nat.ne_of_gt (blk_lt (g := gb406) (o := .cells #[.int .i64 a1_0, .int .i64 a1_1, .int .i64 a1_2, .int .i64 a1_3] 45 (0, 0)) (by (with_reducible repeat (first | apply bN_ | apply bD_ | apply bA_)); exact BK406.out)) : gb432 ≠ gb406))
        have n14_ := Aside0.mk ((by rw [hg]; exact Nat.ne_of_lt (blk_lt (g := gb407) (o := .cells #[.int .i64 0, .slice none 0 0] 26 (0, 0)) (by (with_reducible repeat (first | apply bN_ | apply bD_ | apply bA_)); exact BK407.out)) : gb407 ≠ gb432))
        have n15_ := Aside0.mk ((by rw [hg]; exact Nat.ne_of_gt (blk_lt (g := gb407) (o := .cells #[.int .i64 0, .slice none 0 0] 26 (0, 0)) (by (with_reducible repeat (first | apply bN_ | apply bD_ | apply bA_)); exact BK407.out)) : gb432 ≠ gb407))
        clear HO419
        clear HO422
        clear HO430
        clear BK405
        clear BK406
        clear BK407
        clear HB
        have HO419 := n0_
        have HO422 := n1_
        have HO430 := n2_
        have BK405 := n3_
        have BK406 := n4_
        have BK407 := n5_
        have HB := n6_
        have BK432 := n7_
        have GW432 := n8_
        have GE432 := n9_
        have NB405_432 := n10_
        have NB432_405 := n11_
        have NB406_432 := n12_
        have NB432_406 := n13_
        have NB407_432 := n14_
        have NB432_407 := n15_
        clear n0_ n1_ n2_ n3_ n4_ n5_ n6_ n7_ n8_ n9_ n10_ n11_ n12_ n13_ n14_ n15_
        clear hb hbox hg
        refine hK.out _ _ ⟨(blk_cell BK405.out 0).trans rfl, (blk_cell BK405.out 1).trans rfl, (blk_cell BK406.out 0).trans rfl, (blk_cell BK406.out 1).trans rfl, (blk_cell BK406.out 2).trans rfl, (blk_cell BK406.out 3).trans rfl⟩ (fun hHeld => ?_)
        clear hK K
        refine norm_ (a' := ?_) ?_ ?_
        rotate_left
        ·show Act.put _ (some 6) _ = _
         simp only [Act.put, q1_, q2_, q3_, i64_w, i32_w]
         rfl
        exact norm_ (by first | (simp only [putAll, Act.put, q1_, q2_, q3_]; done) | (simp only [putAll, Act.put, q1_, q2_, q3_]; rfl)) (hJ2_5_7_8_9_10_14 (v412, v415, v418, v421, v425, v429, gb432) _ ⟨hHeld, (by (with_reducible repeat (first | apply Kd.R_alloc | apply Kd.R_drewN | apply Kd.R_drew)); exact HO419.out), (by (with_reducible repeat (first | apply Kd.R_alloc | apply Kd.R_drewN | apply Kd.R_drew)); exact HO422.out), (by (with_reducible repeat (first | apply Kd.R_alloc | apply Kd.R_drewN | apply Kd.R_drew)); exact HO430.out), (by (with_reducible repeat (first | apply bN_ | apply bD_ | apply bA_)); exact BK405.out), (by (with_reducible repeat (first | apply bN_ | apply bD_ | apply bA_)); exact BK406.out), (by (with_reducible repeat (first | apply bN_ | apply bD_ | apply bA_)); exact BK407.out), (by (with_reducible repeat (first | apply bN_ | apply bD_ | apply bA_)); exact BK432.out), GW432.out, GE432.out, NB405_432.out, NB432_405.out, NB406_432.out, NB432_406.out, NB407_432.out, NB432_407.out, (by repeat (first | (with_reducible first | exact HB.out | apply lA_ | apply lN_ | apply lD_ | refine lS_ ?_ GE405.out | refine lS_ ?_ GE406.out | refine lS_ ?_ GE407.out | refine lS_ ?_ GE432.out) | exact HB.out))⟩)
      rintro ⟨v412, v415, v418, v421, v425, v429, gb432⟩ w55 ⟨hS_, h0_, h1_, h2_, h3_, h4_, h5_, h6_, h7_, h8_, h9_, h10_, h11_, h12_, h13_, h14_, h15_⟩
      have n0_ : Aside0 (Kd.R k45 45 w55 w.heap.size (fun k_ => some k_ ≠ (v421 : Value).ownBlock ∧ some k_ ≠ (v429 : Value).ownBlock ∧ k_ ≠ gb406) v418 y417) := ⟨h0_⟩
      have n1_ : Aside0 (Kd.R k45 45 w55 w.heap.size (fun k_ => some k_ ≠ (v418 : Value).ownBlock ∧ some k_ ≠ (v429 : Value).ownBlock ∧ k_ ≠ gb406) v421 y420) := ⟨h1_⟩
      have n2_ : Aside0 (Kd.R k45 45 w55 w.heap.size (fun k_ => some k_ ≠ (v418 : Value).ownBlock ∧ some k_ ≠ (v421 : Value).ownBlock ∧ k_ ≠ gb406) v429 t428) := ⟨h2_⟩
      have n3_ : Aside0 (w55.heap[gb405]? = some (.cells #[.int .i64 a0_0, .slice A0_1 l0_1.length c0_1] 26 (0, 0))) := ⟨h3_⟩
      have n4_ : Aside0 (w55.heap[gb406]? = some (.cells #[.int .i64 a1_0, .int .i64 a1_1, .int .i64 a1_2, .int .i64 a1_3] 45 (0, 0))) := ⟨h4_⟩
      have n5_ : Aside0 (w55.heap[gb407]? = some (.cells #[.int .i64 0, .slice none 0 0] 26 (0, 0))) := ⟨h5_⟩
      have n6_ : Aside0 (w55.heap[gb432]? = some (.cells #[.int .i64 0, .slice none 0 0] 26 (0, 0))) := ⟨h6_⟩
      have n7_ : Aside0 (w.heap.size ≤ gb432) := ⟨h7_⟩
      have n8_ : Aside0 (w.heap.size ≤ gb432) := ⟨h8_⟩
      have n9_ : Aside0 (gb405 ≠ gb432) := ⟨h9_⟩
      have n10_ : Aside0 (gb432 ≠ gb405) := ⟨h10_⟩
      have n11_ : Aside0 (gb406 ≠ gb432) := ⟨h11_⟩
      have n12_ : Aside0 (gb432 ≠ gb406) := ⟨h12_⟩
      have n13_ : Aside0 (gb407 ≠ gb432) := ⟨h13_⟩
      have n14_ : Aside0 (gb432 ≠ gb407) := ⟨h14_⟩
      have n15_ : Aside0 (Below w.heap.size w w55) := ⟨h15_⟩
      clear BK405
      clear BK406
      clear BK407
      clear HB
      clear h0_ h1_ h2_ h3_ h4_ h5_ h6_ h7_ h8_ h9_ h10_ h11_ h12_ h13_ h14_ h15_
      have HO419 := n0_
      have HO422 := n1_
      have HO430 := n2_
      have BK405 := n3_
      have BK406 := n4_
      have BK407 := n5_
      have BK432 := n6_
      have GW432 := n7_
      have GE432 := n8_
      have NB405_432 := n9_
      have NB432_405 := n10_
      have NB406_432 := n11_
      have NB432_406 := n12_
      have NB407_432 := n13_
      have NB432_407 := n14_
      have HB := n15_
      clear n0_ n1_ n2_ n3_ n4_ n5_ n6_ n7_ n8_ n9_ n10_ n11_ n12_ n13_ n14_ n15_
      have hHeld : w55.cell? ⟨gb405, 0, none⟩ = some (.int .i64 a0_0) ∧ w55.cell? ⟨gb405, 1, none⟩ = some (.slice A0_1 l0_1.length c0_1) ∧ w55.cell? ⟨gb406, 0, none⟩ = some (.int .i64 a1_0) ∧ w55.cell? ⟨gb406, 1, none⟩ = some (.int .i64 a1_1) ∧ w55.cell? ⟨gb406, 2, none⟩ = some (.int .i64 a1_2) ∧ w55.cell? ⟨gb406, 3, none⟩ = some (.int .i64 a1_3) := hS_
      obtain ⟨Ao57, co57, eo57⟩ := Kd.R_slice HO430.out
      (first | subst eo57 | (injection eo57 with f1_ f2_ f3_; have f4_ := f1_.symm; have f5_ := f3_.symm; clear f1_ f2_ f3_; subst f4_; subst f5_))
      refine norm_ (a' := ?_) ?_ ?_
      rotate_left
      ·simp only [putAll, Act.put, q1_, q2_, q3_]
       rfl
      refine one_ (i := 15) (N := none) #[true, true, true, true, true, true, true, true, true, true, true, true, true, true, true, true, false] rfl rfl (one_of HT_.out (by kernel_rfl)) (by decide) (fun K hK => ?_)
      have hs56 : w55.cell? ⟨gb432, 0, none⟩ = some (.int .i64 0) := (blk_cell BK432.out 0).trans rfl
      have hfs56 := blk_frozen BK432.out 0
      have hns56_0 := NB405_432.out
      have hns56_1 := NB406_432.out
      have hns56_2 := NB407_432.out
      have hms56_0 := NB432_405.out
      have hms56_1 := NB432_406.out
      have hms56_2 := NB432_407.out
      have hs58 : w55.cell? ⟨gb432, 1, none⟩ = some (.slice none 0 0) := (blk_cell BK432.out 1).trans rfl
      have hfs58 := blk_frozen BK432.out 1
      have hns58_0 := NB405_432.out
      have hns58_1 := NB406_432.out
      have hns58_2 := NB407_432.out
      have hms58_0 := NB432_405.out
      have hms58_1 := NB432_406.out
      have hms58_2 := NB432_407.out
      refine skip_ (w1 := ?_) (by rfl) rfl ?_ ?_
      rotate_left
      ·go_simp
       rfl
      refine hK.out _ _ ⟨((cell_far (p := ⟨gb432, _, none⟩) NB405_432.out _).trans (((cell_far (p := ⟨gb432, _, none⟩) NB405_432.out _).trans (hHeld.1)))), ((cell_far (p := ⟨gb432, _, none⟩) NB405_432.out _).trans (((cell_far (p := ⟨gb432, _, none⟩) NB405_432.out _).trans (hHeld.2.1)))), ((cell_far (p := ⟨gb432, _, none⟩) NB406_432.out _).trans (((cell_far (p := ⟨gb432, _, none⟩) NB406_432.out _).trans (hHeld.2.2.1)))), ((cell_far (p := ⟨gb432, _, none⟩) NB406_432.out _).trans (((cell_far (p := ⟨gb432, _, none⟩) NB406_432.out _).trans (hHeld.2.2.2.1)))), ((cell_far (p := ⟨gb432, _, none⟩) NB406_432.out _).trans (((cell_far (p := ⟨gb432, _, none⟩) NB406_432.out _).trans (hHeld.2.2.2.2.1)))), ((cell_far (p := ⟨gb432, _, none⟩) NB406_432.out _).trans (((cell_far (p := ⟨gb432, _, none⟩) NB406_432.out _).trans (hHeld.2.2.2.2.2))))⟩ (fun hHeld => ?_)
      clear hK K
      refine pure_ (i := 16) (N := some 7) (v := ?_) (a' := ?_) #[true, true, true, true, true, true, true, true, true, true, true, true, true, true, true, true, true] rfl rfl (any_of HT_.out (by kernel_rfl)) (fun _ _ _ h => h) (Or.inl ⟨by rfl, ?_⟩) ?_ ?_
      rotate_left
      ·intro w'
       go_simp
       with_reducible rfl
      rotate_left
      ·simp only [Act.put, q1_, q2_, q3_, i64_w, i32_w]
       rfl
      refine done_ (done_of HT_.out (by kernel_rfl)) ?_
      have hnb59 := NB432_405.out
      have hnc59 := NB405_432.out
      have hnb60 := NB432_406.out
      have hnc60 := NB406_432.out
      have hnb61 := NB432_407.out
      have hnc61 := NB407_432.out
      have hcz62_0 : w55.cell? ⟨gb432, 0, none⟩ = some (.int .i64 0) := (blk_cell BK432.out 0).trans rfl
      have hcz62_1 : w55.cell? ⟨gb432, 1, none⟩ = some (.slice none 0 0) := (blk_cell BK432.out 1).trans rfl
      have hfz62_0 := blk_frozen BK432.out 0
      have hfz62_1 := blk_frozen BK432.out 1
      have hcz63_0 : w55.cell? ⟨gb407, 0, none⟩ = some (.int .i64 0) := (blk_cell BK407.out 0).trans rfl
      have hcz63_1 : w55.cell? ⟨gb407, 1, none⟩ = some (.slice none 0 0) := (blk_cell BK407.out 1).trans rfl
      have hfz63_0 := blk_frozen BK407.out 0
      have hfz63_1 := blk_frozen BK407.out 1
      try go_wp2
      refine bodyPost_ret (results_ct rfl _ _ gb407 26 #[.int .i64 t427, .slice Ao57 t428.length co57] (0, 0) _ rfl (by (with_reducible repeat (first | apply bN_ | apply bD_ | apply bA_)); refine blk_put (cs := #[.int .i64 t427, .slice none 0 0]) ?_ 1 _ rfl; (with_reducible repeat (first | apply bN_ | apply bD_ | apply bA_)); refine blk_put (cs := #[.int .i64 0, .slice none 0 0]) ?_ 0 _ rfl; (with_reducible repeat (first | apply bN_ | apply bD_ | apply bA_)); refine blk_far ?_ NB407_432.out _; (with_reducible repeat (first | apply bN_ | apply bD_ | apply bA_)); refine blk_far ?_ NB407_432.out _; (with_reducible repeat (first | apply bN_ | apply bD_ | apply bA_)); exact BK407.out) Try.underlying26 rfl (by kernel_rfl)) rfl ?_
      exact ⟨_, by first | rfl | (simp [errW_none, errW_some] <;> rfl) | (simp [*, errW_none, errW_some] <;> rfl), by (with_reducible repeat (first | apply Kd.R_alloc | apply Kd.R_drewN | apply Kd.R_drew)); exact Kd.R_mono (Kd.R_far (p := ⟨gb407, 1, none⟩) (Kd.R_far (p := ⟨gb407, 0, none⟩) (Kd.R_far (p := ⟨gb432, 1, none⟩) (Kd.R_far (p := ⟨gb432, 0, none⟩) (Kd.R_types (Kd.R_types HO430.out BK432.out (by decide)) BK407.out (by decide)) (fun _ hk => hk.1.2) (.int .i64 t427)) (fun _ hk => hk.1.2) (.slice Ao57 t428.length co57)) (fun _ hk => hk.2) (.int .i64 t427)) (fun _ hk => hk.2) (.slice Ao57 t428.length co57)) (fun _ hk => trivial), by repeat (first | (with_reducible first | exact HB.out | apply lA_ | apply lN_ | apply lD_ | refine lS_ ?_ GE405.out | refine lS_ ?_ GE406.out | refine lS_ ?_ GE407.out | refine lS_ ?_ GE432.out) | exact HB.out)⟩
     ·rw [if_neg c25] at H
      exact absurd H (by simp)
    ·rw [if_neg c24] at H
     exact absurd H (by simp)
  ·replace c6 := Bool.eq_false_iff.mpr c6
   subst c6
   have H1 : (some (0, ([] : List (S45)), 2)) = some (r1, r2, r3) := by rw [if_neg (show ¬ (false = true) by decide)] at H; exact H
   clear H
   have H := H1
   clear H1
   simp only [Option.some.injEq, Prod.mk.injEq] at H
   obtain ⟨rfl, rfl, rfl⟩ := H
   go_enter Try.func36, Try.ntmps36
   go_wp2_with (first | ((with_reducible refine gate_dst (N := 2) rfl ?_); refine box_event ?hg (N := 2) ?hd (cs := #[.int .i64 a0_0, .slice A0_1 l0_1.length c0_1]) (t := 26) ?hr ?_; (case hd => rfl); (case hg => rfl); (case hr => first | (go_simp; done) | (go_simp; rfl)); intro gb405 hg w64 hbox hb; have n0_ := Aside0.mk (below_step (by repeat (first | (with_reducible first | exact HB.out | apply lA_ | apply lN_ | apply lD_) | exact HB.out)) hb); have n1_ := Aside0.mk (hbox); have n2_ := Aside0.mk ((by rw [hg]; exact (below_size (by repeat (first | (with_reducible first | exact HB.out | apply lA_ | apply lN_ | apply lD_) | exact HB.out))) : w.heap.size ≤ gb405)); have n3_ := Aside0.mk ((by rw [hg]; exact (below_size (by repeat (first | (with_reducible first | exact HB.out | apply lA_ | apply lN_ | apply lD_) | exact HB.out))) : w.heap.size ≤ gb405)); clear HB; have HB := n0_; have BK405 := n1_; have GW405 := n2_; have GE405 := n3_; clear n0_ n1_ n2_ n3_; clear hb hbox hg) | ((with_reducible refine gate_dst (N := 3) rfl ?_); refine box_event ?hg (N := 3) ?hd (cs := #[.int .i64 a1_0, .int .i64 a1_1, .int .i64 a1_2, .int .i64 a1_3]) (t := 45) ?hr ?_; (case hd => rfl); (case hg => rfl); (case hr => first | (go_simp; done) | (go_simp; rfl)); intro gb406 hg w65 hbox hb; have n0_ := Aside0.mk (blk_below (g := gb405) (o := .cells #[.int .i64 a0_0, .slice A0_1 l0_1.length c0_1] 26 (0, 0)) (by (with_reducible repeat (first | apply bN_ | apply bD_ | apply bA_)); exact BK405.out) hb); have n1_ := Aside0.mk (below_step (by repeat (first | (with_reducible first | exact HB.out | apply lA_ | apply lN_ | apply lD_ | refine lS_ ?_ GE405.out) | exact HB.out)) hb); have n2_ := Aside0.mk (hbox); have n3_ := Aside0.mk ((by rw [hg]; exact (below_size (by repeat (first | (with_reducible first | exact HB.out | apply lA_ | apply lN_ | apply lD_ | refine lS_ ?_ GE405.out) | exact HB.out))) : w.heap.size ≤ gb406)); have n4_ := Aside0.mk ((by rw [hg]; exact (below_size (by repeat (first | (with_reducible first | exact HB.out | apply lA_ | apply lN_ | apply lD_ | refine lS_ ?_ GE405.out) | exact HB.out))) : w.heap.size ≤ gb406)); have n5_ := Aside0.mk ((by rw [hg]; exact Nat.ne_of_lt (blk_lt (g := gb405) (o := .cells #[.int .i64 a0_0, .slice A0_1 l0_1.length c0_1] 26 (0, 0)) (by (with_reducible repeat (first | apply bN_ | apply bD_ | apply bA_)); exact BK405.out)) : gb405 ≠ gb406)); have n6_ := Aside0.mk ((by rw [hg]; exact Nat.ne_of_gt (blk_lt (g := gb405) (o := .cells #[.int .i64 a0_0, .slice A0_1 l0_1.length c0_1] 26 (0, 0)) (by (with_reducible repeat (first | apply bN_ | apply bD_ | apply bA_)); exact BK405.out)) : gb406 ≠ gb405)); clear BK405; clear HB; have BK405 := n0_; have HB := n1_; have BK406 := n2_; have GW406 := n3_; have GE406 := n4_; have NB405_406 := n5_; have NB406_405 := n6_; clear n0_ n1_ n2_ n3_ n4_ n5_ n6_; clear hb hbox hg) | ((with_reducible refine gate_dst (N := 4) rfl ?_); refine box_event ?hg (N := 4) ?hd (cs := #[.int .i64 0, .slice none 0 0]) (t := 26) ?hr ?_; (case hd => rfl); (case hg => rfl); (case hr => first | (go_simp; done) | (go_simp; rfl)); intro gb407 hg w66 hbox hb; have n0_ := Aside0.mk (blk_below (g := gb405) (o := .cells #[.int .i64 a0_0, .slice A0_1 l0_1.length c0_1] 26 (0, 0)) (by (with_reducible repeat (first | apply bN_ | apply bD_ | apply bA_)); exact BK405.out) hb); have n1_ := Aside0.mk (blk_below (g := gb406) (o := .cells #[.int .i64 a1_0, .int .i64 a1_1, .int .i64 a1_2, .int .i64 a1_3] 45 (0, 0)) (by (with_reducible repeat (first | apply bN_ | apply bD_ | apply bA_)); exact BK406.out) hb); have n2_ := Aside0.mk (below_step (by repeat (first | (with_reducible first | exact HB.out | apply lA_ | apply lN_ | apply lD_ | refine lS_ ?_ GE405.out | refine lS_ ?_ GE406.out) | exact HB.out)) hb); have n3_ := Aside0.mk (hbox); have n4_ := Aside0.mk ((by rw [hg]; exact (below_size (by repeat (first | (with_reducible first | exact HB.out | apply lA_ | apply lN_ | apply lD_ | refine lS_ ?_ GE405.out | refine lS_ ?_ GE406.out) | exact HB.out))) : w.heap.size ≤ gb407)); have n5_ := Aside0.mk ((by rw [hg]; exact (below_size (by repeat (first | (with_reducible first | exact HB.out | apply lA_ | apply lN_ | apply lD_ | refine lS_ ?_ GE405.out | refine lS_ ?_ GE406.out) | exact HB.out))) : w.heap.size ≤ gb407)); have n6_ := Aside0.mk ((by rw [hg]; exact Nat.ne_of_lt (blk_lt (g := gb405) (o := .cells #[.int .i64 a0_0, .slice A0_1 l0_1.length c0_1] 26 (0, 0)) (by (with_reducible repeat (first | apply bN_ | apply bD_ | apply bA_)); exact BK405.out)) : gb405 ≠ gb407)); have n7_ := Aside0.mk ((by rw [hg]; exact Nat.ne_of_gt (blk_lt (g := gb405) (o := .cells #[.int .i64 a0_0, .slice A0_1 l0_1.length c0_1] 26 (0, 0)) (by (with_reducible repeat (first | apply bN_ | apply bD_ | apply bA_)); exact BK405.out)) : gb407 ≠ gb405)); have n8_ := Aside0.mk ((by rw [hg]; exact Nat.ne_of_lt (blk_lt (g := gb406) (o := .cells #[.int .i64 a1_0, .int .i64 a1_1, .int .i64 a1_2, .int .i64 a1_3] 45 (0, 0)) (by (with_reducible repeat (first | apply bN_ | apply bD_ | apply bA_)); exact BK406.out)) : gb406 ≠ gb407)); have n9_ := Aside0.mk ((by rw [hg]; exact Nat.ne_of_gt (blk_lt (g := gb406) (o := .cells #[.int .i64 a1_0, .int .i64 a1_1, .int .i64 a1_2, .int .i64 a1_3] 45 (0, 0)) (by (with_reducible repeat (first | apply bN_ | apply bD_ | apply bA_)); exact BK406.out)) : gb407 ≠ gb406)); clear BK405; clear BK406; clear HB; have BK405 := n0_; have BK406 := n1_; have HB := n2_; have BK407 := n3_; have GW407 := n4_; have GE407 := n5_; have NB405_407 := n6_; have NB407_405 := n7_; have NB406_407 := n8_; have NB407_406 := n9_; clear n0_ n1_ n2_ n3_ n4_ n5_ n6_ n7_ n8_ n9_; clear hb hbox hg; have hnb67 := NB405_406.out; have hnc67 := NB406_405.out; have hnb68 := NB405_407.out; have hnc68 := NB407_405.out; have hcz69_0 : w66.cell? ⟨gb405, 0, none⟩ = some (.int .i64 a0_0) := (blk_cell BK405.out 0).trans rfl; have hcz69_1 : w66.cell? ⟨gb405, 1, none⟩ = some (.slice A0_1 l0_1.length c0_1) := (blk_cell BK405.out 1).trans rfl; have hfz69_0 := blk_frozen BK405.out 0; have hfz69_1 := blk_frozen BK405.out 1) | ((with_reducible refine gate_callee (f := 60) rfl ?_); refine goesL_ (some 10) rfl rfl Try.func60 (by kernel_rfl) rfl #[.agg #[.int .i64 a0_0, .slice A0_1 l0_1.length c0_1]] rfl (by (try simp only [List.map_toArray, List.map_cons, List.map_nil]); first | done | rfl | (simp only [List.length_drop, List.length_take]; rfl)) ?_; (with_reducible refine (spec_l01Is.calls a0_0 _ _ l0_1 true _ ?side1 ?side2 A3.out).mono ?_); (case side1 => repeat (first | exact (Kd.C_below HR0_1.out HB.out) | (with_reducible refine Kd.C_alloc ?_ _) | (with_reducible refine Kd.C_drewN ?_ _) | (with_reducible refine Kd.C_drew ?_))); (case side2 => exact HC0_1.out); rintro e w70 ⟨rfl, hb⟩; refine ⟨_, rfl, ?_⟩; have n0_ := Aside0.mk (blk_below (g := gb405) (o := .cells #[.int .i64 a0_0, .slice A0_1 l0_1.length c0_1] 26 (0, 0)) (by (with_reducible repeat (first | apply bN_ | apply bD_ | apply bA_)); exact BK405.out) hb); have n1_ := Aside0.mk (blk_below (g := gb406) (o := .cells #[.int .i64 a1_0, .int .i64 a1_1, .int .i64 a1_2, .int .i64 a1_3] 45 (0, 0)) (by (with_reducible repeat (first | apply bN_ | apply bD_ | apply bA_)); exact BK406.out) hb); have n2_ := Aside0.mk (blk_below (g := gb407) (o := .cells #[.int .i64 0, .slice none 0 0] 26 (0, 0)) (by (with_reducible repeat (first | apply bN_ | apply bD_ | apply bA_)); exact BK407.out) hb); have n3_ := Aside0.mk (below_step (by repeat (first | (with_reducible first | exact HB.out | apply lA_ | apply lN_ | apply lD_ | refine lS_ ?_ GE405.out | refine lS_ ?_ GE406.out | refine lS_ ?_ GE407.out) | exact HB.out)) hb); clear BK405; clear BK406; clear BK407; clear HB; have BK405 := n0_; have BK406 := n1_; have BK407 := n2_; have HB := n3_; clear n0_ n1_ n2_ n3_; (try clear hb); (try clear hb2); (try clear hk); (try clear hi); have hcz71_0 : w70.cell? ⟨gb405, 0, none⟩ = some (.int .i64 a0_0) := (blk_cell BK405.out 0).trans rfl; have hcz71_1 : w70.cell? ⟨gb405, 1, none⟩ = some (.slice A0_1 l0_1.length c0_1) := (blk_cell BK405.out 1).trans rfl; have hfz71_0 := blk_frozen BK405.out 0; have hfz71_1 := blk_frozen BK405.out 1; have hnb72 := NB406_407.out; have hnc72 := NB407_406.out; have hcz73_0 : w70.cell? ⟨gb406, 0, none⟩ = some (.int .i64 a1_0) := (blk_cell BK406.out 0).trans rfl; have hcz73_1 : w70.cell? ⟨gb406, 1, none⟩ = some (.int .i64 a1_1) := (blk_cell BK406.out 1).trans rfl; have hcz73_2 : w70.cell? ⟨gb406, 2, none⟩ = some (.int .i64 a1_2) := (blk_cell BK406.out 2).trans rfl; have hcz73_3 : w70.cell? ⟨gb406, 3, none⟩ = some (.int .i64 a1_3) := (blk_cell BK406.out 3).trans rfl; have hfz73_0 := blk_frozen BK406.out 0; have hfz73_1 := blk_frozen BK406.out 1; have hfz73_2 := blk_frozen BK406.out 2; have hfz73_3 := blk_frozen BK406.out 3) | ((with_reducible refine gate_callee (f := 50) rfl ?_); refine goesL_ (some 17) rfl rfl Try.func50 (by kernel_rfl) rfl #[.int .i64 a0_0, .agg #[.int .i64 a1_0, .int .i64 a1_1, .int .i64 a1_2, .int .i64 a1_3]] rfl (by (try simp only [List.map_toArray, List.map_cons, List.map_nil]); first | done | rfl | (simp only [List.length_drop, List.length_take]; rfl)) ?_; (with_reducible refine (spec_l01Tile.calls a0_0 a1_0 a1_1 a1_2 a1_3 false _ A5.out).mono ?_); rintro e w74 ⟨rfl, hb⟩; refine ⟨_, rfl, ?_⟩; have n0_ := Aside0.mk (blk_below (g := gb405) (o := .cells #[.int .i64 a0_0, .slice A0_1 l0_1.length c0_1] 26 (0, 0)) (by (with_reducible repeat (first | apply bN_ | apply bD_ | apply bA_)); exact BK405.out) hb); have n1_ := Aside0.mk (blk_below (g := gb406) (o := .cells #[.int .i64 a1_0, .int .i64 a1_1, .int .i64 a1_2, .int .i64 a1_3] 45 (0, 0)) (by (with_reducible repeat (first | apply bN_ | apply bD_ | apply bA_)); exact BK406.out) hb); have n2_ := Aside0.mk (blk_below (g := gb407) (o := .cells #[.int .i64 0, .slice none 0 0] 26 (0, 0)) (by (with_reducible repeat (first | apply bN_ | apply bD_ | apply bA_)); exact BK407.out) hb); have n3_ := Aside0.mk (below_step (by repeat (first | (with_reducible first | exact HB.out | apply lA_ | apply lN_ | apply lD_ | refine lS_ ?_ GE405.out | refine lS_ ?_ GE406.out | refine lS_ ?_ GE407.out) | exact HB.out)) hb); clear BK405; clear BK406; clear BK407; clear HB; have BK405 := n0_; have BK406 := n1_; have BK407 := n2_; have HB := n3_; clear n0_ n1_ n2_ n3_; (try clear hb); (try clear hb2); (try clear hk); (try clear hi); have hcz75_0 : w74.cell? ⟨gb407, 0, none⟩ = some (.int .i64 0) := (blk_cell BK407.out 0).trans rfl; have hcz75_1 : w74.cell? ⟨gb407, 1, none⟩ = some (.slice none 0 0) := (blk_cell BK407.out 1).trans rfl; have hfz75_0 := blk_frozen BK407.out 0; have hfz75_1 := blk_frozen BK407.out 1))
   refine bodyPost_ret (results_ct rfl _ _ gb407 26 #[.int .i64 0, .slice none 0 0] (0, 0) _ rfl (by (with_reducible repeat (first | apply bN_ | apply bD_ | apply bA_)); refine blk_put (cs := #[.int .i64 0, .slice none 0 0]) ?_ 1 _ rfl; (with_reducible repeat (first | apply bN_ | apply bD_ | apply bA_)); refine blk_put (cs := #[.int .i64 0, .slice none 0 0]) ?_ 0 _ rfl; (with_reducible repeat (first | apply bN_ | apply bD_ | apply bA_)); exact BK407.out) Try.underlying26 rfl (by kernel_rfl)) rfl ?_
   exact ⟨_, by first | rfl | (simp [errW_none, errW_some] <;> rfl) | (simp [*, errW_none, errW_some] <;> rfl), by first | exact Kd.R_nil _ _ _ _ _ | exact Kd.N_nil _ _ _ _ _ | exact Kd.V_nil _ _ _ _ _ | exact Kd.Q_nil _ _ _ _ _ | exact Kd.S_nil _ _ _ _ _, by repeat (first | (with_reducible first | exact HB.out | apply lA_ | apply lN_ | apply lD_ | refine lS_ ?_ GE405.out | refine lS_ ?_ GE406.out | refine lS_ ?_ GE407.out) | exact HB.out)⟩
 ·replace c4 := Bool.eq_false_iff.mpr c4
  subst c4
  have H1 : (some (0, ([] : List (S45)), 1)) = some (r1, r2, r3) := by rw [if_neg (show ¬ (false = true) by decide)] at H; exact H
  clear H
  have H := H1
  clear H1
  simp only [Option.some.injEq, Prod.mk.injEq] at H
  obtain ⟨rfl, rfl, rfl⟩ := H
  go_enter Try.func36, Try.ntmps36
  go_wp2_with (first | ((with_reducible refine gate_dst (N := 2) rfl ?_); refine box_event ?hg (N := 2) ?hd (cs := #[.int .i64 a0_0, .slice A0_1 l0_1.length c0_1]) (t := 26) ?hr ?_; (case hd => rfl); (case hg => rfl); (case hr => first | (go_simp; done) | (go_simp; rfl)); intro gb405 hg w76 hbox hb; have n0_ := Aside0.mk (below_step (by repeat (first | (with_reducible first | exact HB.out | apply lA_ | apply lN_ | apply lD_) | exact HB.out)) hb); have n1_ := Aside0.mk (hbox); have n2_ := Aside0.mk ((by rw [hg]; exact (below_size (by repeat (first | (with_reducible first | exact HB.out | apply lA_ | apply lN_ | apply lD_) | exact HB.out))) : w.heap.size ≤ gb405)); have n3_ := Aside0.mk ((by rw [hg]; exact (below_size (by repeat (first | (with_reducible first | exact HB.out | apply lA_ | apply lN_ | apply lD_) | exact HB.out))) : w.heap.size ≤ gb405)); clear HB; have HB := n0_; have BK405 := n1_; have GW405 := n2_; have GE405 := n3_; clear n0_ n1_ n2_ n3_; clear hb hbox hg) | ((with_reducible refine gate_dst (N := 3) rfl ?_); refine box_event ?hg (N := 3) ?hd (cs := #[.int .i64 a1_0, .int .i64 a1_1, .int .i64 a1_2, .int .i64 a1_3]) (t := 45) ?hr ?_; (case hd => rfl); (case hg => rfl); (case hr => first | (go_simp; done) | (go_simp; rfl)); intro gb406 hg w77 hbox hb; have n0_ := Aside0.mk (blk_below (g := gb405) (o := .cells #[.int .i64 a0_0, .slice A0_1 l0_1.length c0_1] 26 (0, 0)) (by (with_reducible repeat (first | apply bN_ | apply bD_ | apply bA_)); exact BK405.out) hb); have n1_ := Aside0.mk (below_step (by repeat (first | (with_reducible first | exact HB.out | apply lA_ | apply lN_ | apply lD_ | refine lS_ ?_ GE405.out) | exact HB.out)) hb); have n2_ := Aside0.mk (hbox); have n3_ := Aside0.mk ((by rw [hg]; exact (below_size (by repeat (first | (with_reducible first | exact HB.out | apply lA_ | apply lN_ | apply lD_ | refine lS_ ?_ GE405.out) | exact HB.out))) : w.heap.size ≤ gb406)); have n4_ := Aside0.mk ((by rw [hg]; exact (below_size (by repeat (first | (with_reducible first | exact HB.out | apply lA_ | apply lN_ | apply lD_ | refine lS_ ?_ GE405.out) | exact HB.out))) : w.heap.size ≤ gb406)); have n5_ := Aside0.mk ((by rw [hg]; exact Nat.ne_of_lt (blk_lt (g := gb405) (o := .cells #[.int .i64 a0_0, .slice A0_1 l0_1.length c0_1] 26 (0, 0)) (by (with_reducible repeat (first | apply bN_ | apply bD_ | apply bA_)); exact BK405.out)) : gb405 ≠ gb406)); have n6_ := Aside0.mk ((by rw [hg]; exact Nat.ne_of_gt (blk_lt (g := gb405) (o := .cells #[.int .i64 a0_0, .slice A0_1 l0_1.length c0_1] 26 (0, 0)) (by (with_reducible repeat (first | apply bN_ | apply bD_ | apply bA_)); exact BK405.out)) : gb406 ≠ gb405)); clear BK405; clear HB; have BK405 := n0_; have HB := n1_; have BK406 := n2_; have GW406 := n3_; have GE406 := n4_; have NB405_406 := n5_; have NB406_405 := n6_; clear n0_ n1_ n2_ n3_ n4_ n5_ n6_; clear hb hbox hg) | ((with_reducible refine gate_dst (N := 4) rfl ?_); refine box_event ?hg (N := 4) ?hd (cs := #[.int .i64 0, .slice none 0 0]) (t := 26) ?hr ?_; (case hd => rfl); (case hg => rfl); (case hr => first | (go_simp; done) | (go_simp; rfl)); intro gb407 hg w78 hbox hb; have n0_ := Aside0.mk (blk_below (g := gb405) (o := .cells #[.int .i64 a0_0, .slice A0_1 l0_1.length c0_1] 26 (0, 0)) (by (with_reducible repeat (first | apply bN_ | apply bD_ | apply bA_)); exact BK405.out) hb); have n1_ := Aside0.mk (blk_below (g := gb406) (o := .cells #[.int .i64 a1_0, .int .i64 a1_1, .int .i64 a1_2, .int .i64 a1_3] 45 (0, 0)) (by (with_reducible repeat (first | apply bN_ | apply bD_ | apply bA_)); exact BK406.out) hb); have n2_ := Aside0.mk (below_step (by repeat (first | (with_reducible first | exact HB.out | apply lA_ | apply lN_ | apply lD_ | refine lS_ ?_ GE405.out | refine lS_ ?_ GE406.out) | exact HB.out)) hb); have n3_ := Aside0.mk (hbox); have n4_ := Aside0.mk ((by rw [hg]; exact (below_size (by repeat (first | (with_reducible first | exact HB.out | apply lA_ | apply lN_ | apply lD_ | refine lS_ ?_ GE405.out | refine lS_ ?_ GE406.out) | exact HB.out))) : w.heap.size ≤ gb407)); have n5_ := Aside0.mk ((by rw [hg]; exact (below_size (by repeat (first | (with_reducible first | exact HB.out | apply lA_ | apply lN_ | apply lD_ | refine lS_ ?_ GE405.out | refine lS_ ?_ GE406.out) | exact HB.out))) : w.heap.size ≤ gb407)); have n6_ := Aside0.mk ((by rw [hg]; exact Nat.ne_of_lt (blk_lt (g := gb405) (o := .cells #[.int .i64 a0_0, .slice A0_1 l0_1.length c0_1] 26 (0, 0)) (by (with_reducible repeat (first | apply bN_ | apply bD_ | apply bA_)); exact BK405.out)) : gb405 ≠ gb407)); have n7_ := Aside0.mk ((by rw [hg]; exact Nat.ne_of_gt (blk_lt (g := gb405) (o := .cells #[.int .i64 a0_0, .slice A0_1 l0_1.length c0_1] 26 (0, 0)) (by (with_reducible repeat (first | apply bN_ | apply bD_ | apply bA_)); exact BK405.out)) : gb407 ≠ gb405)); have n8_ := Aside0.mk ((by rw [hg]; exact Nat.ne_of_lt (blk_lt (g := gb406) (o := .cells #[.int .i64 a1_0, .int .i64 a1_1, .int .i64 a1_2, .int .i64 a1_3] 45 (0, 0)) (by (with_reducible repeat (first | apply bN_ | apply bD_ | apply bA_)); exact BK406.out)) : gb406 ≠ gb407)); have n9_ := Aside0.mk ((by rw [hg]; exact Nat.ne_of_gt (blk_lt (g := gb406) (o := .cells #[.int .i64 a1_0, .int .i64 a1_1, .int .i64 a1_2, .int .i64 a1_3] 45 (0, 0)) (by (with_reducible repeat (first | apply bN_ | apply bD_ | apply bA_)); exact BK406.out)) : gb407 ≠ gb406)); clear BK405; clear BK406; clear HB; have BK405 := n0_; have BK406 := n1_; have HB := n2_; have BK407 := n3_; have GW407 := n4_; have GE407 := n5_; have NB405_407 := n6_; have NB407_405 := n7_; have NB406_407 := n8_; have NB407_406 := n9_; clear n0_ n1_ n2_ n3_ n4_ n5_ n6_ n7_ n8_ n9_; clear hb hbox hg; have hnb79 := NB405_406.out; have hnc79 := NB406_405.out; have hnb80 := NB405_407.out; have hnc80 := NB407_405.out; have hcz81_0 : w78.cell? ⟨gb405, 0, none⟩ = some (.int .i64 a0_0) := (blk_cell BK405.out 0).trans rfl; have hcz81_1 : w78.cell? ⟨gb405, 1, none⟩ = some (.slice A0_1 l0_1.length c0_1) := (blk_cell BK405.out 1).trans rfl; have hfz81_0 := blk_frozen BK405.out 0; have hfz81_1 := blk_frozen BK405.out 1) | ((with_reducible refine gate_callee (f := 60) rfl ?_); refine goesL_ (some 10) rfl rfl Try.func60 (by kernel_rfl) rfl #[.agg #[.int .i64 a0_0, .slice A0_1 l0_1.length c0_1]] rfl (by (try simp only [List.map_toArray, List.map_cons, List.map_nil]); first | done | rfl | (simp only [List.length_drop, List.length_take]; rfl)) ?_; (with_reducible refine (spec_l01Is.calls a0_0 _ _ l0_1 false _ ?side1 ?side2 A3.out).mono ?_); (case side1 => repeat (first | exact (Kd.C_below HR0_1.out HB.out) | (with_reducible refine Kd.C_alloc ?_ _) | (with_reducible refine Kd.C_drewN ?_ _) | (with_reducible refine Kd.C_drew ?_))); (case side2 => exact HC0_1.out); rintro e w82 ⟨rfl, hb⟩; refine ⟨_, rfl, ?_⟩; have n0_ := Aside0.mk (blk_below (g := gb405) (o := .cells #[.int .i64 a0_0, .slice A0_1 l0_1.length c0_1] 26 (0, 0)) (by (with_reducible repeat (first | apply bN_ | apply bD_ | apply bA_)); exact BK405.out) hb); have n1_ := Aside0.mk (blk_below (g := gb406) (o := .cells #[.int .i64 a1_0, .int .i64 a1_1, .int .i64 a1_2, .int .i64 a1_3] 45 (0, 0)) (by (with_reducible repeat (first | apply bN_ | apply bD_ | apply bA_)); exact BK406.out) hb); have n2_ := Aside0.mk (blk_below (g := gb407) (o := .cells #[.int .i64 0, .slice none 0 0] 26 (0, 0)) (by (with_reducible repeat (first | apply bN_ | apply bD_ | apply bA_)); exact BK407.out) hb); have n3_ := Aside0.mk (below_step (by repeat (first | (with_reducible first | exact HB.out | apply lA_ | apply lN_ | apply lD_ | refine lS_ ?_ GE405.out | refine lS_ ?_ GE406.out | refine lS_ ?_ GE407.out) | exact HB.out)) hb); clear BK405; clear BK406; clear BK407; clear HB; have BK405 := n0_; have BK406 := n1_; have BK407 := n2_; have HB := n3_; clear n0_ n1_ n2_ n3_; (try clear hb); (try clear hb2); (try clear hk); (try clear hi); have hnb83 := NB407_406.out; have hnc83 := NB406_407.out; have hcz84_0 : w82.cell? ⟨gb407, 0, none⟩ = some (.int .i64 0) := (blk_cell BK407.out 0).trans rfl; have hcz84_1 : w82.cell? ⟨gb407, 1, none⟩ = some (.slice none 0 0) := (blk_cell BK407.out 1).trans rfl; have hfz84_0 := blk_frozen BK407.out 0; have hfz84_1 := blk_frozen BK407.out 1))
  refine bodyPost_ret (results_ct rfl _ _ gb407 26 #[.int .i64 0, .slice none 0 0] (0, 0) _ rfl (by (with_reducible repeat (first | apply bN_ | apply bD_ | apply bA_)); refine blk_put (cs := #[.int .i64 0, .slice none 0 0]) ?_ 1 _ rfl; (with_reducible repeat (first | apply bN_ | apply bD_ | apply bA_)); refine blk_put (cs := #[.int .i64 0, .slice none 0 0]) ?_ 0 _ rfl; (with_reducible repeat (first | apply bN_ | apply bD_ | apply bA_)); exact BK407.out) Try.underlying26 rfl (by kernel_rfl)) rfl ?_
  exact ⟨_, by first | rfl | (simp [errW_none, errW_some] <;> rfl) | (simp [*, errW_none, errW_some] <;> rfl), by first | exact Kd.R_nil _ _ _ _ _ | exact Kd.N_nil _ _ _ _ _ | exact Kd.V_nil _ _ _ _ _ | exact Kd.Q_nil _ _ _ _ _ | exact Kd.S_nil _ _ _ _ _, by repeat (first | (with_reducible first | exact HB.out | apply lA_ | apply lN_ | apply lD_ | refine lS_ ?_ GE405.out | refine lS_ ?_ GE406.out | refine lS_ ?_ GE407.out) | exact HB.out)⟩

end Go.Proofs.Ytnjmgmdpkogocaa.Q

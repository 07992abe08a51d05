/-
  Parts of the proof, in their order: QImplSetLeftAtImplSetSouths1, R0, RE0, RImplPair122, RImplPair117, QImplSouthWords1.
-/
import Derived.Test.YtenlcakpcbmmdaaPk7
import Derived.Test.YtenlcakpcbmmdaaPk8
import Derived.Test.YtenlcakpcbmmdaaProg
import Derived.Below
import Derived.Deep.Draws
import Derived.Deep.AppendLies
import Derived.Maps.AppendAt
import Derived.OwnWalk
import Derived.Laws.BytesArg
import Derived.Laws.MakeOwn
import Derived.Laws.OwnMore
import Derived.Deep.OwnRows
import Derived.Tactics
import Derived.Lib.ConvBytes
import Derived.Laws.Slices
import Derived.WalkKit
import Derived.KernelRfl
import Derived.RowKit3
import Derived.Deep.LoopGhost
import Derived.Deep.QuietTactic
import Derived.BigQuiet
import Derived.WideLaws
import Derived.Deep.DeepCutAuto
import Derived.Deep.CutBlock
import Derived.Deep.RegionHeld3
import Derived.Laws.Rows
import Derived.Lib.AppendStr
import Derived.ArgAppend
import Derived.Laws.IdiomCopy
import Derived.OrdersHeld
import Derived.Laws.BitsLemmas
import Derived.RowKit
import Derived.Test.YtenlcakpcbmmdaaWWords
import Derived.Test.YtenlcakpcbmmdaaWLast
import Derived.Test.YtenlcakpcbmmdaaWTab
import Derived.Test.YtenlcakpcbmmdaaWFour
import Derived.Test.YtenlcakpcbmmdaaWQPut
import Derived.Test.YtenlcakpcbmmdaaWApart
import Derived.Test.YtenlcakpcbmmdaaWArr
import Derived.Test.YtenlcakpcbmmdaaWZeros
import Derived.Test.YtenlcakpcbmmdaaWFoot
import Derived.Test.YtenlcakpcbmmdaaWKept
import Derived.Test.YtenlcakpcbmmdaaWShare
import Derived.Test.YtenlcakpcbmmdaaWN
import Derived.Test.YtenlcakpcbmmdaaWFootNe
import Derived.Test.YtenlcakpcbmmdaaWAt
import Derived.Test.YtenlcakpcbmmdaaWEqStruct
import Derived.Test.YtenlcakpcbmmdaaWRepsOne
import Derived.Test.YtenlcakpcbmmdaaWInv
import Derived.Test.YtenlcakpcbmmdaaWInvWords
import Derived.Test.YtenlcakpcbmmdaaWGuard
import Derived.Test.YtenlcakpcbmmdaaWNEv
import Derived.Test.YtenlcakpcbmmdaaWMore
namespace Go.Proofs.Ytenlcakpcbmmdaa.Q
open Go.RowKit Go.Proofs.YtenlcakpcbmmdaaW.PrintWords Go.Proofs.YtenlcakpcbmmdaaW.PrintLast Go.Proofs.YtenlcakpcbmmdaaW.PrintMore
attribute [local go_sem] max2_int min2_int max_two min_two max_three min_three max_four min_four
set_option linter.unusedVariables false
set_option linter.unusedSimpArgs false
mutual
def impl_Set_left_at_impl_Set_souths_1.l0 : Nat → List Int → List (List Int) → Int → Int → List (S77) → Bool → Int → Option ((List (List Int)))
 | 0, _, _, _, _, _, _, _ => none
 | k + 1, x1, x7, x8, x365000, x365001, x90041000, x90042000 => if x8 ≥ 0 then (if 0 ≤ x365000 then (if (x365000 : Int).toNat ≤ 35184372088832 then (if 0 ≤ x8 then (if x8 < (x7.length : Int) then (impl_Set_left_at_impl_Set_souths_1.l1 k x1 (x7.set (x8 : Int).toNat (List.replicate (x365000 : Int).toNat 0)) x8 x365000 0 x365000 x365001 x90041000 x90042000) else (none)) else (none)) else (none)) else (none)) else (some x7)
def impl_Set_left_at_impl_Set_souths_1.l1 : Nat → List Int → List (List Int) → Int → Int → Int → Int → List (S77) → Bool → Int → Option ((List (List Int)))
 | 0, _, _, _, _, _, _, _, _, _ => none
 | k + 1, x1, x7, x8, x29, x30, x365000, x365001, x90041000, x90042000 => if x30 < x29 then (if x8 = (x1.length : Int) then ((impl_Set_souths_1.f x30 x90041000 x90042000).bind fun t372 => (if t372 = true then (if 0 ≤ x8 then (if x8 < (x7.length : Int) then (if 0 ≤ x30 then (if x30 < ((rd_L5 x7 x8).length : Int) then (impl_Set_left_at_impl_Set_souths_1.l1 k x1 (x7.set (x8 : Int).toNat ((rd_L5 x7 x8).set (x30 : Int).toNat 1)) x8 x29 (wrap64 (x30 + 1)) x365000 x365001 x90041000 x90042000) else (none)) else (none)) else (none)) else (none)) else (impl_Set_left_at_impl_Set_souths_1.l1 k x1 x7 x8 x29 (wrap64 (x30 + 1)) x365000 x365001 x90041000 x90042000))) else (impl_Set_left_at_impl_Set_souths_1.l1 k x1 x7 x8 x29 (wrap64 (x30 + 1)) x365000 x365001 x90041000 x90042000)) else (if x8 = (x1.length : Int) then (impl_Set_left_at_impl_Set_souths_1.l0 k x1 x7 (wrap64 (x8 - 1)) x365000 x365001 x90041000 x90042000) else (impl_Set_left_at_impl_Set_souths_1.l2 k x1 x7 x8 x365001 (x365001.length : Int) 0 x365000 x365001 x90041000 x90042000))
def impl_Set_left_at_impl_Set_souths_1.l2 : Nat → List Int → List (List Int) → Int → List (S77) → Int → Int → Int → List (S77) → Bool → Int → Option ((List (List Int)))
 | 0, _, _, _, _, _, _, _, _, _, _ => none
 | k + 1, x1, x7, x8, x54, x55, x56, x365000, x365001, x90041000, x90042000 => if x56 < x55 then (if 0 ≤ x56 then (if x56 < (x54.length : Int) then (if 0 ≤ x8 then (if x8 < (x1.length : Int) then (if ((rd_T77 x54 x56).f1) = (rd x1 x8) then (if x8 < (x7.length : Int) then (if 0 ≤ ((rd_T77 x54 x56).f0) then (if ((rd_T77 x54 x56).f0) < ((rd_L5 x7 x8).length : Int) then (if 0 ≤ (wrap64 (x8 + 1)) then (if (wrap64 (x8 + 1)) < (x7.length : Int) then (if 0 ≤ ((rd_T77 x54 x56).f2) then (if ((rd_T77 x54 x56).f2) < ((rd_L5 x7 (wrap64 (x8 + 1))).length : Int) then (impl_Set_left_at_impl_Set_souths_1.l2 k x1 (x7.set (x8 : Int).toNat ((rd_L5 x7 x8).set (((rd_T77 x54 x56).f0) : Int).toNat (mn 1000000000000001 (wrap64 ((rd (rd_L5 x7 x8) ((rd_T77 x54 x56).f0)) + (rd (rd_L5 x7 (wrap64 (x8 + 1))) ((rd_T77 x54 x56).f2))))))) x8 x54 x55 (wrap64 (x56 + 1)) x365000 x365001 x90041000 x90042000) else (none)) else (none)) else (none)) else (none)) else (none)) else (none)) else (none)) else (impl_Set_left_at_impl_Set_souths_1.l2 k x1 x7 x8 x54 x55 (wrap64 (x56 + 1)) x365000 x365001 x90041000 x90042000)) else (none)) else (none)) else (none)) else (none)) else (impl_Set_left_at_impl_Set_souths_1.l0 k x1 x7 (wrap64 (x8 - 1)) x365000 x365001 x90041000 x90042000)
end
def impl_Set_left_at_impl_Set_souths_1.f (k : Nat) (a0_0 : Int) (l0_1 : List (S77)) (l1 : List Int) (a2_0_0 : Bool) (a2_1_0 : Int) : Option ((List (List Int))) := if 0 ≤ (wrap64 ((l1.length : Int) + 1)) then (if (wrap64 ((l1.length : Int) + 1) : Int).toNat ≤ 11728124029610 then (impl_Set_left_at_impl_Set_souths_1.l0 k l1 (List.replicate (wrap64 ((l1.length : Int) + 1) : Int).toNat []) (l1.length : Int) a0_0 l0_1 a2_0_0 a2_1_0) else (none)) else (none)
theorem impl_Set_left_at_impl_Set_souths_1.mono_l : ∀ k, (∀ y0 y1 y2 y3 y4 y5 y6, LeO (impl_Set_left_at_impl_Set_souths_1.l0 k y0 y1 y2 y3 y4 y5 y6) (impl_Set_left_at_impl_Set_souths_1.l0 (k + 1) y0 y1 y2 y3 y4 y5 y6)) ∧ (∀ y0 y1 y2 y3 y4 y5 y6 y7 y8, LeO (impl_Set_left_at_impl_Set_souths_1.l1 k y0 y1 y2 y3 y4 y5 y6 y7 y8) (impl_Set_left_at_impl_Set_souths_1.l1 (k + 1) y0 y1 y2 y3 y4 y5 y6 y7 y8)) ∧ (∀ y0 y1 y2 y3 y4 y5 y6 y7 y8 y9, LeO (impl_Set_left_at_impl_Set_souths_1.l2 k y0 y1 y2 y3 y4 y5 y6 y7 y8 y9) (impl_Set_left_at_impl_Set_souths_1.l2 (k + 1) y0 y1 y2 y3 y4 y5 y6 y7 y8 y9))
 | 0 => ⟨fun _ _ _ _ _ _ _ r h => by simp [impl_Set_left_at_impl_Set_souths_1.l0] at h, fun _ _ _ _ _ _ _ _ _ r h => by simp [impl_Set_left_at_impl_Set_souths_1.l1] at h, fun _ _ _ _ _ _ _ _ _ _ r h => by simp [impl_Set_left_at_impl_Set_souths_1.l2] at h⟩
 | k + 1 => by
  obtain ⟨ih0, ih1, ih2⟩ := impl_Set_left_at_impl_Set_souths_1.mono_l k
  refine ⟨?_, ?_, ?_⟩
  ·intro y0 y1 y2 y3 y4 y5 y6
   unfold impl_Set_left_at_impl_Set_souths_1.l0
   repeat' first
   | (with_reducible exact ih0 _ _ _ _ _ _ _)
   | (with_reducible exact ih1 _ _ _ _ _ _ _ _ _)
   | (with_reducible exact ih2 _ _ _ _ _ _ _ _ _ _)
   | (with_reducible exact LeO.refl _)
   | (with_reducible exact LeO.none _)
   | (with_reducible refine LeO.ite ?_ ?_)
   | (with_reducible refine LeO.bind ?_ (fun _ => ?_))
   | exact ih0 _ _ _ _ _ _ _
   | exact ih1 _ _ _ _ _ _ _ _ _
   | exact ih2 _ _ _ _ _ _ _ _ _ _
   | exact LeO.none _
   | refine LeO.ite ?_ ?_
   | refine LeO.bind ?_ (fun _ => ?_)
  ·intro y0 y1 y2 y3 y4 y5 y6 y7 y8
   unfold impl_Set_left_at_impl_Set_souths_1.l1
   repeat' first
   | (with_reducible exact ih0 _ _ _ _ _ _ _)
   | (with_reducible exact ih1 _ _ _ _ _ _ _ _ _)
   | (with_reducible exact ih2 _ _ _ _ _ _ _ _ _ _)
   | (with_reducible exact LeO.refl _)
   | (with_reducible exact LeO.none _)
   | (with_reducible refine LeO.ite ?_ ?_)
   | (with_reducible refine LeO.bind ?_ (fun _ => ?_))
   | exact ih0 _ _ _ _ _ _ _
   | exact ih1 _ _ _ _ _ _ _ _ _
   | exact ih2 _ _ _ _ _ _ _ _ _ _
   | exact LeO.none _
   | refine LeO.ite ?_ ?_
   | refine LeO.bind ?_ (fun _ => ?_)
  ·intro y0 y1 y2 y3 y4 y5 y6 y7 y8 y9
   unfold impl_Set_left_at_impl_Set_souths_1.l2
   repeat' first
   | (with_reducible exact ih0 _ _ _ _ _ _ _)
   | (with_reducible exact ih1 _ _ _ _ _ _ _ _ _)
   | (with_reducible exact ih2 _ _ _ _ _ _ _ _ _ _)
   | (with_reducible exact LeO.refl _)
   | (with_reducible exact LeO.none _)
   | (with_reducible refine LeO.ite ?_ ?_)
   | (with_reducible refine LeO.bind ?_ (fun _ => ?_))
   | exact ih0 _ _ _ _ _ _ _
   | exact ih1 _ _ _ _ _ _ _ _ _
   | exact ih2 _ _ _ _ _ _ _ _ _ _
   | exact LeO.none _
   | refine LeO.ite ?_ ?_
   | refine LeO.bind ?_ (fun _ => ?_)
theorem impl_Set_left_at_impl_Set_souths_1.mono : ∀ a0 a1 a2 a3 a4 k, LeO (impl_Set_left_at_impl_Set_souths_1.f k a0 a1 a2 a3 a4) (impl_Set_left_at_impl_Set_souths_1.f (k + 1) a0 a1 a2 a3 a4) := by
 intro a0 a1 a2 a3 a4 k
 obtain ⟨ih0, ih1, ih2⟩ := impl_Set_left_at_impl_Set_souths_1.mono_l k
 unfold impl_Set_left_at_impl_Set_souths_1.f
 repeat' first
   | (with_reducible exact ih0 _ _ _ _ _ _ _)
   | (with_reducible exact ih1 _ _ _ _ _ _ _ _ _)
   | (with_reducible exact ih2 _ _ _ _ _ _ _ _ _ _)
   | (with_reducible exact LeO.refl _)
   | (with_reducible exact LeO.none _)
   | (with_reducible refine LeO.ite ?_ ?_)
   | (with_reducible refine LeO.bind ?_ (fun _ => ?_))
   | exact ih0 _ _ _ _ _ _ _
   | exact ih1 _ _ _ _ _ _ _ _ _
   | exact ih2 _ _ _ _ _ _ _ _ _ _
   | exact LeO.none _
   | refine LeO.ite ?_ ?_
   | refine LeO.bind ?_ (fun _ => ?_)
def impl_Set_left_at_impl_Set_souths_1.T17 : Bool × List (List Nat × List Nat) := (true, [([], []), ([], []), ([0, 1], [0, 1]), ([2], [2]), ([], []), ([4], [4]), ([], []), ([], []), ([6, 7], [6, 7]), ([8], [8]), ([], []), ([10], [10]), ([9, 11], [9, 11]), ([12], [12]), ([], []), ([], []), ([15], [15]), ([14, 16], [14, 16]), ([17], [17]), ([], []), ([19], [19]), ([18, 20], [18, 20]), ([21], [21]), ([13, 22], [13, 22]), ([23], [23]), ([3, 5, 0, 1, 2, 3, 4, 5, 6, 7, 8, 9, 10, 11, 12, 13, 14, 15, 16, 17, 18, 19, 20, 21, 22, 23, 24], [3, 5]), ([25, 24, 0, 1, 2, 3, 4, 5, 6, 7, 8, 9, 10, 11, 12, 13, 14, 15, 16, 17, 18, 19, 20, 21, 22, 23, 24], [24, 25])])
def impl_Set_left_at_impl_Set_souths_1.B17 : List Nat := [0, 0, 3, 7, 0, 16, 0, 0, 192, 448, 0, 1024, 4032, 8128, 0, 0, 32768, 114688, 245760, 0, 524288, 2080768, 4177920, 8388544, 16777152, 33554431, 67108863]
theorem impl_Set_left_at_impl_Set_souths_1.tab17 : rtab .any (opsOf Try.f66 17) = impl_Set_left_at_impl_Set_souths_1.T17 := by kernel_rfl
theorem impl_Set_left_at_impl_Set_souths_1.bits17 : waitsOk impl_Set_left_at_impl_Set_souths_1.T17.2 impl_Set_left_at_impl_Set_souths_1.B17 = true := by kernel_rfl
set_option maxHeartbeats 8000000 in
set_option maxRecDepth 100000 in
theorem impl_Set_left_at_impl_Set_souths_1.calls (k : Nat) (a0_0 : Int) (A0_1 : Option Addr) (c0_1 : Nat) (l0_1 : List (S77)) (A1 : Option Addr) (c1 : Nat) (l1 : List Int) (g2_0_ : Nat) (a2_0_0 : Bool) (g2_1_ : Nat) (a2_1_0 : Int) (r : List (List Int)) (w : World) (hr0_1 : Kd.C k77 w A0_1 l0_1.length l0_1) (hc0_1 : l0_1.length ≤ c0_1) (hr1 : Kd.C (Kd.int .i64) w A1 l1.length l1) (hc1 : l1.length ≤ c1) (hb2_0_ : w.heap[g2_0_]? = some (.cells #[.bool a2_0_0] 4 (0, 0))) (hb2_1_ : w.heap[g2_1_]? = some (.cells #[.int .i64 a2_1_0] 2 (0, 0))) (h : impl_Set_left_at_impl_Set_souths_1.f k a0_0 l0_1 l1 a2_0_0 a2_1_0 = some r) :
  Calls Try.prog 66 #[.agg #[.int .i64 a0_0, .slice A0_1 l0_1.length c0_1], .slice A1 l1.length c1, .func (.func 114) #[] #[.pointer (some ⟨g2_0_, 0, none⟩), .pointer (some ⟨g2_1_, 0, none⟩)]] w fun e w' => ∃ v0_ : Value, e = .returned (v0_) ∧ Kd.S (Kd.slice 2 (Kd.int .i64)) 34 w' w.heap.size (fun _ => True) v0_ r ∧ Below w.heap.size w w' := by
 have hu30 := Try.underlying30
 have hu77 := Try.underlying77
 have HR0_1 := Aside0.mk hr0_1
 have HC0_1 := Aside0.mk hc0_1
 clear hr0_1 hc0_1
 have HR1 := Aside0.mk hr1
 have HC1 := Aside0.mk hc1
 clear hr1 hc1
 have BK90040 := Aside0.mk hb2_0_
 clear hb2_0_
 have BK90041 := Aside0.mk hb2_1_
 clear hb2_1_
 have HB := Aside0.mk (Below.refl w.heap.size w)
 have H : (if 0 ≤ (wrap64 ((l1.length : Int) + 1)) then (if (wrap64 ((l1.length : Int) + 1) : Int).toNat ≤ 11728124029610 then (impl_Set_left_at_impl_Set_souths_1.l0 k l1 (List.replicate (wrap64 ((l1.length : Int) + 1) : Int).toNat []) (l1.length : Int) a0_0 l0_1 a2_0_0 a2_1_0) else (none)) else (none)) = some r := h
 clear h
 obtain ⟨ji4, hji4⟩ : ∃ j_ : Int, (wrap64 ((l1.length : Int) + 1)) = j_ := ⟨_, rfl⟩
 replace H : (if 0 ≤ (ji4) then (if (ji4 : Int).toNat ≤ 11728124029610 then (impl_Set_left_at_impl_Set_souths_1.l0 k l1 (List.replicate (ji4 : Int).toNat []) (l1.length : Int) a0_0 l0_1 a2_0_0 a2_1_0) else (none)) else (none)) = some r := by first | (rw [hji4] at H; exact H) | (simp only [hji4] at H ⊢; exact H)
 have hji4w : (IntKind.i64.wrap ((l1.length : Int) + 1)) = ji4 := (i64_w _).trans hji4
 by_cases c5 : 0 ≤ (ji4)
 ·rw [if_pos c5] at H
  have c5b0 := eq_true c5
  have c5b1 : decide (0 ≤ (ji4)) = true := decide_eq_true c5
  clear c5
  by_cases c6 : (ji4 : Int).toNat ≤ 11728124029610
  ·rw [if_pos c6] at H
   have c6b0 := eq_true c6
   have c6b1 : decide ((ji4 : Int).toNat ≤ 11728124029610) = true := decide_eq_true c6
   clear c6
   obtain ⟨y365, hy365⟩ : ∃ y_ : List (List Int), y_ = (List.replicate (ji4 : Int).toNat []) := ⟨_, rfl⟩
   replace H : (impl_Set_left_at_impl_Set_souths_1.l0 k l1 y365 (l1.length : Int) a0_0 l0_1 a2_0_0 a2_1_0) = some r := by first | (rw [hy365]; with_reducible exact H) | (have H2_ := (Option.bind_some _ _).symm.trans H; rw [hy365]; with_reducible exact H2_) | (have H2_ := (Option.bind_some _ _).symm.trans H; with_reducible exact H2_) | with_reducible exact H | (rw [hy365]; exact H) | exact H
   have Ny365 := Aside0.mk hy365
   clear hy365
   have H' := Aside0.mk H
   clear H
   go_enter Try.func66, Try.ntmps66
   go_wp2_with (first | ((with_reducible refine gate_dst (N := 3) rfl ?_); refine box_event ?hg (N := 3) ?hd (cs := #[.int .i64 a0_0, .slice A0_1 l0_1.length c0_1]) (t := 30) ?hr ?_; (case hd => rfl); (case hg => rfl); (case hr => first | (go_simp; done) | (go_simp; rfl)); intro gb364 hg w7 hbox hb; have n0_ := Aside0.mk (blk_below (g := g2_0_) (o := .cells #[.bool a2_0_0] 4 (0, 0)) (by (with_reducible repeat (first | refine blk_drewN ?_ _ | refine blk_drew ?_ | refine blk_alloc ?_ _)); exact BK90040.out) hb); have n1_ := Aside0.mk (blk_below (g := g2_1_) (o := .cells #[.int .i64 a2_1_0] 2 (0, 0)) (by (with_reducible repeat (first | refine blk_drewN ?_ _ | refine blk_drew ?_ | refine blk_alloc ?_ _)); exact BK90041.out) hb); have n2_ := Aside0.mk (below_step (by repeat (first | (with_reducible first | exact HB.out | apply below_alloc | apply pw_below_drewN | apply below_drew1) | exact HB.out)) hb); have n3_ := Aside0.mk (hbox); have n4_ := Aside0.mk ((by rw [hg]; exact (below_size (by repeat (first | (with_reducible first | exact HB.out | apply below_alloc | apply pw_below_drewN | apply below_drew1) | exact HB.out))) : w.heap.size ≤ gb364)); have n5_ := Aside0.mk ((by rw [hg]; exact (below_size (by repeat (first | (with_reducible first | exact HB.out | apply below_alloc | apply pw_below_drewN | apply below_drew1) | exact HB.out))) : w.heap.size ≤ gb364)); have n6_ := Aside0.mk ((by rw [hg]; exact Nat.ne_of_lt (blk_lt (g := g2_0_) (o := .cells #[.bool a2_0_0] 4 (0, 0)) (by (with_reducible repeat (first | refine blk_drewN ?_ _ | refine blk_drew ?_ | refine blk_alloc ?_ _)); exact BK90040.out)) : g2_0_ ≠ gb364)); have n7_ := Aside0.mk ((by rw [hg]; exact Nat.ne_of_gt (blk_lt (g := g2_0_) (o := .cells #[.bool a2_0_0] 4 (0, 0)) (by (with_reducible repeat (first | refine blk_drewN ?_ _ | refine blk_drew ?_ | refine blk_alloc ?_ _)); exact BK90040.out)) : gb364 ≠ g2_0_)); have n8_ := Aside0.mk ((by rw [hg]; exact Nat.ne_of_lt (blk_lt (g := g2_1_) (o := .cells #[.int .i64 a2_1_0] 2 (0, 0)) (by (with_reducible repeat (first | refine blk_drewN ?_ _ | refine blk_drew ?_ | refine blk_alloc ?_ _)); exact BK90041.out)) : g2_1_ ≠ gb364)); have n9_ := Aside0.mk ((by rw [hg]; exact Nat.ne_of_gt (blk_lt (g := g2_1_) (o := .cells #[.int .i64 a2_1_0] 2 (0, 0)) (by (with_reducible repeat (first | refine blk_drewN ?_ _ | refine blk_drew ?_ | refine blk_alloc ?_ _)); exact BK90041.out)) : gb364 ≠ g2_1_)); clear BK90040; clear BK90041; clear HB; have BK90040 := n0_; have BK90041 := n1_; have HB := n2_; have BK364 := n3_; have GW364 := n4_; have GE364 := n5_; have NB90040_364 := n6_; have NB364_90040 := n7_; have NB90041_364 := n8_; have NB364_90041 := n9_; clear n0_ n1_ n2_ n3_ n4_ n5_ n6_ n7_ n8_ n9_; clear hb hbox hg) | ((with_reducible refine gate_dst (N := 15) rfl ?_); refine Kd.S_make (Kd.slice 2 (Kd.int .i64)) _ 34 rfl (N := 15) rfl 43 _ _ rfl ji4 rfl rfl Try.underlying43 (.slice none 0 0) 24 info34 rfl (by decide) (by omega) [] (ok := fun _ => True) (okp := fun _ => True) ⟨_, rfl, Kd.R_nil _ _ _ _ _⟩ (fun _ hk => hk) trivial (of_decide_eq_true (by first | (with_reducible assumption) | assumption)) (Nat.le_trans (Nat.mul_le_mul_right _ (of_decide_eq_true (by first | (with_reducible assumption) | assumption) : ji4.toNat ≤ 11728124029610)) (by omega)) (Below.refl _ _) (Nat.le_refl _) ?_; intro v366 w8 ho9 hb hg_ hnew_; clear hg_ hnew_; (first | rw [← Ny365.out] at ho9 | (simp only [Int.reduceToNat] at ho9; rw [← Ny365.out] at ho9)); have n0_ := Aside0.mk (Kd.S_lower (Kd.S_newB ho9 (g := g2_1_) (o := .cells #[.int .i64 a2_1_0] 2 (0, 0)) (by (with_reducible repeat (first | refine blk_drewN ?_ _ | refine blk_drew ?_ | refine blk_alloc ?_ _)); exact BK90041.out)) (below_size (by repeat (first | (with_reducible first | exact HB.out | apply below_alloc | apply pw_below_drewN | apply below_drew1 | refine below_set ?_ GE364.out) | exact HB.out)))); have n1_ := Aside0.mk (blk_below (g := g2_0_) (o := .cells #[.bool a2_0_0] 4 (0, 0)) (by (with_reducible repeat (first | refine blk_drewN ?_ _ | refine blk_drew ?_ | refine blk_alloc ?_ _)); exact BK90040.out) hb); have n2_ := Aside0.mk (blk_below (g := g2_1_) (o := .cells #[.int .i64 a2_1_0] 2 (0, 0)) (by (with_reducible repeat (first | refine blk_drewN ?_ _ | refine blk_drew ?_ | refine blk_alloc ?_ _)); exact BK90041.out) hb); have n3_ := Aside0.mk (blk_below (g := gb364) (o := .cells #[.int .i64 a0_0, .slice A0_1 l0_1.length c0_1] 30 (0, 0)) (by (with_reducible repeat (first | refine blk_drewN ?_ _ | refine blk_drew ?_ | refine blk_alloc ?_ _)); exact BK364.out) hb); have n4_ := Aside0.mk (below_step (by repeat (first | (with_reducible first | exact HB.out | apply below_alloc | apply pw_below_drewN | apply below_drew1 | refine below_set ?_ GE364.out) | exact HB.out)) hb); clear BK90040; clear BK90041; clear BK364; clear HB; have HO367 := n0_; have BK90040 := n1_; have BK90041 := n2_; have BK364 := n3_; have HB := n4_; clear n0_ n1_ n2_ n3_ n4_; clear hb ho9))
   go_loopg [8] k (fun kq v8 w' => ∃ (x7_1 : List (List Int)) (x8_1 : Int), v8 = .int .i64 x8_1 ∧ Aside0 (impl_Set_left_at_impl_Set_souths_1.l0 kq l1 x7_1 x8_1 a0_0 l0_1 a2_0_0 a2_1_0 = some r) ∧ Aside0 (kq ≤ k) ∧ Aside0 (Kd.S (Kd.slice 2 (Kd.int .i64)) 34 w' w.heap.size (fun k_ => k_ ≠ g2_1_) v366 x7_1) ∧ Aside0 (w'.heap[g2_0_]? = some (.cells #[.bool a2_0_0] 4 (0, 0))) ∧ Aside0 (w'.heap[g2_1_]? = some (.cells #[.int .i64 a2_1_0] 2 (0, 0))) ∧ Aside0 (w'.heap[gb364]? = some (.cells #[.int .i64 a0_0, (.slice A0_1 l0_1.length c0_1)] 30 (0, 0))) ∧ Aside0 (Below w.heap.size w w'))
   case atStart => exact ⟨(y365), ((l1.length : Int)), (by first | rfl | (simp; done) | (simp [*]; done) | (simp; decide +kernel)), H', ⟨Nat.le_refl _⟩, ⟨by (with_reducible repeat (first | apply Kd.S_alloc | apply Kd.S_drewN | apply Kd.S_drew)); exact Kd.S_mono HO367.out (fun _ hk => hk.2)⟩, ⟨by (with_reducible repeat (first | refine blk_drewN ?_ _ | refine blk_drew ?_ | refine blk_alloc ?_ _)); exact BK90040.out⟩, ⟨by (with_reducible repeat (first | refine blk_drewN ?_ _ | refine blk_drew ?_ | refine blk_alloc ?_ _)); exact BK90041.out⟩, ⟨by (with_reducible repeat (first | refine blk_drewN ?_ _ | refine blk_drew ?_ | refine blk_alloc ?_ _)); exact BK364.out⟩, ⟨by repeat (first | (with_reducible first | exact HB.out | apply below_alloc | apply pw_below_drewN | apply below_drew1 | refine below_set ?_ GE364.out) | exact HB.out)⟩⟩
   case round =>
    clear H'
    try clear c1
    try clear p2
    try clear c5
    try clear c5b0
    try clear c5b1
    try clear c6
    try clear c6b0
    try clear c6b1
    try clear p6
    obtain ⟨x7_1, x8_1, rfl, HA, HK1, HO_7, BK90040, BK90041, BK364, HB⟩ := hrel
    cases gk with
    | zero => exact absurd HA.out (by simp [impl_Set_left_at_impl_Set_souths_1.l0])
    | succ k1 =>
     have H := HA.out
     clear HA
     simp only [impl_Set_left_at_impl_Set_souths_1.l0] at H
     by_cases c10 : x8_1 ≥ 0
     ·rw [if_pos c10] at H
      have c10b0 : decide (0 ≤ x8_1) = true := decide_eq_true c10
      clear c10
      by_cases c11 : 0 ≤ a0_0
      ·rw [if_pos c11] at H
       have c11b0 := eq_true c11
       have c11b1 : decide (0 ≤ a0_0) = true := decide_eq_true c11
       clear c11
       by_cases c12 : (a0_0 : Int).toNat ≤ 35184372088832
       ·rw [if_pos c12] at H
        have c12b0 := eq_true c12
        have c12b1 : decide ((a0_0 : Int).toNat ≤ 35184372088832) = true := decide_eq_true c12
        clear c12
        obtain ⟨y368, hy368⟩ : ∃ y_ : List Int, y_ = (List.replicate (a0_0 : Int).toNat 0) := ⟨_, rfl⟩
        replace H : (if 0 ≤ x8_1 then (if x8_1 < (x7_1.length : Int) then (impl_Set_left_at_impl_Set_souths_1.l1 k1 l1 (x7_1.set (x8_1 : Int).toNat y368) x8_1 a0_0 0 a0_0 l0_1 a2_0_0 a2_1_0) else (none)) else (none)) = some r := by first | (rw [hy368]; with_reducible exact H) | (have H2_ := (Option.bind_some _ _).symm.trans H; rw [hy368]; with_reducible exact H2_) | (have H2_ := (Option.bind_some _ _).symm.trans H; with_reducible exact H2_) | with_reducible exact H | (rw [hy368]; exact H) | exact H
        have Ny368 := Aside0.mk hy368
        clear hy368
        by_cases c13 : 0 ≤ x8_1
        ·rw [if_pos c13] at H
         have c13b0 : decide (0 ≤ x8_1) = true := decide_eq_true c13
         clear c13
         by_cases c14 : x8_1 < (x7_1.length : Int)
         ·rw [if_pos c14] at H
          have c14b0 : decide (x8_1 < (x7_1.length : Int)) = true := decide_eq_true c14
          clear c14
          obtain ⟨y371, hy371⟩ : ∃ y_ : List (List Int), y_ = (x7_1.set (x8_1 : Int).toNat y368) := ⟨_, rfl⟩
          replace H : (impl_Set_left_at_impl_Set_souths_1.l1 k1 l1 y371 x8_1 a0_0 0 a0_0 l0_1 a2_0_0 a2_1_0) = some r := by first | (rw [hy371]; with_reducible exact H) | (have H2_ := (Option.bind_some _ _).symm.trans H; rw [hy371]; with_reducible exact H2_) | (have H2_ := (Option.bind_some _ _).symm.trans H; with_reducible exact H2_) | with_reducible exact H | (rw [hy371]; exact H) | exact H
          have Ny371 := Aside0.mk hy371
          clear hy371
          have H' := Aside0.mk H
          clear H
          have hnb16 := NB364_90040.out
          have hnc16 := NB90040_364.out
          have hnb17 := NB364_90041.out
          have hnc17 := NB90041_364.out
          have hcz18_0 : wr.cell? ⟨gb364, 0, none⟩ = some (.int .i64 a0_0) := (blk_cell BK364.out 0).trans rfl
          have hcz18_1 : wr.cell? ⟨gb364, 1, none⟩ = some (.slice A0_1 l0_1.length c0_1) := (blk_cell BK364.out 1).trans rfl
          have hfz18_0 := blk_frozen BK364.out 0
          have hfz18_1 := blk_frozen BK364.out 1
          go_wp2_with (first | ((with_reducible refine gate_dst (N := 26) rfl ?_); refine Kd.R_make (Kd.int .i64) _ 2 rfl (N := 26) rfl 34 _ _ rfl a0_0 rfl rfl Try.underlying34 (.int .i64 0) 8 info2 rfl (by decide) (by omega) 0 (ok := fun _ => True) (okp := fun _ => True) rfl (fun _ hk => hk) trivial (of_decide_eq_true (by first | (with_reducible assumption) | assumption)) (Nat.le_trans (Nat.mul_le_mul_right _ (of_decide_eq_true (by first | (with_reducible assumption) | assumption) : a0_0.toNat ≤ 35184372088832)) (by omega)) (Below.refl _ _) (Nat.le_refl _) ?_; intro v369 w19 ho20 hb hg_ hnew_; clear hg_ hnew_; (first | rw [← Ny368.out] at ho20 | (simp only [Int.reduceToNat] at ho20; rw [← Ny368.out] at ho20)); have n0_ := Aside0.mk (Kd.S_elder' (by (with_reducible repeat (first | apply Kd.S_alloc | apply Kd.S_drewN | apply Kd.S_drew)); exact HO_7.out) (Kd.R_base ho20) hb); have n1_ := Aside0.mk (Kd.R_lower (Kd.R_newB ho20 (g := g2_1_) (o := .cells #[.int .i64 a2_1_0] 2 (0, 0)) (by (with_reducible repeat (first | refine blk_drewN ?_ _ | refine blk_drew ?_ | refine blk_alloc ?_ _)); exact BK90041.out)) (below_size (by repeat (first | (with_reducible first | exact HB.out | apply below_alloc | apply pw_below_drewN | apply below_drew1 | refine below_set ?_ GE364.out) | exact HB.out)))); have n2_ := Aside0.mk (blk_below (g := g2_0_) (o := .cells #[.bool a2_0_0] 4 (0, 0)) (by (with_reducible repeat (first | refine blk_drewN ?_ _ | refine blk_drew ?_ | refine blk_alloc ?_ _)); exact BK90040.out) hb); have n3_ := Aside0.mk (blk_below (g := g2_1_) (o := .cells #[.int .i64 a2_1_0] 2 (0, 0)) (by (with_reducible repeat (first | refine blk_drewN ?_ _ | refine blk_drew ?_ | refine blk_alloc ?_ _)); exact BK90041.out) hb); have n4_ := Aside0.mk (blk_below (g := gb364) (o := .cells #[.int .i64 a0_0, .slice A0_1 l0_1.length c0_1] 30 (0, 0)) (by (with_reducible repeat (first | refine blk_drewN ?_ _ | refine blk_drew ?_ | refine blk_alloc ?_ _)); exact BK364.out) hb); have n5_ := Aside0.mk (below_step (by repeat (first | (with_reducible first | exact HB.out | apply below_alloc | apply pw_below_drewN | apply below_drew1 | refine below_set ?_ GE364.out) | exact HB.out)) hb); clear HO_7; clear BK90040; clear BK90041; clear BK364; clear HB; have HO_7 := n0_; have HO370 := n1_; have BK90040 := n2_; have BK90041 := n3_; have BK364 := n4_; have HB := n5_; clear n0_ n1_ n2_ n3_ n4_ n5_; clear hb ho20; have p15 : 0 ≤ (x8_1 : Int) := of_decide_eq_true (by first | (with_reducible assumption) | assumption); have q15 : (x8_1 : Int) < ((x7_1.length : Int) : Int) := of_decide_eq_true (by first | (with_reducible assumption) | assumption); obtain ⟨go15, co15, eo15, gb15, gl15, cl15, HG15⟩ := Kd.S_form HO_7.out (by omega); (first | cases eo15 | (injection eo15 with ea_ en_ ec_; (first | subst ea_ | (injection ea_ with ea_; subst ea_)); subst ec_; clear en_)); have GB15 := Aside0.mk gb15; have GG15 := Aside0.mk HG15; clear gb15 gl15 HG15; obtain ⟨_, ce15, hcl15, hM15, hcc15, hfr15, _, _⟩ := Kd.S_elem HO_7.out [] (x8_1 : Int) p15 q15; obtain ⟨ve15_0, rfl, ge15_0⟩ := hM15; have hx15_0 := hcc15 0 _ rfl; have hf15_0 := hfr15 0; (try simp only [show ((Kd.slice 2 (Kd.int .i64))).sz = 1 from rfl, Nat.mul_one, Nat.add_zero] at hx15_0); (try simp only [show ((Kd.slice 2 (Kd.int .i64))).sz = 1 from rfl, Nat.mul_one, Nat.add_zero] at hf15_0); clear hcl15 hcc15 hfr15; (try clear hM15); replace p15 := eq_true p15; replace q15 := eq_true q15; obtain ⟨Ao23, co23, eo23⟩ := Kd.R_slice HO370.out; subst eo23; have HX21 := Aside0.mk (show Kd.S (Kd.slice 2 (Kd.int .i64)) 34 w19 w.heap.size (fun k_ => ((fun k_ => k_ ≠ g2_1_)) k_ ∧ ¬ ((fun k_ => some k_ = (.slice Ao23 y368.length co23 : Value).ownBlock)) k_) (.slice (some ⟨go15, 0, none⟩) x7_1.length co15) x7_1 from (by (with_reducible repeat (first | apply Kd.S_alloc | apply Kd.S_drewN | apply Kd.S_drew)); exact Kd.S_mono HO_7.out (fun k_ hk => ⟨hk.1, fun e_ => hk.2 e_⟩))); obtain ⟨oki21, ce21, hcl21, hM21, hcc21, hfr21, hoki21, hH21⟩ := Kd.S_elem HX21.out [] (x8_1 : Int) (of_decide_eq_true (by first | (with_reducible assumption) | assumption)) (by have h_ : (x8_1 : Int) < ((x7_1.length : Int) : Int) := of_decide_eq_true (by first | (with_reducible assumption) | assumption); first | exact h_ | (have e_ := (Kd.S_reads' HO_7.out).1; omega) | simpa using h_); obtain ⟨ve21_0, rfl, ge21_0⟩ := hM21; have HP21 := Kd.S_seg hH21 (of_decide_eq_true (by first | (with_reducible assumption) | assumption)) (by have h_ : (x8_1 : Int) < ((x7_1.length : Int) : Int) := of_decide_eq_true (by first | (with_reducible assumption) | assumption); first | exact h_ | (have e_ := (Kd.S_reads' HO_7.out).1; omega) | simpa using h_) (seg := [.slice Ao23 y368.length co23]) (j := 0) (show 1 ≤ 1 from by decide) (x' := y368) (Kd.M_row (Kd.R_mono (Kd.R_tight rfl (Kd.R_mono (ok' := fun k_ => ((fun k_ => k_ ≠ g2_1_)) k_ ∧ k_ ≠ go15) (Kd.R_apart' (HO370.out) (Kd.S_typed HO_7.out) (by decide)) (fun k_ hk => ⟨hk.1.2, fun e_ => (hk.2) (by rw [e_]; rfl)⟩))) (fun _ h_ => Or.inr (h_)))) (fun _ hk => hk) (fun k_ hk_ => ((Kd.R_mono (ok' := fun k_ => ((fun k_ => k_ ≠ g2_1_)) k_ ∧ k_ ≠ go15) (Kd.R_apart' (HO370.out) (Kd.S_typed HO_7.out) (by decide)) (fun k_ hk => ⟨hk.1.2, fun e_ => (hk.2) (by rw [e_]; rfl)⟩))).1 k_ hk_.symm); have hx21_0 := hcc21 0 _ rfl; (try simp only [show ((Kd.slice 2 (Kd.int .i64))).sz = 1 from rfl, Nat.mul_one, Nat.add_zero] at hx21_0); have hf21_0 := hfr21 0; (try simp only [show ((Kd.slice 2 (Kd.int .i64))).sz = 1 from rfl, Nat.mul_one, Nat.add_zero] at hf21_0); clear hcl21 hcc21 hfr21 hoki21 hH21; (try clear hM21); (try simp only [show ((Kd.slice 2 (Kd.int .i64))).sz = 1 from rfl, Nat.mul_one, Nat.add_zero] at HP21)) | ((with_reducible refine gate_store (t := 34) (p := 27) rfl ?_); refine store_event (t := 34) (p := 27) (v := ?vo_w22) (w1 := (w19.setCell ⟨go15, (x8_1 : Int).toNat, none⟩ (.slice Ao23 y368.length co23))) ?hg ?ho ?hn ?hr ?_; (case ho => rfl); (case hg => rfl); (case hn => rfl); (case hr => first | (go_simp; done) | (go_simp; rfl)); intro w22 hw; have hg : w19.grownBy w22 (some go15) := (by rw [hw]; exact HP21.2); have hp_ : Kd.S (Kd.slice 2 (Kd.int .i64)) 34 w22 w.heap.size (fun k_ => k_ ≠ g2_1_) (.slice (some ⟨go15, 0, none⟩) x7_1.length co15) y371 := (by rw [hw, Ny371.out]; exact HP21.1); clear HP21; have n0_ := Aside0.mk (hp_); have n1_ := Aside0.mk (blk_grown (g := g2_0_) (o := .cells #[.bool a2_0_0] 4 (0, 0)) (by (with_reducible repeat (first | refine blk_drewN ?_ _ | refine blk_drew ?_ | refine blk_alloc ?_ _)); exact BK90040.out) hg (Kd.S_ne HO_7.out BK90040.out (by decide))); have n2_ := Aside0.mk (blk_grown (g := g2_1_) (o := .cells #[.int .i64 a2_1_0] 2 (0, 0)) (by (with_reducible repeat (first | refine blk_drewN ?_ _ | refine blk_drew ?_ | refine blk_alloc ?_ _)); exact BK90041.out) hg (Kd.S_ne HO_7.out BK90041.out (by decide))); have n3_ := Aside0.mk (blk_grown (g := gb364) (o := .cells #[.int .i64 a0_0, .slice A0_1 l0_1.length c0_1] 30 (0, 0)) (by (with_reducible repeat (first | refine blk_drewN ?_ _ | refine blk_drew ?_ | refine blk_alloc ?_ _)); exact BK364.out) hg (Kd.S_ne HO_7.out BK364.out (by decide))); have n4_ := Aside0.mk ((by rw [hw]; exact below_set (HB.out) GB15.out : Below w.heap.size w w22)); clear HO_7; clear BK90040; clear BK90041; clear BK364; clear HB; clear HO370; have HO_7 := n0_; have BK90040 := n1_; have BK90041 := n2_; have BK364 := n3_; have HB := n4_; clear n0_ n1_ n2_ n3_ n4_; clear hg hw hp_; have hcz24_0 : w22.cell? ⟨gb364, 0, none⟩ = some (.int .i64 a0_0) := (blk_cell BK364.out 0).trans rfl; have hcz24_1 : w22.cell? ⟨gb364, 1, none⟩ = some (.slice A0_1 l0_1.length c0_1) := (blk_cell BK364.out 1).trans rfl; have hfz24_0 := blk_frozen BK364.out 0; have hfz24_1 := blk_frozen BK364.out 1))
          go_loopg [30] k1 (fun kq v30 w' => ∃ (x7_2 : List (List Int)) (x30_2 : Int), v30 = .int .i64 x30_2 ∧ Aside0 (impl_Set_left_at_impl_Set_souths_1.l1 kq l1 x7_2 x8_1 a0_0 x30_2 a0_0 l0_1 a2_0_0 a2_1_0 = some r) ∧ Aside0 (kq ≤ k1) ∧ Aside0 (Kd.S (Kd.slice 2 (Kd.int .i64)) 34 w' w.heap.size (fun k_ => k_ ≠ g2_1_) (.slice (some ⟨go15, 0, none⟩) x7_1.length co15) x7_2) ∧ Aside0 (w'.heap[g2_0_]? = some (.cells #[.bool a2_0_0] 4 (0, 0))) ∧ Aside0 (w'.heap[g2_1_]? = some (.cells #[.int .i64 a2_1_0] 2 (0, 0))) ∧ Aside0 (w'.heap[gb364]? = some (.cells #[.int .i64 a0_0, (.slice A0_1 l0_1.length c0_1)] 30 (0, 0))) ∧ Aside0 (Below w.heap.size w w'))
          case atStart => exact ⟨(y371), (0), (by first | rfl | (simp; done) | (simp [*]; done) | (simp; decide +kernel)), H', ⟨Nat.le_refl _⟩, ⟨by (with_reducible repeat (first | apply Kd.S_alloc | apply Kd.S_drewN | apply Kd.S_drew)); exact HO_7.out⟩, ⟨by (with_reducible repeat (first | refine blk_drewN ?_ _ | refine blk_drew ?_ | refine blk_alloc ?_ _)); exact BK90040.out⟩, ⟨by (with_reducible repeat (first | refine blk_drewN ?_ _ | refine blk_drew ?_ | refine blk_alloc ?_ _)); exact BK90041.out⟩, ⟨by (with_reducible repeat (first | refine blk_drewN ?_ _ | refine blk_drew ?_ | refine blk_alloc ?_ _)); exact BK364.out⟩, ⟨by repeat (first | (with_reducible first | exact HB.out | apply below_alloc | apply pw_below_drewN | apply below_drew1 | refine below_set ?_ GE364.out) | exact HB.out)⟩⟩
          case round =>
           clear H'
           try clear c1
           try clear p1
           try clear q1
           try clear hx1
           try clear c2
           try clear p2
           try clear hx2
           try clear c5
           try clear c5b0
           try clear c5b1
           try clear c6
           try clear c6b0
           try clear c6b1
           try clear p6
           try clear c10
           try clear c10b0
           try clear c11
           try clear c11b0
           try clear c11b1
           try clear c12
           try clear c12b0
           try clear c12b1
           try clear c13
           try clear c13b0
           try clear c14
           try clear c14b0
           try clear c15
           try clear p15
           try clear q15
           try clear hx15
           try clear hf15
           try clear c16
           try clear c17
           try clear c21
           try clear hx21
           try clear hf21
           try clear hcz18_0
           try clear hcz18_1
           try clear hcz24_0
           try clear hcz24_1
           try clear hfz18_0
           try clear hfz18_1
           try clear hfz24_0
           try clear hfz24_1
           try clear hx15_0
           try clear hx21_0
           try clear p15
           try clear p2
           try clear p6
           try clear q15
           obtain ⟨x7_2, x30_2, rfl, HA, HK2, HO_7, BK90040, BK90041, BK364, HB⟩ := hrel
           have hl7_2 := (Kd.S_reads' HO_7.out).1
           rw [hl7_2] at HO_7
           (try simp only [hl7_2])
           (try simp only [hl7_2] at BK90040)
           (try simp only [hl7_2] at BK90041)
           (try simp only [hl7_2] at BK364)
           cases gk with
           | zero => exact absurd HA.out (by simp [impl_Set_left_at_impl_Set_souths_1.l1])
           | succ k2 =>
            have H := HA.out
            clear HA
            simp only [impl_Set_left_at_impl_Set_souths_1.l1] at H
            by_cases c25 : x30_2 < a0_0
            ·rw [if_pos c25] at H
             have c25b0 : decide (x30_2 < a0_0) = true := decide_eq_true c25
             clear c25
             by_cases c26 : x8_1 = (l1.length : Int)
             ·rw [if_pos c26] at H
              have c26b0 : (x8_1 == (l1.length : Int)) = true := beq_iff_eq.mpr c26
              have c26b1 : (x8_1 != (l1.length : Int)) = false := bne_eq_false_iff_eq.mpr c26
              clear c26
              replace H := Option.bind_eq_some_iff.mp H
              obtain ⟨t372, A270, H⟩ := H
              replace H : (if t372 = true then (if 0 ≤ x8_1 then (if x8_1 < (x7_2.length : Int) then (if 0 ≤ x30_2 then (if x30_2 < ((rd_L5 x7_2 x8_1).length : Int) then (impl_Set_left_at_impl_Set_souths_1.l1 k2 l1 (x7_2.set (x8_1 : Int).toNat ((rd_L5 x7_2 x8_1).set (x30_2 : Int).toNat 1)) x8_1 a0_0 (wrap64 (x30_2 + 1)) a0_0 l0_1 a2_0_0 a2_1_0) else (none)) else (none)) else (none)) else (none)) else (impl_Set_left_at_impl_Set_souths_1.l1 k2 l1 x7_2 x8_1 a0_0 (wrap64 (x30_2 + 1)) a0_0 l0_1 a2_0_0 a2_1_0)) = some r := H
              have A27 := Aside0.mk A270
              clear A270
              by_cases c28 : t372 = true
              ·subst c28
               have H1 : (if 0 ≤ x8_1 then (if x8_1 < (x7_2.length : Int) then (if 0 ≤ x30_2 then (if x30_2 < ((rd_L5 x7_2 x8_1).length : Int) then (impl_Set_left_at_impl_Set_souths_1.l1 k2 l1 (x7_2.set (x8_1 : Int).toNat ((rd_L5 x7_2 x8_1).set (x30_2 : Int).toNat 1)) x8_1 a0_0 (wrap64 (x30_2 + 1)) a0_0 l0_1 a2_0_0 a2_1_0) else (none)) else (none)) else (none)) else (none)) = some r := by rw [if_pos rfl] at H; exact H
               clear H
               have H := H1
               clear H1
               by_cases c29 : 0 ≤ x8_1
               ·rw [if_pos c29] at H
                have c29b0 : decide (0 ≤ x8_1) = true := decide_eq_true c29
                clear c29
                by_cases c30 : x8_1 < (x7_2.length : Int)
                ·rw [if_pos c30] at H
                 have c30b0 : decide (x8_1 < (x7_2.length : Int)) = true := decide_eq_true c30
                 clear c30
                 by_cases c31 : 0 ≤ x30_2
                 ·rw [if_pos c31] at H
                  have c31b0 : decide (0 ≤ x30_2) = true := decide_eq_true c31
                  clear c31
                  by_cases c32 : x30_2 < ((rd_L5 x7_2 x8_1).length : Int)
                  ·rw [if_pos c32] at H
                   have c32b0 : decide (x30_2 < ((rd_L5 x7_2 x8_1).length : Int)) = true := decide_eq_true c32
                   clear c32
                   obtain ⟨y374, hy374⟩ : ∃ y_ : List Int, y_ = ((rd_L5 x7_2 x8_1).set (x30_2 : Int).toNat 1) := ⟨_, rfl⟩
                   replace H : (impl_Set_left_at_impl_Set_souths_1.l1 k2 l1 (x7_2.set (x8_1 : Int).toNat y374) x8_1 a0_0 (wrap64 (x30_2 + 1)) a0_0 l0_1 a2_0_0 a2_1_0) = some r := by first | (rw [hy374]; with_reducible exact H) | (have H2_ := (Option.bind_some _ _).symm.trans H; rw [hy374]; with_reducible exact H2_) | (have H2_ := (Option.bind_some _ _).symm.trans H; with_reducible exact H2_) | with_reducible exact H | (rw [hy374]; exact H) | exact H
                   have Ny374 := Aside0.mk hy374
                   clear hy374
                   obtain ⟨y376, hy376⟩ : ∃ y_ : List (List Int), y_ = (x7_2.set (x8_1 : Int).toNat y374) := ⟨_, rfl⟩
                   replace H : (impl_Set_left_at_impl_Set_souths_1.l1 k2 l1 y376 x8_1 a0_0 (wrap64 (x30_2 + 1)) a0_0 l0_1 a2_0_0 a2_1_0) = some r := by first | (rw [hy376]; with_reducible exact H) | (have H2_ := (Option.bind_some _ _).symm.trans H; rw [hy376]; with_reducible exact H2_) | (have H2_ := (Option.bind_some _ _).symm.trans H; with_reducible exact H2_) | with_reducible exact H | (rw [hy376]; exact H) | exact H
                   have Ny376 := Aside0.mk hy376
                   clear hy376
                   have H' := Aside0.mk H
                   clear H
                   try go_wp2_with fail
                   (with_reducible refine (impl_Set_souths_1.calls x30_2 g2_0_ a2_0_0 g2_1_ a2_1_0 true _ ?side1_q34 ?side2_q34 A27.out).mono ?_); (case side1_q34 => exact (by (with_reducible repeat (first | refine blk_drewN ?_ _ | refine blk_drew ?_ | refine blk_alloc ?_ _)); exact BK90040.out)); (case side2_q34 => exact (by (with_reducible repeat (first | refine blk_drewN ?_ _ | refine blk_drew ?_ | refine blk_alloc ?_ _)); exact BK90041.out))
                   rintro e w' ⟨rfl, ⟨nd, rfl⟩⟩
                   (try (rw [drewN_self wr]; generalize hq_ : World.drewN wr _ = wr; have n0_ : Aside0 (Kd.S (Kd.slice 2 (Kd.int .i64)) 34 wr w.heap.size (fun k_ => k_ ≠ g2_1_) (.slice (some ⟨go15, 0, none⟩) x7_2.length co15) x7_2) := ⟨by rw [← hq_]; exact (by (with_reducible repeat (first | apply Kd.S_alloc | apply Kd.S_drewN | apply Kd.S_drew)); exact HO_7.out)⟩; have n1_ : Aside0 (wr.heap[gb364]? = some (.cells #[.int .i64 a0_0, .slice A0_1 l0_1.length c0_1] 30 (0, 0))) := ⟨by rw [← hq_]; exact (by (with_reducible repeat (first | refine blk_drewN ?_ _ | refine blk_drew ?_ | refine blk_alloc ?_ _)); exact BK364.out)⟩; have n2_ : Aside0 (wr.heap[g2_0_]? = some (.cells #[.bool a2_0_0] 4 (0, 0))) := ⟨by rw [← hq_]; exact (by (with_reducible repeat (first | refine blk_drewN ?_ _ | refine blk_drew ?_ | refine blk_alloc ?_ _)); exact BK90040.out)⟩; have n3_ : Aside0 (wr.heap[g2_1_]? = some (.cells #[.int .i64 a2_1_0] 2 (0, 0))) := ⟨by rw [← hq_]; exact (by (with_reducible repeat (first | refine blk_drewN ?_ _ | refine blk_drew ?_ | refine blk_alloc ?_ _)); exact BK90041.out)⟩; have n4_ : Aside0 (Below w.heap.size w wr) := ⟨by rw [← hq_]; exact (by repeat (first | (with_reducible first | exact HB.out | apply below_alloc | apply pw_below_drewN | apply below_drew1 | refine below_set ?_ GE364.out) | exact HB.out))⟩; clear HO_7 BK364 BK90040 BK90041 HB hq_; have HO_7 := n0_; have BK364 := n1_; have BK90040 := n2_; have BK90041 := n3_; have HB := n4_; clear n0_ n1_ n2_ n3_ n4_))
                   have p373 : 0 ≤ (x8_1 : Int) := of_decide_eq_true (by first | (with_reducible assumption) | assumption)
                   have q373 : x8_1 < (x7_2.length : Int) := of_decide_eq_true (by first | (with_reducible assumption) | assumption)
                   obtain ⟨ad373, A373_0, c373_0, e373, hx373_0, hl373_0, hi373_0⟩ := at_L5 (Kd.S_reads' HO_7.out).2.2 x8_1 p373 q373
                   obtain rfl : (⟨go15, 0, none⟩ : Addr) = ad373 := (by injection e373)
                   obtain ⟨ce373, hce373, hMe373, hcc373⟩ := Kd.S_get HO_7.out [] x8_1 p373 (by first | exact q373 | exact of_decide_eq_true (by first | (with_reducible assumption) | assumption) | (have e_ := (Kd.S_reads' HO_7.out).1; omega))
                   obtain ⟨ve373_0, rfl, ge373_0⟩ := hMe373
                   have hv373_0 := hcc373 0 _ rfl
                   rw [Nat.add_zero, show ((Kd.slice 2 (Kd.int .i64))).sz = 1 from rfl, Nat.mul_one] at hv373_0
                   replace hv373_0 := Option.some.inj (hv373_0.symm.trans hx373_0)
                   rw [hv373_0] at ge373_0
                   have HL373_0 := Aside0.mk (show Kd.R (Kd.int .i64) 2 _ _ _ _ (rd_L5 x7_2 x8_1) from ge373_0)
                   clear hv373_0 ge373_0
                   have HX373_0 := Aside0.mk hx373_0
                   clear hcc373 hce373
                   (first | simp only [add_plain] at hx373_0 | simp only [add_at] at hx373_0 | simp only [Addr.add, Nat.zero_add] at hx373_0 | skip)
                   have HR373_0 := Aside0.mk hi373_0
                   have HC373_0 := Aside0.mk hl373_0
                   clear hi373_0 hl373_0
                   replace p373 := eq_true p373
                   replace q373 := eq_true q373
                   have p33 : 0 ≤ (x30_2 : Int) := of_decide_eq_true (by first | (with_reducible assumption) | assumption)
                   have q33 : (x30_2 : Int) < (((rd_L5 x7_2 x8_1).length : Int) : Int) := of_decide_eq_true (by first | (with_reducible assumption) | assumption)
                   obtain ⟨go33, co33, eo33, gb33, gl33, cl33, HG33⟩ := Kd.R_form HL373_0.out (by omega)
                   (first | cases eo33 | (injection eo33 with ea_ en_ ec_; (first | subst ea_ | (injection ea_ with ea_; subst ea_)); subst ec_; clear en_))
                   have GB33 := Aside0.mk gb33
                   have GG33 := Aside0.mk HG33
                   clear gb33 gl33 HG33
                   obtain ⟨hx33_0, hf33_0⟩ := Kd.R_celln 0 HL373_0.out (x30_2 : Int) p33 q33
                   replace p33 := eq_true p33
                   replace q33 := eq_true q33
                   have hq35 : (x8_1 : Int) < (x7_2.length : Int) := (by have h_ : (x8_1 : Int) < ((x7_2.length : Int) : Int) := of_decide_eq_true (by first | (with_reducible assumption) | assumption); first | exact h_ | (have e_ := (Kd.S_reads' HO_7.out).1; omega) | simpa only [List.length_set, List.length_set] using h_)
                   obtain ⟨oki35, ce35, hcl35, hM35, hcc35, hok35, hbk35⟩ := Kd.S_borrow HO_7.out [] (x8_1 : Int) (of_decide_eq_true (by first | (with_reducible assumption) | assumption)) hq35
                   obtain ⟨ve35_0, rfl, ge35_0⟩ := hM35
                   have hv35 := hcc35 0 _ rfl
                   rw [Nat.add_zero, show ((Kd.slice 2 (Kd.int .i64))).sz = 1 from rfl, Nat.mul_one] at hv35
                   replace hv35 := Option.some.inj (hv35.symm.trans HX373_0.out)
                   subst hv35
                   clear hcc35 hcl35
                   replace ge35_0 := (show Kd.R (Kd.int .i64) 2 _ _ _ _ (rd_L5 x7_2 x8_1) from ge35_0)
                   have HP35 := Kd.R_putg ge35_0 (x30_2 : Int) 1
                   try go_wp2_with (first | ((with_reducible refine gate_store (t := 2) (p := 47) rfl ?_); refine store_event (t := 2) (p := 47) (v := ?vo_w36) (w1 := (wr.setCell ⟨go33, (x30_2 : Int).toNat, none⟩ (.int .i64 1))) ?hg ?ho ?hn ?hr ?_; (case ho => rfl); (case hg => rfl); (case hn => rfl); (case hr => first | (go_simp; done) | (go_simp; rfl)); intro w36 hw; have hg : wr.grownBy w36 (some go33) := (by rw [hw]; exact HP35.2); have hz_ : Kd.R (Kd.int .i64) 2 w36 w.heap.size oki35 (.slice (some ⟨go33, 0, none⟩) (rd_L5 x7_2 x8_1).length c373_0) y374 := (by rw [hw, Ny374.out]; exact HP35.1); have hp_ : Kd.S (Kd.slice 2 (Kd.int .i64)) 34 w36 w.heap.size (fun k_ => k_ ≠ g2_1_) (.slice (some ⟨go15, 0, none⟩) x7_2.length co15) y376 := (by rw [Ny376.out]; exact hbk35 hg (fun k_ e_ => by injection e_ with e_; subst e_; exact ge35_0.1 _ rfl) (Kd.M_row hz_)); have hm_ := Kd.R_mono hz_ hok35; clear HP35 hbk35; have n0_ := Aside0.mk (hp_); have n1_ := Aside0.mk (blk_grown (g := g2_0_) (o := .cells #[.bool a2_0_0] 4 (0, 0)) (by (with_reducible repeat (first | refine blk_drewN ?_ _ | refine blk_drew ?_ | refine blk_alloc ?_ _)); exact BK90040.out) hg (Kd.R_ne HL373_0.out BK90040.out (by decide))); have n2_ := Aside0.mk (blk_grown (g := g2_1_) (o := .cells #[.int .i64 a2_1_0] 2 (0, 0)) (by (with_reducible repeat (first | refine blk_drewN ?_ _ | refine blk_drew ?_ | refine blk_alloc ?_ _)); exact BK90041.out) hg (Kd.R_away HL373_0.out (fun _ hk => hk.1))); have n3_ := Aside0.mk (blk_grown (g := gb364) (o := .cells #[.int .i64 a0_0, .slice A0_1 l0_1.length c0_1] 30 (0, 0)) (by (with_reducible repeat (first | refine blk_drewN ?_ _ | refine blk_drew ?_ | refine blk_alloc ?_ _)); exact BK364.out) hg (Kd.R_ne HL373_0.out BK364.out (by decide))); have n4_ := Aside0.mk ((by rw [hw]; exact below_set (HB.out) GB33.out : Below w.heap.size w w36)); have n5_ := Aside0.mk (hm_); have n6_ := Aside0.mk ((Kd.R_reads' hm_).2.1); clear HO_7; clear BK90040; clear BK90041; clear BK364; clear HB; clear HL373_0; have HO_7 := n0_; have BK90040 := n1_; have BK90041 := n2_; have BK364 := n3_; have HB := n4_; have HL388 := n5_; have HC375 := n6_; clear n0_ n1_ n2_ n3_ n4_ n5_ n6_; clear hg hw hp_ hz_ hm_ hok35))
                   (try simp only [← hl7_2])
                   go_roundg k2
                   case measure => have := HK1.out; have := HK2.out; omega
                   case rel => exact ⟨(y376), (wrap64 (x30_2 + 1)), (by first | rfl | (simp; done) | (simp [*]; done) | (simp; decide +kernel)), H', ⟨by have := HK1.out; have := HK2.out; omega⟩, ⟨by (try simp only [hl7_2]); (with_reducible repeat (first | apply Kd.S_alloc | apply Kd.S_drewN | apply Kd.S_drew)); exact HO_7.out⟩, ⟨by (try simp only [hl7_2]); (with_reducible repeat (first | refine blk_drewN ?_ _ | refine blk_drew ?_ | refine blk_alloc ?_ _)); exact BK90040.out⟩, ⟨by (try simp only [hl7_2]); (with_reducible repeat (first | refine blk_drewN ?_ _ | refine blk_drew ?_ | refine blk_alloc ?_ _)); exact BK90041.out⟩, ⟨by (try simp only [hl7_2]); (with_reducible repeat (first | refine blk_drewN ?_ _ | refine blk_drew ?_ | refine blk_alloc ?_ _)); exact BK364.out⟩, ⟨by repeat (first | (with_reducible first | exact HB.out | apply below_alloc | apply pw_below_drewN | apply below_drew1 | refine below_set ?_ GE364.out) | exact HB.out)⟩⟩
                  ·rw [if_neg c32] at H
                   exact absurd H (by simp)
                 ·rw [if_neg c31] at H
                  exact absurd H (by simp)
                ·rw [if_neg c30] at H
                 exact absurd H (by simp)
               ·rw [if_neg c29] at H
                exact absurd H (by simp)
              ·replace c28 := Bool.eq_false_iff.mpr c28
               subst c28
               have H1 : (impl_Set_left_at_impl_Set_souths_1.l1 k2 l1 x7_2 x8_1 a0_0 (wrap64 (x30_2 + 1)) a0_0 l0_1 a2_0_0 a2_1_0) = some r := by rw [if_neg (show ¬ (false = true) by decide)] at H; exact H
               clear H
               have H := H1
               clear H1
               have H' := Aside0.mk H
               clear H
               try go_wp2_with fail
               (with_reducible refine (impl_Set_souths_1.calls x30_2 g2_0_ a2_0_0 g2_1_ a2_1_0 false _ ?side1_q37 ?side2_q37 A27.out).mono ?_); (case side1_q37 => exact (by (with_reducible repeat (first | refine blk_drewN ?_ _ | refine blk_drew ?_ | refine blk_alloc ?_ _)); exact BK90040.out)); (case side2_q37 => exact (by (with_reducible repeat (first | refine blk_drewN ?_ _ | refine blk_drew ?_ | refine blk_alloc ?_ _)); exact BK90041.out))
               rintro e w' ⟨rfl, ⟨nd, rfl⟩⟩
               try go_wp2_with fail
               (try simp only [← hl7_2])
               go_roundg k2
               case measure => have := HK1.out; have := HK2.out; omega
               case rel => exact ⟨(x7_2), (wrap64 (x30_2 + 1)), (by first | rfl | (simp; done) | (simp [*]; done) | (simp; decide +kernel)), H', ⟨by have := HK1.out; have := HK2.out; omega⟩, ⟨by (try simp only [hl7_2]); (with_reducible repeat (first | apply Kd.S_alloc | apply Kd.S_drewN | apply Kd.S_drew)); exact HO_7.out⟩, ⟨by (try simp only [hl7_2]); (with_reducible repeat (first | refine blk_drewN ?_ _ | refine blk_drew ?_ | refine blk_alloc ?_ _)); exact BK90040.out⟩, ⟨by (try simp only [hl7_2]); (with_reducible repeat (first | refine blk_drewN ?_ _ | refine blk_drew ?_ | refine blk_alloc ?_ _)); exact BK90041.out⟩, ⟨by (try simp only [hl7_2]); (with_reducible repeat (first | refine blk_drewN ?_ _ | refine blk_drew ?_ | refine blk_alloc ?_ _)); exact BK364.out⟩, ⟨by repeat (first | (with_reducible first | exact HB.out | apply below_alloc | apply pw_below_drewN | apply below_drew1 | refine below_set ?_ GE364.out) | exact HB.out)⟩⟩
             ·rw [if_neg c26] at H
              have c26b0 : (x8_1 == (l1.length : Int)) = false := beq_eq_false_iff_ne.mpr c26
              have c26b1 : (x8_1 != (l1.length : Int)) = true := bne_iff_ne.mpr c26
              have H' := Aside0.mk H
              clear H
              go_wp2_with fail
              (try simp only [← hl7_2])
              go_roundg k2
              case measure => have := HK1.out; have := HK2.out; omega
              case rel => exact ⟨(x7_2), (wrap64 (x30_2 + 1)), (by first | rfl | (simp; done) | (simp [*]; done) | (simp; decide +kernel)), H', ⟨by have := HK1.out; have := HK2.out; omega⟩, ⟨by (try simp only [hl7_2]); (with_reducible repeat (first | apply Kd.S_alloc | apply Kd.S_drewN | apply Kd.S_drew)); exact HO_7.out⟩, ⟨by (try simp only [hl7_2]); (with_reducible repeat (first | refine blk_drewN ?_ _ | refine blk_drew ?_ | refine blk_alloc ?_ _)); exact BK90040.out⟩, ⟨by (try simp only [hl7_2]); (with_reducible repeat (first | refine blk_drewN ?_ _ | refine blk_drew ?_ | refine blk_alloc ?_ _)); exact BK90041.out⟩, ⟨by (try simp only [hl7_2]); (with_reducible repeat (first | refine blk_drewN ?_ _ | refine blk_drew ?_ | refine blk_alloc ?_ _)); exact BK364.out⟩, ⟨by repeat (first | (with_reducible first | exact HB.out | apply below_alloc | apply pw_below_drewN | apply below_drew1 | refine below_set ?_ GE364.out) | exact HB.out)⟩⟩
            ·rw [if_neg c25] at H
             have c25b0 : decide (x30_2 < a0_0) = false := decide_eq_false c25
             clear c25
             by_cases c38 : x8_1 = (l1.length : Int)
             ·rw [if_pos c38] at H
              have c38b0 : (x8_1 == (l1.length : Int)) = true := beq_iff_eq.mpr c38
              have c38b1 : (x8_1 != (l1.length : Int)) = false := bne_eq_false_iff_eq.mpr c38
              clear c38
              have H' := Aside0.mk H
              clear H
              go_wp2_with fail
              (try simp only [← hl7_2])
              go_roundg k2
              case measure => have := HK1.out; have := HK2.out; omega
              case rel => exact ⟨(x7_2), (wrap64 (x8_1 - 1)), (by first | rfl | (simp; done) | (simp [*]; done) | (simp; decide +kernel)), H', ⟨by have := HK1.out; have := HK2.out; omega⟩, ⟨by (try simp only [hl7_2]); (with_reducible repeat (first | apply Kd.S_alloc | apply Kd.S_drewN | apply Kd.S_drew)); exact HO_7.out⟩, ⟨by (try simp only [hl7_2]); (with_reducible repeat (first | refine blk_drewN ?_ _ | refine blk_drew ?_ | refine blk_alloc ?_ _)); exact BK90040.out⟩, ⟨by (try simp only [hl7_2]); (with_reducible repeat (first | refine blk_drewN ?_ _ | refine blk_drew ?_ | refine blk_alloc ?_ _)); exact BK90041.out⟩, ⟨by (try simp only [hl7_2]); (with_reducible repeat (first | refine blk_drewN ?_ _ | refine blk_drew ?_ | refine blk_alloc ?_ _)); exact BK364.out⟩, ⟨by repeat (first | (with_reducible first | exact HB.out | apply below_alloc | apply pw_below_drewN | apply below_drew1 | refine below_set ?_ GE364.out) | exact HB.out)⟩⟩
             ·rw [if_neg c38] at H
              have c38b0 : (x8_1 == (l1.length : Int)) = false := beq_eq_false_iff_ne.mpr c38
              have c38b1 : (x8_1 != (l1.length : Int)) = true := bne_iff_ne.mpr c38
              have H' := Aside0.mk H
              clear H
              have hnb39 := NB364_90040.out
              have hnc39 := NB90040_364.out
              have hnb40 := NB364_90041.out
              have hnc40 := NB90041_364.out
              have hcz41_0 : wr.cell? ⟨gb364, 0, none⟩ = some (.int .i64 a0_0) := (blk_cell BK364.out 0).trans rfl
              have hcz41_1 : wr.cell? ⟨gb364, 1, none⟩ = some (.slice A0_1 l0_1.length c0_1) := (blk_cell BK364.out 1).trans rfl
              have hfz41_0 := blk_frozen BK364.out 0
              have hfz41_1 := blk_frozen BK364.out 1
              go_wp2_with fail
              go_loopg [56] k2 (fun kq v56 w' => ∃ (x7_3 : List (List Int)) (x56_3 : Int), v56 = .int .i64 x56_3 ∧ Aside0 (impl_Set_left_at_impl_Set_souths_1.l2 kq l1 x7_3 x8_1 l0_1 (l0_1.length : Int) x56_3 a0_0 l0_1 a2_0_0 a2_1_0 = some r) ∧ Aside0 (kq ≤ k2) ∧ Aside0 (Kd.S (Kd.slice 2 (Kd.int .i64)) 34 w' w.heap.size (fun k_ => k_ ≠ g2_1_) (.slice (some ⟨go15, 0, none⟩) x7_2.length co15) x7_3) ∧ Aside0 (w'.heap[g2_0_]? = some (.cells #[.bool a2_0_0] 4 (0, 0))) ∧ Aside0 (w'.heap[g2_1_]? = some (.cells #[.int .i64 a2_1_0] 2 (0, 0))) ∧ Aside0 (w'.heap[gb364]? = some (.cells #[.int .i64 a0_0, (.slice A0_1 l0_1.length c0_1)] 30 (0, 0))) ∧ Aside0 (Below w.heap.size w w'))
              case atStart => exact ⟨(x7_2), (0), (by first | rfl | (simp; done) | (simp [*]; done) | (simp; decide +kernel)), H', ⟨Nat.le_refl _⟩, ⟨by (try simp only [hl7_2]); (with_reducible repeat (first | apply Kd.S_alloc | apply Kd.S_drewN | apply Kd.S_drew)); exact HO_7.out⟩, ⟨by (try simp only [hl7_2]); (with_reducible repeat (first | refine blk_drewN ?_ _ | refine blk_drew ?_ | refine blk_alloc ?_ _)); exact BK90040.out⟩, ⟨by (try simp only [hl7_2]); (with_reducible repeat (first | refine blk_drewN ?_ _ | refine blk_drew ?_ | refine blk_alloc ?_ _)); exact BK90041.out⟩, ⟨by (try simp only [hl7_2]); (with_reducible repeat (first | refine blk_drewN ?_ _ | refine blk_drew ?_ | refine blk_alloc ?_ _)); exact BK364.out⟩, ⟨by repeat (first | (with_reducible first | exact HB.out | apply below_alloc | apply pw_below_drewN | apply below_drew1 | refine below_set ?_ GE364.out) | exact HB.out)⟩⟩
              case round =>
               clear H'
               try clear c1
               try clear p1
               try clear q1
               try clear hx1
               try clear c2
               try clear p2
               try clear hx2
               try clear c3
               try clear p3
               try clear q3
               try clear hx3
               try clear hf3
               try clear c4
               try clear c5
               try clear c5b0
               try clear c5b1
               try clear c6
               try clear c6b0
               try clear c6b1
               try clear p6
               try clear c10
               try clear c10b0
               try clear c11
               try clear c11b0
               try clear c11b1
               try clear c12
               try clear c12b0
               try clear c12b1
               try clear c13
               try clear c13b0
               try clear c14
               try clear c14b0
               try clear c15
               try clear p15
               try clear q15
               try clear hx15
               try clear hf15
               try clear c16
               try clear c17
               try clear c21
               try clear hx21
               try clear hf21
               try clear c25
               try clear c25b0
               try clear c26
               try clear c26b0
               try clear c26b1
               try clear c28
               try clear c29
               try clear c29b0
               try clear c30
               try clear c30b0
               try clear c31
               try clear c31b0
               try clear c32
               try clear c32b0
               try clear p33
               try clear q33
               try clear hx33
               try clear hf33
               try clear q34
               try clear c35
               try clear q35
               try clear c37
               try clear p37
               try clear q37
               try clear hx37
               try clear c38
               try clear c38b0
               try clear c38b1
               try clear c39
               try clear c40
               try clear hcz18_0
               try clear hcz18_1
               try clear hcz24_0
               try clear hcz24_1
               try clear hcz41_0
               try clear hcz41_1
               try clear hfz18_0
               try clear hfz18_1
               try clear hfz24_0
               try clear hfz24_1
               try clear hfz41_0
               try clear hfz41_1
               try clear hx15_0
               try clear hx21_0
               try clear hx33_0
               try clear hx373_0
               try clear p1
               try clear p15
               try clear p2
               try clear p33
               try clear p373
               try clear p6
               try clear q1
               try clear q15
               try clear q33
               try clear q373
               obtain ⟨x7_3, x56_3, rfl, HA, HK3, HO_7, BK90040, BK90041, BK364, HB⟩ := hrel
               have hl7_3 := (Kd.S_reads' HO_7.out).1
               rw [hl7_3] at HO_7
               (try simp only [hl7_3])
               (try simp only [hl7_3] at BK90040)
               (try simp only [hl7_3] at BK90041)
               (try simp only [hl7_3] at BK364)
               cases gk with
               | zero => exact absurd HA.out (by simp [impl_Set_left_at_impl_Set_souths_1.l2])
               | succ k3 =>
                have H := HA.out
                clear HA
                simp only [impl_Set_left_at_impl_Set_souths_1.l2] at H
                by_cases c42 : x56_3 < (l0_1.length : Int)
                ·rw [if_pos c42] at H
                 have c42b0 : decide (x56_3 < (l0_1.length : Int)) = true := decide_eq_true c42
                 clear c42
                 by_cases c43 : 0 ≤ x56_3
                 ·rw [if_pos c43] at H
                  have c43b0 : decide (0 ≤ x56_3) = true := decide_eq_true c43
                  clear c43
                  by_cases c44 : x56_3 < (l0_1.length : Int)
                  ·rw [if_pos c44] at H
                   have c44b0 : decide (x56_3 < (l0_1.length : Int)) = true := decide_eq_true c44
                   clear c44
                   by_cases c45 : 0 ≤ x8_1
                   ·rw [if_pos c45] at H
                    have c45b0 : decide (0 ≤ x8_1) = true := decide_eq_true c45
                    clear c45
                    by_cases c46 : x8_1 < (l1.length : Int)
                    ·rw [if_pos c46] at H
                     have c46b0 : decide (x8_1 < (l1.length : Int)) = true := decide_eq_true c46
                     clear c46
                     by_cases c47 : ((rd_T77 l0_1 x56_3).f1) = (rd l1 x8_1)
                     ·rw [if_pos c47] at H
                      have c47b0 : (((rd_T77 l0_1 x56_3).f1) == (rd l1 x8_1)) = true := beq_iff_eq.mpr c47
                      have c47b1 : (((rd_T77 l0_1 x56_3).f1) != (rd l1 x8_1)) = false := bne_eq_false_iff_eq.mpr c47
                      clear c47
                      by_cases c48 : x8_1 < (x7_3.length : Int)
                      ·rw [if_pos c48] at H
                       have c48b0 : decide (x8_1 < (x7_3.length : Int)) = true := decide_eq_true c48
                       clear c48
                       by_cases c49 : 0 ≤ ((rd_T77 l0_1 x56_3).f0)
                       ·rw [if_pos c49] at H
                        have c49b0 : decide (0 ≤ ((rd_T77 l0_1 x56_3).f0)) = true := decide_eq_true c49
                        clear c49
                        by_cases c50 : ((rd_T77 l0_1 x56_3).f0) < ((rd_L5 x7_3 x8_1).length : Int)
                        ·rw [if_pos c50] at H
                         have c50b0 : decide (((rd_T77 l0_1 x56_3).f0) < ((rd_L5 x7_3 x8_1).length : Int)) = true := decide_eq_true c50
                         clear c50
                         obtain ⟨ji51, hji51⟩ : ∃ j_ : Int, (wrap64 (x8_1 + 1)) = j_ := ⟨_, rfl⟩
                         replace H : (if 0 ≤ (ji51) then (if (ji51) < (x7_3.length : Int) then (if 0 ≤ ((rd_T77 l0_1 x56_3).f2) then (if ((rd_T77 l0_1 x56_3).f2) < ((rd_L5 x7_3 (ji51)).length : Int) then (impl_Set_left_at_impl_Set_souths_1.l2 k3 l1 (x7_3.set (x8_1 : Int).toNat ((rd_L5 x7_3 x8_1).set (((rd_T77 l0_1 x56_3).f0) : Int).toNat (mn 1000000000000001 (wrap64 ((rd (rd_L5 x7_3 x8_1) ((rd_T77 l0_1 x56_3).f0)) + (rd (rd_L5 x7_3 (ji51)) ((rd_T77 l0_1 x56_3).f2))))))) x8_1 l0_1 (l0_1.length : Int) (wrap64 (x56_3 + 1)) a0_0 l0_1 a2_0_0 a2_1_0) else (none)) else (none)) else (none)) else (none)) = some r := by first | (rw [hji51] at H; exact H) | (simp only [hji51] at H ⊢; exact H)
                         have hji51w : (IntKind.i64.wrap (x8_1 + 1)) = ji51 := (i64_w _).trans hji51
                         by_cases c52 : 0 ≤ (ji51)
                         ·rw [if_pos c52] at H
                          have c52b0 : decide (0 ≤ (ji51)) = true := decide_eq_true c52
                          clear c52
                          by_cases c53 : (ji51) < (x7_3.length : Int)
                          ·rw [if_pos c53] at H
                           have c53b0 : decide ((ji51) < (x7_3.length : Int)) = true := decide_eq_true c53
                           clear c53
                           by_cases c54 : 0 ≤ ((rd_T77 l0_1 x56_3).f2)
                           ·rw [if_pos c54] at H
                            have c54b0 : decide (0 ≤ ((rd_T77 l0_1 x56_3).f2)) = true := decide_eq_true c54
                            clear c54
                            by_cases c55 : ((rd_T77 l0_1 x56_3).f2) < ((rd_L5 x7_3 (ji51)).length : Int)
                            ·rw [if_pos c55] at H
                             have c55b0 : decide (((rd_T77 l0_1 x56_3).f2) < ((rd_L5 x7_3 (ji51)).length : Int)) = true := decide_eq_true c55
                             clear c55
                             obtain ⟨ji56, hji56⟩ : ∃ j_ : Int, (mn 1000000000000001 (wrap64 ((rd (rd_L5 x7_3 x8_1) ((rd_T77 l0_1 x56_3).f0)) + (rd (rd_L5 x7_3 (ji51)) ((rd_T77 l0_1 x56_3).f2))))) = j_ := ⟨_, rfl⟩
                             replace H : (impl_Set_left_at_impl_Set_souths_1.l2 k3 l1 (x7_3.set (x8_1 : Int).toNat ((rd_L5 x7_3 x8_1).set (((rd_T77 l0_1 x56_3).f0) : Int).toNat (ji56))) x8_1 l0_1 (l0_1.length : Int) (wrap64 (x56_3 + 1)) a0_0 l0_1 a2_0_0 a2_1_0) = some r := by first | (rw [hji56] at H; exact H) | (simp only [hji56] at H ⊢; exact H)
                             have hji56_ : (if (wrap64 ((rd (rd_L5 x7_3 x8_1) ((rd_T77 l0_1 x56_3).f0)) + (rd (rd_L5 x7_3 (ji51)) ((rd_T77 l0_1 x56_3).f2)))) < 1000000000000001 then (wrap64 ((rd (rd_L5 x7_3 x8_1) ((rd_T77 l0_1 x56_3).f0)) + (rd (rd_L5 x7_3 (ji51)) ((rd_T77 l0_1 x56_3).f2)))) else 1000000000000001) = ji56 := hji56
                             obtain ⟨y385, hy385⟩ : ∃ y_ : List Int, y_ = ((rd_L5 x7_3 x8_1).set (((rd_T77 l0_1 x56_3).f0) : Int).toNat (ji56)) := ⟨_, rfl⟩
                             replace H : (impl_Set_left_at_impl_Set_souths_1.l2 k3 l1 (x7_3.set (x8_1 : Int).toNat y385) x8_1 l0_1 (l0_1.length : Int) (wrap64 (x56_3 + 1)) a0_0 l0_1 a2_0_0 a2_1_0) = some r := by first | (rw [hy385]; with_reducible exact H) | (have H2_ := (Option.bind_some _ _).symm.trans H; rw [hy385]; with_reducible exact H2_) | (have H2_ := (Option.bind_some _ _).symm.trans H; with_reducible exact H2_) | with_reducible exact H | (rw [hy385]; exact H) | exact H
                             have Ny385 := Aside0.mk hy385
                             clear hy385
                             obtain ⟨y387, hy387⟩ : ∃ y_ : List (List Int), y_ = (x7_3.set (x8_1 : Int).toNat y385) := ⟨_, rfl⟩
                             replace H : (impl_Set_left_at_impl_Set_souths_1.l2 k3 l1 y387 x8_1 l0_1 (l0_1.length : Int) (wrap64 (x56_3 + 1)) a0_0 l0_1 a2_0_0 a2_1_0) = some r := by first | (rw [hy387]; with_reducible exact H) | (have H2_ := (Option.bind_some _ _).symm.trans H; rw [hy387]; with_reducible exact H2_) | (have H2_ := (Option.bind_some _ _).symm.trans H; with_reducible exact H2_) | with_reducible exact H | (rw [hy387]; exact H) | exact H
                             have Ny387 := Aside0.mk hy387
                             clear hy387
                             have H' := Aside0.mk H
                             clear H
                             have p377 : 0 ≤ (x56_3 : Int) := of_decide_eq_true (by first | (with_reducible assumption) | assumption)
                             have q377 : x56_3 < (l0_1.length : Int) := of_decide_eq_true (by first | (with_reducible assumption) | assumption)
                             obtain ⟨ad377, e377, hx377_0, hx377_1, hx377_2, hx377_3⟩ := at_T77 HR0_1.out x56_3 p377 q377
                             cases e377
                             replace hx377_0 := (HB.out.cell (World.block_lt_of_cell? w _ hx377_0)).trans hx377_0
                             replace hx377_1 := (HB.out.cell (World.block_lt_of_cell? w _ hx377_1)).trans hx377_1
                             replace hx377_2 := (HB.out.cell (World.block_lt_of_cell? w _ hx377_2)).trans hx377_2
                             replace hx377_3 := (HB.out.cell (World.block_lt_of_cell? w _ hx377_3)).trans hx377_3
                             replace p377 := eq_true p377
                             replace q377 := eq_true q377
                             try go_wp2_with (first | ((with_reducible refine gate_dst (N := 11) rfl ?_); refine box_event ?hg (N := 11) ?hd (cs := #[.int .i64 0, .int .i64 0, .int .i64 0, .int .i64 0]) (t := 77) ?hr ?_; (case hd => rfl); (case hg => rfl); (case hr => first | (go_simp; done) | (go_simp; rfl)); intro gb378 hg w58 hbox hb; have n0_ := Aside0.mk (Kd.S_below (by (with_reducible repeat (first | apply Kd.S_alloc | apply Kd.S_drewN | apply Kd.S_drew)); exact HO_7.out) hb); have n1_ := Aside0.mk (blk_below (g := g2_0_) (o := .cells #[.bool a2_0_0] 4 (0, 0)) (by (with_reducible repeat (first | refine blk_drewN ?_ _ | refine blk_drew ?_ | refine blk_alloc ?_ _)); exact BK90040.out) hb); have n2_ := Aside0.mk (blk_below (g := g2_1_) (o := .cells #[.int .i64 a2_1_0] 2 (0, 0)) (by (with_reducible repeat (first | refine blk_drewN ?_ _ | refine blk_drew ?_ | refine blk_alloc ?_ _)); exact BK90041.out) hb); have n3_ := Aside0.mk (blk_below (g := gb364) (o := .cells #[.int .i64 a0_0, .slice (some ad377) l0_1.length c0_1] 30 (0, 0)) (by (with_reducible repeat (first | refine blk_drewN ?_ _ | refine blk_drew ?_ | refine blk_alloc ?_ _)); exact BK364.out) hb); have n4_ := Aside0.mk (below_step (by repeat (first | (with_reducible first | exact HB.out | apply below_alloc | apply pw_below_drewN | apply below_drew1 | refine below_set ?_ GE364.out) | exact HB.out)) hb); have n5_ := Aside0.mk (hbox); have n6_ := Aside0.mk ((by rw [hg]; exact (below_size (by repeat (first | (with_reducible first | exact HB.out | apply below_alloc | apply pw_below_drewN | apply below_drew1 | refine below_set ?_ GE364.out) | exact HB.out))) : w.heap.size ≤ gb378)); have n7_ := Aside0.mk ((by rw [hg]; exact (below_size (by repeat (first | (with_reducible first | exact HB.out | apply below_alloc | apply pw_below_drewN | apply below_drew1 | refine below_set ?_ GE364.out) | exact HB.out))) : w.heap.size ≤ gb378)); have n8_ := Aside0.mk ((by rw [hg]; exact Nat.ne_of_lt (blk_lt (g := g2_0_) (o := .cells #[.bool a2_0_0] 4 (0, 0)) (by (with_reducible repeat (first | refine blk_drewN ?_ _ | refine blk_drew ?_ | refine blk_alloc ?_ _)); exact BK90040.out)) : g2_0_ ≠ gb378)); have n9_ := Aside0.mk ((by rw [hg]; exact Nat.ne_of_gt (blk_lt (g := g2_0_) (o := .cells #[.bool a2_0_0] 4 (0, 0)) (by (with_reducible repeat (first | refine blk_drewN ?_ _ | refine blk_drew ?_ | refine blk_alloc ?_ _)); exact BK90040.out)) : gb378 ≠ g2_0_)); have n10_ := Aside0.mk ((by rw [hg]; exact Nat.ne_of_lt (blk_lt (g := g2_1_) (o := .cells #[.int .i64 a2_1_0] 2 (0, 0)) (by (with_reducible repeat (first | refine blk_drewN ?_ _ | refine blk_drew ?_ | refine blk_alloc ?_ _)); exact BK90041.out)) : g2_1_ ≠ gb378)); have n11_ := Aside0.mk ((by rw [hg]; exact Nat.ne_of_gt (blk_lt (g := g2_1_) (o := .cells #[.int .i64 a2_1_0] 2 (0, 0)) (by (with_reducible repeat (first | refine blk_drewN ?_ _ | refine blk_drew ?_ | refine blk_alloc ?_ _)); exact BK90041.out)) : gb378 ≠ g2_1_)); have n12_ := Aside0.mk ((by rw [hg]; exact Nat.ne_of_lt (blk_lt (g := gb364) (o := .cells #[.int .i64 a0_0, .slice (some ad377) l0_1.length c0_1] 30 (0, 0)) (by (with_reducible repeat (first | refine blk_drewN ?_ _ | refine blk_drew ?_ | refine blk_alloc ?_ _)); exact BK364.out)) : gb364 ≠ gb378)); have n13_ := Aside0.mk ((by rw [hg]; exact Nat.ne_of_gt (blk_lt (g := gb364) (o := .cells #[.int .i64 a0_0, .slice (some ad377) l0_1.length c0_1] 30 (0, 0)) (by (with_reducible repeat (first | refine blk_drewN ?_ _ | refine blk_drew ?_ | refine blk_alloc ?_ _)); exact BK364.out)) : gb378 ≠ gb364)); clear HO_7; clear BK90040; clear BK90041; clear BK364; clear HB; have HO_7 := n0_; have BK90040 := n1_; have BK90041 := n2_; have BK364 := n3_; have HB := n4_; have BK378 := n5_; have GW378 := n6_; have GE378 := n7_; have NB90040_378 := n8_; have NB378_90040 := n9_; have NB90041_378 := n10_; have NB378_90041 := n11_; have NB364_378 := n12_; have NB378_364 := n13_; clear n0_ n1_ n2_ n3_ n4_ n5_ n6_ n7_ n8_ n9_ n10_ n11_ n12_ n13_; clear hb hbox hg; have hnb59 := NB378_90040.out; have hnc59 := NB90040_378.out; have hnb60 := NB378_90041.out; have hnc60 := NB90041_378.out; have hnb61 := NB378_364.out; have hnc61 := NB364_378.out; have hcz62_0 : w58.cell? ⟨gb378, 0, none⟩ = some (.int .i64 0) := (blk_cell BK378.out 0).trans rfl; have hcz62_1 : w58.cell? ⟨gb378, 1, none⟩ = some (.int .i64 0) := (blk_cell BK378.out 1).trans rfl; have hcz62_2 : w58.cell? ⟨gb378, 2, none⟩ = some (.int .i64 0) := (blk_cell BK378.out 2).trans rfl; have hcz62_3 : w58.cell? ⟨gb378, 3, none⟩ = some (.int .i64 0) := (blk_cell BK378.out 3).trans rfl; have hfz62_0 := blk_frozen BK378.out 0; have hfz62_1 := blk_frozen BK378.out 1; have hfz62_2 := blk_frozen BK378.out 2; have hfz62_3 := blk_frozen BK378.out 3))
                             have n0_ : Aside0 (Kd.S (Kd.slice 2 (Kd.int .i64)) 34 ((((w58.setCell ⟨gb378, 0, none⟩ (.int .i64 ((rd_T77 l0_1 x56_3).f0))).setCell ⟨gb378, 1, none⟩ (.int .i64 ((rd_T77 l0_1 x56_3).f1))).setCell ⟨gb378, 2, none⟩ (.int .i64 ((rd_T77 l0_1 x56_3).f2))).setCell ⟨gb378, 3, none⟩ (.int .i64 ((rd_T77 l0_1 x56_3).f3))) w.heap.size (fun k_ => k_ ≠ g2_1_) (.slice (some ⟨go15, 0, none⟩) x7_3.length co15) x7_3) := ⟨by (with_reducible repeat (first | apply Kd.S_alloc | apply Kd.S_drewN | apply Kd.S_drew)); exact Kd.S_mono (Kd.S_far (p := ⟨gb378, 3, none⟩) (Kd.S_far (p := ⟨gb378, 2, none⟩) (Kd.S_far (p := ⟨gb378, 1, none⟩) (Kd.S_far (p := ⟨gb378, 0, none⟩) (Kd.S_types HO_7.out BK378.out (by decide)) (fun _ hk => hk.2) (.int .i64 ((rd_T77 l0_1 x56_3).f0))) (fun _ hk => hk.2) (.int .i64 ((rd_T77 l0_1 x56_3).f1))) (fun _ hk => hk.2) (.int .i64 ((rd_T77 l0_1 x56_3).f2))) (fun _ hk => hk.2) (.int .i64 ((rd_T77 l0_1 x56_3).f3))) (fun _ hk => hk.1)⟩
                             have n1_ : Aside0 (((((w58.setCell ⟨gb378, 0, none⟩ (.int .i64 ((rd_T77 l0_1 x56_3).f0))).setCell ⟨gb378, 1, none⟩ (.int .i64 ((rd_T77 l0_1 x56_3).f1))).setCell ⟨gb378, 2, none⟩ (.int .i64 ((rd_T77 l0_1 x56_3).f2))).setCell ⟨gb378, 3, none⟩ (.int .i64 ((rd_T77 l0_1 x56_3).f3))).heap[g2_0_]? = some (.cells #[.bool a2_0_0] 4 (0, 0))) := ⟨by (with_reducible repeat (first | refine blk_drewN ?_ _ | refine blk_drew ?_ | refine blk_alloc ?_ _)); refine blk_far ?_ NB90040_378.out _; (with_reducible repeat (first | refine blk_drewN ?_ _ | refine blk_drew ?_ | refine blk_alloc ?_ _)); refine blk_far ?_ NB90040_378.out _; (with_reducible repeat (first | refine blk_drewN ?_ _ | refine blk_drew ?_ | refine blk_alloc ?_ _)); refine blk_far ?_ NB90040_378.out _; (with_reducible repeat (first | refine blk_drewN ?_ _ | refine blk_drew ?_ | refine blk_alloc ?_ _)); refine blk_far ?_ NB90040_378.out _; (with_reducible repeat (first | refine blk_drewN ?_ _ | refine blk_drew ?_ | refine blk_alloc ?_ _)); exact BK90040.out⟩
                             have n2_ : Aside0 (((((w58.setCell ⟨gb378, 0, none⟩ (.int .i64 ((rd_T77 l0_1 x56_3).f0))).setCell ⟨gb378, 1, none⟩ (.int .i64 ((rd_T77 l0_1 x56_3).f1))).setCell ⟨gb378, 2, none⟩ (.int .i64 ((rd_T77 l0_1 x56_3).f2))).setCell ⟨gb378, 3, none⟩ (.int .i64 ((rd_T77 l0_1 x56_3).f3))).heap[g2_1_]? = some (.cells #[.int .i64 a2_1_0] 2 (0, 0))) := ⟨by (with_reducible repeat (first | refine blk_drewN ?_ _ | refine blk_drew ?_ | refine blk_alloc ?_ _)); refine blk_far ?_ NB90041_378.out _; (with_reducible repeat (first | refine blk_drewN ?_ _ | refine blk_drew ?_ | refine blk_alloc ?_ _)); refine blk_far ?_ NB90041_378.out _; (with_reducible repeat (first | refine blk_drewN ?_ _ | refine blk_drew ?_ | refine blk_alloc ?_ _)); refine blk_far ?_ NB90041_378.out _; (with_reducible repeat (first | refine blk_drewN ?_ _ | refine blk_drew ?_ | refine blk_alloc ?_ _)); refine blk_far ?_ NB90041_378.out _; (with_reducible repeat (first | refine blk_drewN ?_ _ | refine blk_drew ?_ | refine blk_alloc ?_ _)); exact BK90041.out⟩
                             have n3_ : Aside0 (((((w58.setCell ⟨gb378, 0, none⟩ (.int .i64 ((rd_T77 l0_1 x56_3).f0))).setCell ⟨gb378, 1, none⟩ (.int .i64 ((rd_T77 l0_1 x56_3).f1))).setCell ⟨gb378, 2, none⟩ (.int .i64 ((rd_T77 l0_1 x56_3).f2))).setCell ⟨gb378, 3, none⟩ (.int .i64 ((rd_T77 l0_1 x56_3).f3))).heap[gb364]? = some (.cells #[.int .i64 a0_0, .slice (some ad377) l0_1.length c0_1] 30 (0, 0))) := ⟨by (with_reducible repeat (first | refine blk_drewN ?_ _ | refine blk_drew ?_ | refine blk_alloc ?_ _)); refine blk_far ?_ NB364_378.out _; (with_reducible repeat (first | refine blk_drewN ?_ _ | refine blk_drew ?_ | refine blk_alloc ?_ _)); refine blk_far ?_ NB364_378.out _; (with_reducible repeat (first | refine blk_drewN ?_ _ | refine blk_drew ?_ | refine blk_alloc ?_ _)); refine blk_far ?_ NB364_378.out _; (with_reducible repeat (first | refine blk_drewN ?_ _ | refine blk_drew ?_ | refine blk_alloc ?_ _)); refine blk_far ?_ NB364_378.out _; (with_reducible repeat (first | refine blk_drewN ?_ _ | refine blk_drew ?_ | refine blk_alloc ?_ _)); exact BK364.out⟩
                             have n4_ : Aside0 (((((w58.setCell ⟨gb378, 0, none⟩ (.int .i64 ((rd_T77 l0_1 x56_3).f0))).setCell ⟨gb378, 1, none⟩ (.int .i64 ((rd_T77 l0_1 x56_3).f1))).setCell ⟨gb378, 2, none⟩ (.int .i64 ((rd_T77 l0_1 x56_3).f2))).setCell ⟨gb378, 3, none⟩ (.int .i64 ((rd_T77 l0_1 x56_3).f3))).heap[gb378]? = some (.cells #[.int .i64 ((rd_T77 l0_1 x56_3).f0), .int .i64 ((rd_T77 l0_1 x56_3).f1), .int .i64 ((rd_T77 l0_1 x56_3).f2), .int .i64 ((rd_T77 l0_1 x56_3).f3)] 77 (0, 0))) := ⟨by (with_reducible repeat (first | refine blk_drewN ?_ _ | refine blk_drew ?_ | refine blk_alloc ?_ _)); refine blk_put (cs := #[.int .i64 ((rd_T77 l0_1 x56_3).f0), .int .i64 ((rd_T77 l0_1 x56_3).f1), .int .i64 ((rd_T77 l0_1 x56_3).f2), .int .i64 0]) ?_ 3 _ rfl; (with_reducible repeat (first | refine blk_drewN ?_ _ | refine blk_drew ?_ | refine blk_alloc ?_ _)); refine blk_put (cs := #[.int .i64 ((rd_T77 l0_1 x56_3).f0), .int .i64 ((rd_T77 l0_1 x56_3).f1), .int .i64 0, .int .i64 0]) ?_ 2 _ rfl; (with_reducible repeat (first | refine blk_drewN ?_ _ | refine blk_drew ?_ | refine blk_alloc ?_ _)); refine blk_put (cs := #[.int .i64 ((rd_T77 l0_1 x56_3).f0), .int .i64 0, .int .i64 0, .int .i64 0]) ?_ 1 _ rfl; (with_reducible repeat (first | refine blk_drewN ?_ _ | refine blk_drew ?_ | refine blk_alloc ?_ _)); refine blk_put (cs := #[.int .i64 0, .int .i64 0, .int .i64 0, .int .i64 0]) ?_ 0 _ rfl; (with_reducible repeat (first | refine blk_drewN ?_ _ | refine blk_drew ?_ | refine blk_alloc ?_ _)); exact BK378.out⟩
                             have n5_ : Aside0 (Below w.heap.size w ((((w58.setCell ⟨gb378, 0, none⟩ (.int .i64 ((rd_T77 l0_1 x56_3).f0))).setCell ⟨gb378, 1, none⟩ (.int .i64 ((rd_T77 l0_1 x56_3).f1))).setCell ⟨gb378, 2, none⟩ (.int .i64 ((rd_T77 l0_1 x56_3).f2))).setCell ⟨gb378, 3, none⟩ (.int .i64 ((rd_T77 l0_1 x56_3).f3)))) := ⟨by repeat (first | (with_reducible first | exact HB.out | apply below_alloc | apply pw_below_drewN | apply below_drew1 | refine below_set ?_ GE364.out | refine below_set ?_ GE378.out) | exact HB.out)⟩
                             (try clear HO_7)
                             (try clear BK90040)
                             (try clear BK90041)
                             (try clear BK364)
                             (try clear BK378)
                             (try clear HB)
                             generalize ((((w58.setCell ⟨gb378, 0, none⟩ (.int .i64 ((rd_T77 l0_1 x56_3).f0))).setCell ⟨gb378, 1, none⟩ (.int .i64 ((rd_T77 l0_1 x56_3).f1))).setCell ⟨gb378, 2, none⟩ (.int .i64 ((rd_T77 l0_1 x56_3).f2))).setCell ⟨gb378, 3, none⟩ (.int .i64 ((rd_T77 l0_1 x56_3).f3))) = w63 at n0_ n1_ n2_ n3_ n4_ n5_ ⊢
                             have HO_7 := n0_
                             have BK90040 := n1_
                             have BK90041 := n2_
                             have BK364 := n3_
                             have BK378 := n4_
                             have HB := n5_
                             clear n0_ n1_ n2_ n3_ n4_ n5_
                             have n0_ := Aside0.mk (Kd.S_drew HO_7.out)
                             have n1_ := Aside0.mk (blk_drew BK90040.out)
                             have n2_ := Aside0.mk (blk_drew BK90041.out)
                             have n3_ := Aside0.mk (blk_drew BK364.out)
                             have n4_ := Aside0.mk (blk_drew BK378.out)
                             have n5_ := Aside0.mk (below_drew1 HB.out)
                             clear HO_7
                             clear BK90040
                             clear BK90041
                             clear BK364
                             clear BK378
                             clear HB
                             have HO_7 := n0_
                             have BK90040 := n1_
                             have BK90041 := n2_
                             have BK364 := n3_
                             have BK378 := n4_
                             have HB := n5_
                             clear n0_ n1_ n2_ n3_ n4_ n5_
                             have p379 : 0 ≤ (x8_1 : Int) := of_decide_eq_true (by first | (with_reducible assumption) | assumption)
                             have q379 : x8_1 < (l1.length : Int) := of_decide_eq_true (by first | (with_reducible assumption) | assumption)
                             obtain ⟨ad379, e379, hx379_0⟩ := Kd.at_int HR1.out x8_1 p379 q379
                             have hw379_0 := hx379_0
                             cases e379
                             replace hx379_0 := (HB.out.cell (World.block_lt_of_cell? w _ hx379_0)).trans hx379_0
                             replace p379 := eq_true p379
                             replace q379 := eq_true q379
                             refine start_ (n := 7) (S := fun w' => w'.cell? ⟨gb378, 0, none⟩ = some (.int .i64 ((rd_T77 l0_1 x56_3).f0)) ∧ w'.cell? ⟨gb378, 1, none⟩ = some (.int .i64 ((rd_T77 l0_1 x56_3).f1)) ∧ w'.cell? ⟨gb378, 2, none⟩ = some (.int .i64 ((rd_T77 l0_1 x56_3).f2)) ∧ w'.cell? ⟨gb378, 3, none⟩ = some (.int .i64 ((rd_T77 l0_1 x56_3).f3)) ∧ w'.cell? (ad379.add (x8_1).toNat) = some (.int .i64 (rd l1 x8_1))) (ds := []) #[false, false, false, false, false, false, false] (by kernel_rfl) rfl rfl ⟨(blk_cell BK378.out 0).trans rfl, (blk_cell BK378.out 1).trans rfl, (blk_cell BK378.out 2).trans rfl, (blk_cell BK378.out 3).trans rfl, ((HB.out.cell (World.block_lt_of_cell? w _ hw379_0)).trans hw379_0)⟩ (fun hHeld => ?_)
                             generalize w63.drew = w64 at HO_7 BK90040 BK90041 BK364 BK378 HB hx379_0 hHeld ⊢
                             refine pure_ (i := 0) (N := some 60) (v := ?_) (a' := ?_) #[true, false, false, false, false, false, false] rfl rfl (by kernel_rfl) (fun _ _ _ h => h) (Or.inl ⟨by rfl, ?_⟩) ?_ ?_
                             rotate_left
                             ·intro w'
                              go_simp
                              with_reducible rfl
                             rotate_left
                             ·simp only [Act.put, List.setIfInBounds_toArray, List.set_cons_zero, List.set_cons_succ, i64_w, i32_w]
                              rfl
                             refine pure_ (i := 2) (N := some 62) (v := ?_) (a' := ?_) #[true, false, true, false, false, false, false] rfl rfl (by kernel_rfl) (fun _ _ _ h => h) (Or.inl ⟨by rfl, ?_⟩) ?_ ?_
                             rotate_left
                             ·intro w'
                              go_simp
                              with_reducible rfl
                             rotate_left
                             ·simp only [Act.put, List.setIfInBounds_toArray, List.set_cons_zero, List.set_cons_succ, i64_w, i32_w]
                              rfl
                             refine pure_ (i := 3) (N := some 63) (v := ?_) (a' := ?_) #[true, false, true, true, false, false, false] rfl rfl (by kernel_rfl) (fun _ _ _ h => h) (Or.inl ⟨by rfl, ?_⟩) ?_ ?_
                             rotate_left
                             ·intro w'
                              go_simp
                              with_reducible rfl
                             rotate_left
                             ·simp only [Act.put, List.setIfInBounds_toArray, List.set_cons_zero, List.set_cons_succ, i64_w, i32_w]
                              rfl
                             refine pure_ (i := 4) (N := some 64) (v := ?_) (a' := ?_) #[true, false, true, true, true, false, false] rfl rfl (by kernel_rfl) (fun _ _ _ h => h) (Or.inl ⟨by rfl, ?_⟩) ?_ ?_
                             rotate_left
                             ·intro w'
                              go_simp
                              with_reducible rfl
                             rotate_left
                             ·simp only [Act.put, List.setIfInBounds_toArray, List.set_cons_zero, List.set_cons_succ, i64_w, i32_w]
                              rfl
                             refine take_ (i := 1) (N := some 61) (v := ?_) (a' := ?_) #[true, true, true, true, true, false, false] rfl rfl (by kernel_rfl) (fun _ _ _ h => h) (Or.inl ⟨by rfl, ?_⟩) hHeld ?_ ?_
                             rotate_left
                             ·rintro w' ⟨s0, s1, s2, s3, s4⟩
                              go_simp
                              with_reducible rfl
                             rotate_left
                             ·simp only [Act.put, List.setIfInBounds_toArray, List.set_cons_zero, List.set_cons_succ, i64_w, i32_w]
                              rfl
                             refine take_ (i := 5) (N := some 65) (v := ?_) (a' := ?_) #[true, true, true, true, true, true, false] rfl rfl (by kernel_rfl) (fun _ _ _ h => h) (Or.inl ⟨by rfl, ?_⟩) hHeld ?_ ?_
                             rotate_left
                             ·rintro w' ⟨s0, s1, s2, s3, s4⟩
                              go_simp
                              with_reducible rfl
                             rotate_left
                             ·simp only [Act.put, List.setIfInBounds_toArray, List.set_cons_zero, List.set_cons_succ, i64_w, i32_w]
                              rfl
                             refine pure_ (i := 6) (N := some 66) (v := ?_) (a' := ?_) #[true, true, true, true, true, true, true] rfl rfl (by kernel_rfl) (fun _ _ _ h => h) (Or.inl ⟨by rfl, ?_⟩) ?_ ?_
                             rotate_left
                             ·intro w'
                              go_simp
                              with_reducible rfl
                             rotate_left
                             ·simp only [Act.put, List.setIfInBounds_toArray, List.set_cons_zero, List.set_cons_succ, i64_w, i32_w]
                              rfl
                             refine done_ (by kernel_rfl) ?_
                             try go_wp2_with fail
                             have n0_ := Aside0.mk (Kd.S_drew HO_7.out)
                             have n1_ := Aside0.mk (blk_drew BK90040.out)
                             have n2_ := Aside0.mk (blk_drew BK90041.out)
                             have n3_ := Aside0.mk (blk_drew BK364.out)
                             have n4_ := Aside0.mk (blk_drew BK378.out)
                             have n5_ := Aside0.mk (below_drew1 HB.out)
                             clear HO_7
                             clear BK90040
                             clear BK90041
                             clear BK364
                             clear BK378
                             clear HB
                             have HO_7 := n0_
                             have BK90040 := n1_
                             have BK90041 := n2_
                             have BK364 := n3_
                             have BK378 := n4_
                             have HB := n5_
                             clear n0_ n1_ n2_ n3_ n4_ n5_
                             have p380 : 0 ≤ (x8_1 : Int) := of_decide_eq_true (by first | (with_reducible assumption) | assumption)
                             have q380 : x8_1 < (x7_3.length : Int) := of_decide_eq_true (by first | (with_reducible assumption) | assumption)
                             obtain ⟨ad380, A380_0, c380_0, e380, hx380_0, hl380_0, hi380_0⟩ := at_L5 (Kd.S_reads' HO_7.out).2.2 x8_1 p380 q380
                             obtain rfl : (⟨go15, 0, none⟩ : Addr) = ad380 := (by injection e380)
                             obtain ⟨ce380, hce380, hMe380, hcc380⟩ := Kd.S_get HO_7.out [] x8_1 p380 (by first | exact q380 | exact of_decide_eq_true (by first | (with_reducible assumption) | assumption) | (have e_ := (Kd.S_reads' HO_7.out).1; omega))
                             obtain ⟨ve380_0, rfl, ge380_0⟩ := hMe380
                             have hv380_0 := hcc380 0 _ rfl
                             rw [Nat.add_zero, show ((Kd.slice 2 (Kd.int .i64))).sz = 1 from rfl, Nat.mul_one] at hv380_0
                             replace hv380_0 := Option.some.inj (hv380_0.symm.trans hx380_0)
                             rw [hv380_0] at ge380_0
                             have HL380_0 := Aside0.mk (show Kd.R (Kd.int .i64) 2 _ _ _ _ (rd_L5 x7_3 x8_1) from ge380_0)
                             clear hv380_0 ge380_0
                             have HX380_0 := Aside0.mk hx380_0
                             clear hcc380 hce380
                             (first | simp only [add_plain] at hx380_0 | simp only [add_at] at hx380_0 | simp only [Addr.add, Nat.zero_add] at hx380_0 | skip)
                             have HR380_0 := Aside0.mk hi380_0
                             have HC380_0 := Aside0.mk hl380_0
                             clear hi380_0 hl380_0
                             replace p380 := eq_true p380
                             replace q380 := eq_true q380
                             have p381 : 0 ≤ (x8_1 : Int) := of_decide_eq_true (by first | (with_reducible assumption) | assumption)
                             have q381 : x8_1 < (x7_3.length : Int) := of_decide_eq_true (by first | (with_reducible assumption) | assumption)
                             obtain ⟨ad381, A381_0, c381_0, e381, hx381_0, hl381_0, hi381_0⟩ := at_L5 (Kd.S_reads' HO_7.out).2.2 x8_1 p381 q381
                             obtain rfl : (⟨go15, 0, none⟩ : Addr) = ad381 := (by injection e381)
                             obtain ⟨ce381, hce381, hMe381, hcc381⟩ := Kd.S_get HO_7.out [] x8_1 p381 (by first | exact q381 | exact of_decide_eq_true (by first | (with_reducible assumption) | assumption) | (have e_ := (Kd.S_reads' HO_7.out).1; omega))
                             obtain ⟨ve381_0, rfl, ge381_0⟩ := hMe381
                             have hv381_0 := hcc381 0 _ rfl
                             rw [Nat.add_zero, show ((Kd.slice 2 (Kd.int .i64))).sz = 1 from rfl, Nat.mul_one] at hv381_0
                             replace hv381_0 := Option.some.inj (hv381_0.symm.trans hx381_0)
                             rw [hv381_0] at ge381_0
                             have HL381_0 := Aside0.mk (show Kd.R (Kd.int .i64) 2 _ _ _ _ (rd_L5 x7_3 x8_1) from ge381_0)
                             clear hv381_0 ge381_0
                             have HX381_0 := Aside0.mk hx381_0
                             clear hcc381 hce381
                             (first | simp only [add_plain] at hx381_0 | simp only [add_at] at hx381_0 | simp only [Addr.add, Nat.zero_add] at hx381_0 | skip)
                             have HR381_0 := Aside0.mk hi381_0
                             have HC381_0 := Aside0.mk hl381_0
                             clear hi381_0 hl381_0
                             replace p381 := eq_true p381
                             replace q381 := eq_true q381
                             have ea_ := Option.some.inj (hx380_0.symm.trans hx381_0)
                             injection ea_ with ea_ en_ ec_
                             subst ea_
                             subst ec_
                             clear en_
                             have p382 : 0 ≤ (((rd_T77 l0_1 x56_3).f0) : Int) := of_decide_eq_true (by first | (with_reducible assumption) | assumption)
                             have q382 : ((rd_T77 l0_1 x56_3).f0) < ((rd_L5 x7_3 x8_1).length : Int) := of_decide_eq_true (by first | (with_reducible assumption) | assumption)
                             obtain ⟨ad382, e382, hx382_0⟩ := Kd.at_int (by repeat (first | (with_reducible exact HR381_0.out) | (with_reducible refine Kd.C_alloc ?_ _) | (with_reducible refine Kd.C_drewN ?_ _) | (with_reducible refine Kd.C_drew ?_) | exact HR381_0.out)) ((rd_T77 l0_1 x56_3).f0) p382 q382
                             cases e382
                             replace p382 := eq_true p382
                             replace q382 := eq_true q382
                             have p383 : 0 ≤ ((ji51) : Int) := of_decide_eq_true (by first | (with_reducible assumption) | assumption)
                             have q383 : (ji51) < (x7_3.length : Int) := of_decide_eq_true (by first | (with_reducible assumption) | assumption)
                             obtain ⟨ad383, A383_0, c383_0, e383, hx383_0, hl383_0, hi383_0⟩ := at_L5 (Kd.S_reads' HO_7.out).2.2 (ji51) p383 q383
                             obtain rfl : (⟨go15, 0, none⟩ : Addr) = ad383 := (by injection e383)
                             obtain ⟨ce383, hce383, hMe383, hcc383⟩ := Kd.S_get HO_7.out [] (ji51) p383 (by first | exact q383 | exact of_decide_eq_true (by first | (with_reducible assumption) | assumption) | (have e_ := (Kd.S_reads' HO_7.out).1; omega))
                             obtain ⟨ve383_0, rfl, ge383_0⟩ := hMe383
                             have hv383_0 := hcc383 0 _ rfl
                             rw [Nat.add_zero, show ((Kd.slice 2 (Kd.int .i64))).sz = 1 from rfl, Nat.mul_one] at hv383_0
                             replace hv383_0 := Option.some.inj (hv383_0.symm.trans hx383_0)
                             rw [hv383_0] at ge383_0
                             have HL383_0 := Aside0.mk (show Kd.R (Kd.int .i64) 2 _ _ _ _ (rd_L5 x7_3 (ji51)) from ge383_0)
                             clear hv383_0 ge383_0
                             have HX383_0 := Aside0.mk hx383_0
                             clear hcc383 hce383
                             (first | simp only [add_plain] at hx383_0 | simp only [add_at] at hx383_0 | simp only [Addr.add, Nat.zero_add] at hx383_0 | skip)
                             have HR383_0 := Aside0.mk hi383_0
                             have HC383_0 := Aside0.mk hl383_0
                             clear hi383_0 hl383_0
                             replace p383 := eq_true p383
                             replace q383 := eq_true q383
                             have p384 : 0 ≤ (((rd_T77 l0_1 x56_3).f2) : Int) := of_decide_eq_true (by first | (with_reducible assumption) | assumption)
                             have q384 : ((rd_T77 l0_1 x56_3).f2) < ((rd_L5 x7_3 (ji51)).length : Int) := of_decide_eq_true (by first | (with_reducible assumption) | assumption)
                             obtain ⟨ad384, e384, hx384_0⟩ := Kd.at_int (by repeat (first | (with_reducible exact HR383_0.out) | (with_reducible refine Kd.C_alloc ?_ _) | (with_reducible refine Kd.C_drewN ?_ _) | (with_reducible refine Kd.C_drew ?_) | exact HR383_0.out)) ((rd_T77 l0_1 x56_3).f2) p384 q384
                             cases e384
                             replace p384 := eq_true p384
                             replace q384 := eq_true q384
                             have p57 : 0 ≤ (((rd_T77 l0_1 x56_3).f0) : Int) := of_decide_eq_true (by first | (with_reducible assumption) | assumption)
                             have q57 : (((rd_T77 l0_1 x56_3).f0) : Int) < (((rd_L5 x7_3 x8_1).length : Int) : Int) := of_decide_eq_true (by first | (with_reducible assumption) | assumption)
                             obtain ⟨go57, co57, eo57, gb57, gl57, cl57, HG57⟩ := Kd.R_form HL380_0.out (by omega)
                             (first | cases eo57 | (injection eo57 with ea_ en_ ec_; (first | subst ea_ | (injection ea_ with ea_; subst ea_)); subst ec_; clear en_))
                             have GB57 := Aside0.mk gb57
                             have GG57 := Aside0.mk HG57
                             clear gb57 gl57 HG57
                             (first | simp only [add_plain] at hx382_0 | skip)
                             obtain ⟨hx57_0, hf57_0⟩ := Kd.R_celln 0 HL380_0.out (((rd_T77 l0_1 x56_3).f0) : Int) p57 q57
                             replace p57 := eq_true p57
                             replace q57 := eq_true q57
                             have hq66 : (x8_1 : Int) < (x7_3.length : Int) := (by have h_ : (x8_1 : Int) < ((x7_3.length : Int) : Int) := of_decide_eq_true (by first | (with_reducible assumption) | assumption); first | exact h_ | (have e_ := (Kd.S_reads' HO_7.out).1; omega) | simpa only [List.length_set, List.length_set] using h_)
                             obtain ⟨oki66, ce66, hcl66, hM66, hcc66, hok66, hbk66⟩ := Kd.S_borrow HO_7.out [] (x8_1 : Int) (of_decide_eq_true (by first | (with_reducible assumption) | assumption)) hq66
                             obtain ⟨ve66_0, rfl, ge66_0⟩ := hM66
                             have hv66 := hcc66 0 _ rfl
                             rw [Nat.add_zero, show ((Kd.slice 2 (Kd.int .i64))).sz = 1 from rfl, Nat.mul_one] at hv66
                             replace hv66 := Option.some.inj (hv66.symm.trans HX380_0.out)
                             subst hv66
                             clear hcc66 hcl66
                             replace ge66_0 := (show Kd.R (Kd.int .i64) 2 _ _ _ _ (rd_L5 x7_3 x8_1) from ge66_0)
                             have HP66 := Kd.R_putg ge66_0 (((rd_T77 l0_1 x56_3).f0) : Int) ji56
                             rw [← Ny385.out] at HP66
                             have HS66 := hbk66 HP66.2 (fun k_ e_ => by injection e_ with e_; subst e_; exact ge66_0.1 _ rfl) (x' := y385) (Kd.M_row HP66.1)
                             rw [← Ny387.out] at HS66
                             have HQ66 := Aside0.mk HS66
                             clear HP66 HS66 hbk66 hok66
                             refine start_ (n := 27) (S := fun w' => w'.cell? ⟨gb378, 0, none⟩ = some (.int .i64 ((rd_T77 l0_1 x56_3).f0)) ∧ w'.cell? ⟨gb378, 1, none⟩ = some (.int .i64 ((rd_T77 l0_1 x56_3).f1)) ∧ w'.cell? ⟨gb378, 2, none⟩ = some (.int .i64 ((rd_T77 l0_1 x56_3).f2)) ∧ w'.cell? ⟨gb378, 3, none⟩ = some (.int .i64 ((rd_T77 l0_1 x56_3).f3)) ∧ w'.cell? ⟨go15, (x8_1).toNat, none⟩ = some (.slice (some ⟨go57, 0, none⟩) (rd_L5 x7_3 x8_1).length c380_0) ∧ w'.cell? ⟨go15, (x8_1).toNat, none⟩ = some (.slice (some ⟨go57, 0, none⟩) (rd_L5 x7_3 x8_1).length c380_0) ∧ w'.cell? ⟨go57, (((rd_T77 l0_1 x56_3).f0)).toNat, none⟩ = some (.int .i64 (rd (rd_L5 x7_3 x8_1) ((rd_T77 l0_1 x56_3).f0))) ∧ w'.cell? ⟨go15, ((ji51)).toNat, none⟩ = some (.slice (some ad384) (rd_L5 x7_3 (ji51)).length c383_0) ∧ w'.cell? (ad384.add (((rd_T77 l0_1 x56_3).f2)).toNat) = some (.int .i64 (rd (rd_L5 x7_3 (ji51)) ((rd_T77 l0_1 x56_3).f2)))) (ds := [26]) #[false, false, false, false, false, false, false, false, false, false, false, false, false, false, false, false, false, false, false, false, false, false, false, false, false, false, false] (by kernel_rfl) rfl rfl ⟨(blk_cell BK378.out 0).trans rfl, (blk_cell BK378.out 1).trans rfl, (blk_cell BK378.out 2).trans rfl, (blk_cell BK378.out 3).trans rfl, hx380_0, hx381_0, hx382_0, hx383_0, hx384_0⟩ (fun hHeld => ?_); refine with_tabW impl_Set_left_at_impl_Set_souths_1.tab17 impl_Set_left_at_impl_Set_souths_1.bits17 (fun HT_ HW_ => ?_)
                             generalize w64.drew = w65 at HO_7 BK90040 BK90041 BK364 BK378 HB GG57 HL380_0 HL381_0 HL383_0 HQ66 HR380_0 HR381_0 HR383_0 HX380_0 HX381_0 HX383_0 hf57_0 hx380_0 hx381_0 hx382_0 hx383_0 hx384_0 hx57_0 hHeld ⊢
                             refine pure_ (i := 0) (N := some 67) (v := ?_) (a' := ?_) #[true, false, false, false, false, false, false, false, false, false, false, false, false, false, false, false, false, false, false, false, false, false, false, false, false, false, false] rfl rfl (any_of HT_.out (by kernel_rfl)) (fun _ _ _ h => h) (Or.inl ⟨by rfl, ?_⟩) ?_ ?_
                             rotate_left
                             ·intro w'
                              go_simp
                              with_reducible rfl
                             rotate_left
                             ·simp only [Act.put, List.setIfInBounds_toArray, List.set_cons_zero, List.set_cons_succ, i64_w, i32_w]
                              rfl
                             refine pure_ (i := 1) (N := some 68) (v := ?_) (a' := ?_) #[true, true, false, false, false, false, false, false, false, false, false, false, false, false, false, false, false, false, false, false, false, false, false, false, false, false, false] rfl rfl (any_of HT_.out (by kernel_rfl)) (fun _ _ _ h => h) (Or.inl ⟨by rfl, ?_⟩) ?_ ?_
                             rotate_left
                             ·intro w'
                              go_simp
                              with_reducible rfl
                             rotate_left
                             ·simp only [Act.put, List.setIfInBounds_toArray, List.set_cons_zero, List.set_cons_succ, i64_w, i32_w]
                              rfl
                             refine pure_ (i := 2) (N := some 69) (v := ?_) (a' := ?_) #[true, true, true, false, false, false, false, false, false, false, false, false, false, false, false, false, false, false, false, false, false, false, false, false, false, false, false] rfl rfl (any_of HT_.out (by kernel_rfl)) (fun _ _ _ h => h) (Or.inl ⟨by rfl, ?_⟩) ?_ ?_
                             rotate_left
                             ·intro w'
                              go_simp
                              with_reducible rfl
                             rotate_left
                             ·simp only [Act.put, List.setIfInBounds_toArray, List.set_cons_zero, List.set_cons_succ, i64_w, i32_w]
                              rfl
                             refine pure_ (i := 4) (N := some 71) (v := ?_) (a' := ?_) #[true, true, true, false, true, false, false, false, false, false, false, false, false, false, false, false, false, false, false, false, false, false, false, false, false, false, false] rfl rfl (any_of HT_.out (by kernel_rfl)) (fun _ _ _ h => h) (Or.inl ⟨by rfl, ?_⟩) ?_ ?_
                             rotate_left
                             ·intro w'
                              go_simp
                              with_reducible rfl
                             rotate_left
                             ·simp only [Act.put, List.setIfInBounds_toArray, List.set_cons_zero, List.set_cons_succ, i64_w, i32_w]
                              rfl
                             refine pure_ (i := 6) (N := some 73) (v := ?_) (a' := ?_) #[true, true, true, false, true, false, true, false, false, false, false, false, false, false, false, false, false, false, false, false, false, false, false, false, false, false, false] rfl rfl (any_of HT_.out (by kernel_rfl)) (fun _ _ _ h => h) (Or.inl ⟨by rfl, ?_⟩) ?_ ?_
                             rotate_left
                             ·intro w'
                              go_simp
                              with_reducible rfl
                             rotate_left
                             ·simp only [Act.put, List.setIfInBounds_toArray, List.set_cons_zero, List.set_cons_succ, i64_w, i32_w]
                              rfl
                             refine pure_ (i := 7) (N := some 74) (v := ?_) (a' := ?_) #[true, true, true, false, true, false, true, true, false, false, false, false, false, false, false, false, false, false, false, false, false, false, false, false, false, false, false] rfl rfl (any_of HT_.out (by kernel_rfl)) (fun _ _ _ h => h) (Or.inl ⟨by rfl, ?_⟩) ?_ ?_
                             rotate_left
                             ·intro w'
                              go_simp
                              with_reducible rfl
                             rotate_left
                             ·simp only [Act.put, List.setIfInBounds_toArray, List.set_cons_zero, List.set_cons_succ, i64_w, i32_w]
                              rfl
                             refine pure_ (i := 8) (N := some 75) (v := ?_) (a' := ?_) #[true, true, true, false, true, false, true, true, true, false, false, false, false, false, false, false, false, false, false, false, false, false, false, false, false, false, false] rfl rfl (any_of HT_.out (by kernel_rfl)) (fun _ _ _ h => h) (Or.inl ⟨by rfl, ?_⟩) ?_ ?_
                             rotate_left
                             ·intro w'
                              go_simp
                              with_reducible rfl
                             rotate_left
                             ·simp only [Act.put, List.setIfInBounds_toArray, List.set_cons_zero, List.set_cons_succ, i64_w, i32_w]
                              rfl
                             refine pure_ (i := 10) (N := some 77) (v := ?_) (a' := ?_) #[true, true, true, false, true, false, true, true, true, false, true, false, false, false, false, false, false, false, false, false, false, false, false, false, false, false, false] rfl rfl (any_of HT_.out (by kernel_rfl)) (fun _ _ _ h => h) (Or.inl ⟨by rfl, ?_⟩) ?_ ?_
                             rotate_left
                             ·intro w'
                              go_simp
                              with_reducible rfl
                             rotate_left
                             ·simp only [Act.put, List.setIfInBounds_toArray, List.set_cons_zero, List.set_cons_succ, i64_w, i32_w]
                              rfl
                             refine pure_ (i := 14) (N := some 81) (v := ?_) (a' := ?_) #[true, true, true, false, true, false, true, true, true, false, true, false, false, false, true, false, false, false, false, false, false, false, false, false, false, false, false] rfl rfl (any_of HT_.out (by kernel_rfl)) (fun _ _ _ h => h) (Or.inl ⟨by rfl, ?_⟩) ?_ ?_
                             rotate_left
                             ·intro w'
                              go_simp
                              with_reducible rfl
                             rotate_left
                             ·simp only [Act.put, List.setIfInBounds_toArray, List.set_cons_zero, List.set_cons_succ, i64_w, i32_w]
                              rfl
                             refine pure_ (i := 15) (N := some 82) (v := ?_) (a' := ?_) #[true, true, true, false, true, false, true, true, true, false, true, false, false, false, true, true, false, false, false, false, false, false, false, false, false, false, false] rfl rfl (any_of HT_.out (by kernel_rfl)) (fun _ _ _ h => h) (Or.inl ⟨by rfl, ?_⟩) ?_ ?_
                             rotate_left
                             ·intro w'
                              go_simp
                              with_reducible rfl
                             rotate_left
                             ·simp only [Act.put, List.setIfInBounds_toArray, List.set_cons_zero, List.set_cons_succ, i64_w, i32_w]
                              rfl
                             refine pure_ (i := 16) (N := some 83) (v := ?_) (a' := ?_) #[true, true, true, false, true, false, true, true, true, false, true, false, false, false, true, true, true, false, false, false, false, false, false, false, false, false, false] rfl rfl (any_of HT_.out (by kernel_rfl)) (fun _ _ _ h => h) (Or.inl ⟨by rfl, ?_⟩) ?_ ?_
                             rotate_left
                             ·intro w'
                              go_simp
                              with_reducible rfl
                             rotate_left
                             ·simp only [Act.put, List.setIfInBounds_toArray, List.set_cons_zero, List.set_cons_succ, i64_w, i32_w]
                              rfl
                             refine pure_ (i := 17) (N := some 84) (v := ?_) (a' := ?_) #[true, true, true, false, true, false, true, true, true, false, true, false, false, false, true, true, true, true, false, false, false, false, false, false, false, false, false] rfl rfl (any_of HT_.out (by kernel_rfl)) (fun _ _ _ h => h) (Or.inl ⟨by rfl, ?_⟩) ?_ ?_
                             rotate_left
                             ·intro w'
                              go_simp
                              with_reducible rfl
                             rotate_left
                             ·simp only [Act.put, List.setIfInBounds_toArray, List.set_cons_zero, List.set_cons_succ, i64_w, i32_w]
                              rfl
                             refine pure_ (i := 19) (N := some 86) (v := ?_) (a' := ?_) #[true, true, true, false, true, false, true, true, true, false, true, false, false, false, true, true, true, true, false, true, false, false, false, false, false, false, false] rfl rfl (any_of HT_.out (by kernel_rfl)) (fun _ _ _ h => h) (Or.inl ⟨by rfl, ?_⟩) ?_ ?_
                             rotate_left
                             ·intro w'
                              go_simp
                              with_reducible rfl
                             rotate_left
                             ·simp only [Act.put, List.setIfInBounds_toArray, List.set_cons_zero, List.set_cons_succ, i64_w, i32_w]
                              rfl
                             refine take_ (i := 3) (N := some 70) (v := ?_) (a' := ?_) #[true, true, true, true, true, false, true, true, true, false, true, false, false, false, true, true, true, true, false, true, false, false, false, false, false, false, false] rfl rfl (take_ofW HT_.out HW_.out (by kernel_rfl)) (fun _ _ _ h => h) (Or.inl ⟨by rfl, ?_⟩) hHeld ?_ ?_
                             rotate_left
                             ·rintro w' ⟨s0, s1, s2, s3, s4, s5, s6, s7, s8⟩
                              go_simp
                              with_reducible rfl
                             rotate_left
                             ·simp only [Act.put, List.setIfInBounds_toArray, List.set_cons_zero, List.set_cons_succ, i64_w, i32_w]
                              rfl
                             refine take_ (i := 5) (N := some 72) (v := ?_) (a' := ?_) #[true, true, true, true, true, true, true, true, true, false, true, false, false, false, true, true, true, true, false, true, false, false, false, false, false, false, false] rfl rfl (take_ofW HT_.out HW_.out (by kernel_rfl)) (fun _ _ _ h => h) (Or.inl ⟨by rfl, ?_⟩) hHeld ?_ ?_
                             rotate_left
                             ·rintro w' ⟨s0, s1, s2, s3, s4, s5, s6, s7, s8⟩
                              go_simp
                              with_reducible rfl
                             rotate_left
                             ·simp only [Act.put, List.setIfInBounds_toArray, List.set_cons_zero, List.set_cons_succ, i64_w, i32_w]
                              rfl
                             refine take_ (i := 9) (N := some 76) (v := ?_) (a' := ?_) #[true, true, true, true, true, true, true, true, true, true, true, false, false, false, true, true, true, true, false, true, false, false, false, false, false, false, false] rfl rfl (take_ofW HT_.out HW_.out (by kernel_rfl)) (fun _ _ _ h => h) (Or.inl ⟨by rfl, ?_⟩) hHeld ?_ ?_
                             rotate_left
                             ·rintro w' ⟨s0, s1, s2, s3, s4, s5, s6, s7, s8⟩
                              go_simp
                              with_reducible rfl
                             rotate_left
                             ·simp only [Act.put, List.setIfInBounds_toArray, List.set_cons_zero, List.set_cons_succ, i64_w, i32_w]
                              rfl
                             refine take_ (i := 11) (N := some 78) (v := ?_) (a' := ?_) #[true, true, true, true, true, true, true, true, true, true, true, true, false, false, true, true, true, true, false, true, false, false, false, false, false, false, false] rfl rfl (take_ofW HT_.out HW_.out (by kernel_rfl)) (fun _ _ _ h => h) (Or.inl ⟨by rfl, ?_⟩) hHeld ?_ ?_
                             rotate_left
                             ·rintro w' ⟨s0, s1, s2, s3, s4, s5, s6, s7, s8⟩
                              go_simp
                              with_reducible rfl
                             rotate_left
                             ·simp only [Act.put, List.setIfInBounds_toArray, List.set_cons_zero, List.set_cons_succ, i64_w, i32_w]
                              rfl
                             refine pure_ (i := 12) (N := some 79) (v := ?_) (a' := ?_) #[true, true, true, true, true, true, true, true, true, true, true, true, true, false, true, true, true, true, false, true, false, false, false, false, false, false, false] rfl rfl (any_of HT_.out (by kernel_rfl)) (fun _ _ _ h => h) (Or.inl ⟨by rfl, ?_⟩) ?_ ?_
                             rotate_left
                             ·intro w'
                              go_simp
                              with_reducible rfl
                             rotate_left
                             ·simp only [Act.put, List.setIfInBounds_toArray, List.set_cons_zero, List.set_cons_succ, i64_w, i32_w]
                              rfl
                             refine take_ (i := 13) (N := some 80) (v := ?_) (a' := ?_) #[true, true, true, true, true, true, true, true, true, true, true, true, true, true, true, true, true, true, false, true, false, false, false, false, false, false, false] rfl rfl (take_ofW HT_.out HW_.out (by kernel_rfl)) (fun _ _ _ h => h) (Or.inl ⟨by rfl, ?_⟩) hHeld ?_ ?_
                             rotate_left
                             ·rintro w' ⟨s0, s1, s2, s3, s4, s5, s6, s7, s8⟩
                              go_simp
                              with_reducible rfl
                             rotate_left
                             ·simp only [Act.put, List.setIfInBounds_toArray, List.set_cons_zero, List.set_cons_succ, i64_w, i32_w]
                              rfl
                             refine take_ (i := 18) (N := some 85) (v := ?_) (a' := ?_) #[true, true, true, true, true, true, true, true, true, true, true, true, true, true, true, true, true, true, true, true, false, false, false, false, false, false, false] rfl rfl (take_ofW HT_.out HW_.out (by kernel_rfl)) (fun _ _ _ h => h) (Or.inl ⟨by rfl, ?_⟩) hHeld ?_ ?_
                             rotate_left
                             ·rintro w' ⟨s0, s1, s2, s3, s4, s5, s6, s7, s8⟩
                              go_simp
                              with_reducible rfl
                             rotate_left
                             ·simp only [Act.put, List.setIfInBounds_toArray, List.set_cons_zero, List.set_cons_succ, i64_w, i32_w]
                              rfl
                             refine take_ (i := 20) (N := some 87) (v := ?_) (a' := ?_) #[true, true, true, true, true, true, true, true, true, true, true, true, true, true, true, true, true, true, true, true, true, false, false, false, false, false, false] rfl rfl (take_ofW HT_.out HW_.out (by kernel_rfl)) (fun _ _ _ h => h) (Or.inl ⟨by rfl, ?_⟩) hHeld ?_ ?_
                             rotate_left
                             ·rintro w' ⟨s0, s1, s2, s3, s4, s5, s6, s7, s8⟩
                              go_simp
                              with_reducible rfl
                             rotate_left
                             ·simp only [Act.put, List.setIfInBounds_toArray, List.set_cons_zero, List.set_cons_succ, i64_w, i32_w]
                              rfl
                             refine pure_ (i := 21) (N := some 88) (v := ?_) (a' := ?_) #[true, true, true, true, true, true, true, true, true, true, true, true, true, true, true, true, true, true, true, true, true, true, false, false, false, false, false] rfl rfl (any_of HT_.out (by kernel_rfl)) (fun _ _ _ h => h) (Or.inl ⟨by rfl, ?_⟩) ?_ ?_
                             rotate_left
                             ·intro w'
                              go_simp
                              with_reducible rfl
                             rotate_left
                             ·simp only [Act.put, List.setIfInBounds_toArray, List.set_cons_zero, List.set_cons_succ, i64_w, i32_w]
                              rfl
                             refine take_ (i := 22) (N := some 89) (v := ?_) (a' := ?_) #[true, true, true, true, true, true, true, true, true, true, true, true, true, true, true, true, true, true, true, true, true, true, true, false, false, false, false] rfl rfl (take_ofW HT_.out HW_.out (by kernel_rfl)) (fun _ _ _ h => h) (Or.inl ⟨by rfl, ?_⟩) hHeld ?_ ?_
                             rotate_left
                             ·rintro w' ⟨s0, s1, s2, s3, s4, s5, s6, s7, s8⟩
                              go_simp
                              with_reducible rfl
                             rotate_left
                             ·simp only [Act.put, List.setIfInBounds_toArray, List.set_cons_zero, List.set_cons_succ, i64_w, i32_w]
                              rfl
                             refine pure_ (i := 23) (N := some 90) (v := ?_) (a' := ?_) #[true, true, true, true, true, true, true, true, true, true, true, true, true, true, true, true, true, true, true, true, true, true, true, true, false, false, false] rfl rfl (any_of HT_.out (by kernel_rfl)) (fun _ _ _ h => h) (Or.inl ⟨by rfl, ?_⟩) ?_ ?_
                             rotate_left
                             ·intro w'
                              go_simp
                              with_reducible rfl
                             rotate_left
                             ·simp only [Act.put, List.setIfInBounds_toArray, List.set_cons_zero, List.set_cons_succ, i64_w, i32_w]
                              rfl
                             refine pure_ (i := 24) (N := some 91) (v := ?_) (a' := ?_) #[true, true, true, true, true, true, true, true, true, true, true, true, true, true, true, true, true, true, true, true, true, true, true, true, true, false, false] rfl rfl (any_of HT_.out (by kernel_rfl)) (fun _ _ _ h => h) (Or.inl ⟨by rfl, ?_⟩) ?_ ?_
                             rotate_left
                             ·intro w'
                              go_simp
                              with_reducible rfl
                             rotate_left
                             ·simp only [Act.put, List.setIfInBounds_toArray, List.set_cons_zero, List.set_cons_succ, i64_w, i32_w]
                              rfl
                             refine pure_ (i := 25) (N := some 92) (v := ?_) (a' := ?_) #[true, true, true, true, true, true, true, true, true, true, true, true, true, true, true, true, true, true, true, true, true, true, true, true, true, true, false] rfl rfl (any_of HT_.out (by kernel_rfl)) (fun _ _ _ h => h) (Or.inl ⟨by rfl, ?_⟩) ?_ ?_
                             rotate_left
                             ·intro w'
                              go_simp
                              with_reducible rfl
                             rotate_left
                             ·simp only [Act.put, List.setIfInBounds_toArray, List.set_cons_zero, List.set_cons_succ, i64_w, i32_w]
                              rfl
                             refine last_ (i := 26) (N := none) #[true, true, true, true, true, true, true, true, true, true, true, true, true, true, true, true, true, true, true, true, true, true, true, true, true, true, true] rfl rfl (one_of HT_.out (by kernel_rfl)) (by decide) (fun K hK => ?_)
                             refine skip_ (w1 := ?_) (by rfl) rfl ?_ ?_
                             rotate_left
                             ·go_simp
                              rfl
                             refine hK.out _ _ ?_
                             clear hK K
                             refine done_ (done_of HT_.out (by kernel_rfl)) ?_
                             try go_wp2_with fail
                             (try simp only [← hl7_3])
                             go_roundg k3
                             case measure => have := HK1.out; have := HK2.out; have := HK3.out; omega
                             case rel => exact ⟨(y387), (wrap64 (x56_3 + 1)), (by first | rfl | (simp; done) | (simp [*]; done) | (simp; decide +kernel)), H', ⟨by have := HK1.out; have := HK2.out; have := HK3.out; omega⟩, ⟨by (try simp only [hl7_2]); (try simp only [hl7_3]); (with_reducible repeat (first | apply Kd.S_alloc | apply Kd.S_drewN | apply Kd.S_drew)); exact HQ66.out⟩, ⟨by (try simp only [hl7_2]); (try simp only [hl7_3]); (with_reducible repeat (first | refine blk_drewN ?_ _ | refine blk_drew ?_ | refine blk_alloc ?_ _)); refine blk_far ?_ (by have h_ := Kd.R_ne HL380_0.out BK90040.out (by decide); intro e_; exact h_ (by rw [e_]; rfl)) _; (with_reducible repeat (first | refine blk_drewN ?_ _ | refine blk_drew ?_ | refine blk_alloc ?_ _)); exact BK90040.out⟩, ⟨by (try simp only [hl7_2]); (try simp only [hl7_3]); (with_reducible repeat (first | refine blk_drewN ?_ _ | refine blk_drew ?_ | refine blk_alloc ?_ _)); refine blk_far ?_ (by have h_ := Kd.R_away HL380_0.out (fun _ hk => hk.1); intro e_; exact h_ (by rw [e_]; rfl)) _; (with_reducible repeat (first | refine blk_drewN ?_ _ | refine blk_drew ?_ | refine blk_alloc ?_ _)); exact BK90041.out⟩, ⟨by (try simp only [hl7_2]); (try simp only [hl7_3]); (with_reducible repeat (first | refine blk_drewN ?_ _ | refine blk_drew ?_ | refine blk_alloc ?_ _)); refine blk_far ?_ (by have h_ := Kd.R_ne HL380_0.out BK364.out (by decide); intro e_; exact h_ (by rw [e_]; rfl)) _; (with_reducible repeat (first | refine blk_drewN ?_ _ | refine blk_drew ?_ | refine blk_alloc ?_ _)); exact BK364.out⟩, ⟨by repeat (first | (with_reducible first | exact HB.out | apply below_alloc | apply pw_below_drewN | apply below_drew1 | refine below_set ?_ GB57.out | refine below_set ?_ GE364.out | refine below_set ?_ GE378.out) | exact HB.out)⟩⟩
                            ·rw [if_neg c55] at H
                             exact absurd H (by simp)
                           ·rw [if_neg c54] at H
                            exact absurd H (by simp)
                          ·rw [if_neg c53] at H
                           exact absurd H (by simp)
                         ·rw [if_neg c52] at H
                          exact absurd H (by simp)
                        ·rw [if_neg c50] at H
                         exact absurd H (by simp)
                       ·rw [if_neg c49] at H
                        exact absurd H (by simp)
                      ·rw [if_neg c48] at H
                       exact absurd H (by simp)
                     ·rw [if_neg c47] at H
                      have c47b0 : (((rd_T77 l0_1 x56_3).f1) == (rd l1 x8_1)) = false := beq_eq_false_iff_ne.mpr c47
                      have c47b1 : (((rd_T77 l0_1 x56_3).f1) != (rd l1 x8_1)) = true := bne_iff_ne.mpr c47
                      have H' := Aside0.mk H
                      clear H
                      have p377 : 0 ≤ (x56_3 : Int) := of_decide_eq_true (by first | (with_reducible assumption) | assumption)
                      have q377 : x56_3 < (l0_1.length : Int) := of_decide_eq_true (by first | (with_reducible assumption) | assumption)
                      obtain ⟨ad377, e377, hx377_0, hx377_1, hx377_2, hx377_3⟩ := at_T77 HR0_1.out x56_3 p377 q377
                      cases e377
                      replace hx377_0 := (HB.out.cell (World.block_lt_of_cell? w _ hx377_0)).trans hx377_0
                      replace hx377_1 := (HB.out.cell (World.block_lt_of_cell? w _ hx377_1)).trans hx377_1
                      replace hx377_2 := (HB.out.cell (World.block_lt_of_cell? w _ hx377_2)).trans hx377_2
                      replace hx377_3 := (HB.out.cell (World.block_lt_of_cell? w _ hx377_3)).trans hx377_3
                      replace p377 := eq_true p377
                      replace q377 := eq_true q377
                      try go_wp2_with (first | ((with_reducible refine gate_dst (N := 11) rfl ?_); refine box_event ?hg (N := 11) ?hd (cs := #[.int .i64 0, .int .i64 0, .int .i64 0, .int .i64 0]) (t := 77) ?hr ?_; (case hd => rfl); (case hg => rfl); (case hr => first | (go_simp; done) | (go_simp; rfl)); intro gb378 hg w68 hbox hb; have n0_ := Aside0.mk (Kd.S_below (by (with_reducible repeat (first | apply Kd.S_alloc | apply Kd.S_drewN | apply Kd.S_drew)); exact HO_7.out) hb); have n1_ := Aside0.mk (blk_below (g := g2_0_) (o := .cells #[.bool a2_0_0] 4 (0, 0)) (by (with_reducible repeat (first | refine blk_drewN ?_ _ | refine blk_drew ?_ | refine blk_alloc ?_ _)); exact BK90040.out) hb); have n2_ := Aside0.mk (blk_below (g := g2_1_) (o := .cells #[.int .i64 a2_1_0] 2 (0, 0)) (by (with_reducible repeat (first | refine blk_drewN ?_ _ | refine blk_drew ?_ | refine blk_alloc ?_ _)); exact BK90041.out) hb); have n3_ := Aside0.mk (blk_below (g := gb364) (o := .cells #[.int .i64 a0_0, .slice (some ad377) l0_1.length c0_1] 30 (0, 0)) (by (with_reducible repeat (first | refine blk_drewN ?_ _ | refine blk_drew ?_ | refine blk_alloc ?_ _)); exact BK364.out) hb); have n4_ := Aside0.mk (below_step (by repeat (first | (with_reducible first | exact HB.out | apply below_alloc | apply pw_below_drewN | apply below_drew1 | refine below_set ?_ GE364.out) | exact HB.out)) hb); have n5_ := Aside0.mk (hbox); have n6_ := Aside0.mk ((by rw [hg]; exact (below_size (by repeat (first | (with_reducible first | exact HB.out | apply below_alloc | apply pw_below_drewN | apply below_drew1 | refine below_set ?_ GE364.out) | exact HB.out))) : w.heap.size ≤ gb378)); have n7_ := Aside0.mk ((by rw [hg]; exact (below_size (by repeat (first | (with_reducible first | exact HB.out | apply below_alloc | apply pw_below_drewN | apply below_drew1 | refine below_set ?_ GE364.out) | exact HB.out))) : w.heap.size ≤ gb378)); have n8_ := Aside0.mk ((by rw [hg]; exact Nat.ne_of_lt (blk_lt (g := g2_0_) (o := .cells #[.bool a2_0_0] 4 (0, 0)) (by (with_reducible repeat (first | refine blk_drewN ?_ _ | refine blk_drew ?_ | refine blk_alloc ?_ _)); exact BK90040.out)) : g2_0_ ≠ gb378)); have n9_ := Aside0.mk ((by rw [hg]; exact Nat.ne_of_gt (blk_lt (g := g2_0_) (o := .cells #[.bool a2_0_0] 4 (0, 0)) (by (with_reducible repeat (first | refine blk_drewN ?_ _ | refine blk_drew ?_ | refine blk_alloc ?_ _)); exact BK90040.out)) : gb378 ≠ g2_0_)); have n10_ := Aside0.mk ((by rw [hg]; exact Nat.ne_of_lt (blk_lt (g := g2_1_) (o := .cells #[.int .i64 a2_1_0] 2 (0, 0)) (by (with_reducible repeat (first | refine blk_drewN ?_ _ | refine blk_drew ?_ | refine blk_alloc ?_ _)); exact BK90041.out)) : g2_1_ ≠ gb378)); have n11_ := Aside0.mk ((by rw [hg]; exact Nat.ne_of_gt (blk_lt (g := g2_1_) (o := .cells #[.int .i64 a2_1_0] 2 (0, 0)) (by (with_reducible repeat (first | refine blk_drewN ?_ _ | refine blk_drew ?_ | refine blk_alloc ?_ _)); exact BK90041.out)) : gb378 ≠ g2_1_)); have n12_ := Aside0.mk ((by rw [hg]; exact Nat.ne_of_lt (blk_lt (g := gb364) (o := .cells #[.int .i64 a0_0, .slice (some ad377) l0_1.length c0_1] 30 (0, 0)) (by (with_reducible repeat (first | refine blk_drewN ?_ _ | refine blk_drew ?_ | refine blk_alloc ?_ _)); exact BK364.out)) : gb364 ≠ gb378)); have n13_ := Aside0.mk ((by rw [hg]; exact Nat.ne_of_gt (blk_lt (g := gb364) (o := .cells #[.int .i64 a0_0, .slice (some ad377) l0_1.length c0_1] 30 (0, 0)) (by (with_reducible repeat (first | refine blk_drewN ?_ _ | refine blk_drew ?_ | refine blk_alloc ?_ _)); exact BK364.out)) : gb378 ≠ gb364)); clear HO_7; clear BK90040; clear BK90041; clear BK364; clear HB; have HO_7 := n0_; have BK90040 := n1_; have BK90041 := n2_; have BK364 := n3_; have HB := n4_; have BK378 := n5_; have GW378 := n6_; have GE378 := n7_; have NB90040_378 := n8_; have NB378_90040 := n9_; have NB90041_378 := n10_; have NB378_90041 := n11_; have NB364_378 := n12_; have NB378_364 := n13_; clear n0_ n1_ n2_ n3_ n4_ n5_ n6_ n7_ n8_ n9_ n10_ n11_ n12_ n13_; clear hb hbox hg; have hnb69 := NB378_90040.out; have hnc69 := NB90040_378.out; have hnb70 := NB378_90041.out; have hnc70 := NB90041_378.out; have hnb71 := NB378_364.out; have hnc71 := NB364_378.out; have hcz72_0 : w68.cell? ⟨gb378, 0, none⟩ = some (.int .i64 0) := (blk_cell BK378.out 0).trans rfl; have hcz72_1 : w68.cell? ⟨gb378, 1, none⟩ = some (.int .i64 0) := (blk_cell BK378.out 1).trans rfl; have hcz72_2 : w68.cell? ⟨gb378, 2, none⟩ = some (.int .i64 0) := (blk_cell BK378.out 2).trans rfl; have hcz72_3 : w68.cell? ⟨gb378, 3, none⟩ = some (.int .i64 0) := (blk_cell BK378.out 3).trans rfl; have hfz72_0 := blk_frozen BK378.out 0; have hfz72_1 := blk_frozen BK378.out 1; have hfz72_2 := blk_frozen BK378.out 2; have hfz72_3 := blk_frozen BK378.out 3))
                      have n0_ : Aside0 (Kd.S (Kd.slice 2 (Kd.int .i64)) 34 ((((w68.setCell ⟨gb378, 0, none⟩ (.int .i64 ((rd_T77 l0_1 x56_3).f0))).setCell ⟨gb378, 1, none⟩ (.int .i64 ((rd_T77 l0_1 x56_3).f1))).setCell ⟨gb378, 2, none⟩ (.int .i64 ((rd_T77 l0_1 x56_3).f2))).setCell ⟨gb378, 3, none⟩ (.int .i64 ((rd_T77 l0_1 x56_3).f3))) w.heap.size (fun k_ => k_ ≠ g2_1_) (.slice (some ⟨go15, 0, none⟩) x7_3.length co15) x7_3) := ⟨by (with_reducible repeat (first | apply Kd.S_alloc | apply Kd.S_drewN | apply Kd.S_drew)); exact Kd.S_mono (Kd.S_far (p := ⟨gb378, 3, none⟩) (Kd.S_far (p := ⟨gb378, 2, none⟩) (Kd.S_far (p := ⟨gb378, 1, none⟩) (Kd.S_far (p := ⟨gb378, 0, none⟩) (Kd.S_types HO_7.out BK378.out (by decide)) (fun _ hk => hk.2) (.int .i64 ((rd_T77 l0_1 x56_3).f0))) (fun _ hk => hk.2) (.int .i64 ((rd_T77 l0_1 x56_3).f1))) (fun _ hk => hk.2) (.int .i64 ((rd_T77 l0_1 x56_3).f2))) (fun _ hk => hk.2) (.int .i64 ((rd_T77 l0_1 x56_3).f3))) (fun _ hk => hk.1)⟩
                      have n1_ : Aside0 (((((w68.setCell ⟨gb378, 0, none⟩ (.int .i64 ((rd_T77 l0_1 x56_3).f0))).setCell ⟨gb378, 1, none⟩ (.int .i64 ((rd_T77 l0_1 x56_3).f1))).setCell ⟨gb378, 2, none⟩ (.int .i64 ((rd_T77 l0_1 x56_3).f2))).setCell ⟨gb378, 3, none⟩ (.int .i64 ((rd_T77 l0_1 x56_3).f3))).heap[g2_0_]? = some (.cells #[.bool a2_0_0] 4 (0, 0))) := ⟨by (with_reducible repeat (first | refine blk_drewN ?_ _ | refine blk_drew ?_ | refine blk_alloc ?_ _)); refine blk_far ?_ NB90040_378.out _; (with_reducible repeat (first | refine blk_drewN ?_ _ | refine blk_drew ?_ | refine blk_alloc ?_ _)); refine blk_far ?_ NB90040_378.out _; (with_reducible repeat (first | refine blk_drewN ?_ _ | refine blk_drew ?_ | refine blk_alloc ?_ _)); refine blk_far ?_ NB90040_378.out _; (with_reducible repeat (first | refine blk_drewN ?_ _ | refine blk_drew ?_ | refine blk_alloc ?_ _)); refine blk_far ?_ NB90040_378.out _; (with_reducible repeat (first | refine blk_drewN ?_ _ | refine blk_drew ?_ | refine blk_alloc ?_ _)); exact BK90040.out⟩
                      have n2_ : Aside0 (((((w68.setCell ⟨gb378, 0, none⟩ (.int .i64 ((rd_T77 l0_1 x56_3).f0))).setCell ⟨gb378, 1, none⟩ (.int .i64 ((rd_T77 l0_1 x56_3).f1))).setCell ⟨gb378, 2, none⟩ (.int .i64 ((rd_T77 l0_1 x56_3).f2))).setCell ⟨gb378, 3, none⟩ (.int .i64 ((rd_T77 l0_1 x56_3).f3))).heap[g2_1_]? = some (.cells #[.int .i64 a2_1_0] 2 (0, 0))) := ⟨by (with_reducible repeat (first | refine blk_drewN ?_ _ | refine blk_drew ?_ | refine blk_alloc ?_ _)); refine blk_far ?_ NB90041_378.out _; (with_reducible repeat (first | refine blk_drewN ?_ _ | refine blk_drew ?_ | refine blk_alloc ?_ _)); refine blk_far ?_ NB90041_378.out _; (with_reducible repeat (first | refine blk_drewN ?_ _ | refine blk_drew ?_ | refine blk_alloc ?_ _)); refine blk_far ?_ NB90041_378.out _; (with_reducible repeat (first | refine blk_drewN ?_ _ | refine blk_drew ?_ | refine blk_alloc ?_ _)); refine blk_far ?_ NB90041_378.out _; (with_reducible repeat (first | refine blk_drewN ?_ _ | refine blk_drew ?_ | refine blk_alloc ?_ _)); exact BK90041.out⟩
                      have n3_ : Aside0 (((((w68.setCell ⟨gb378, 0, none⟩ (.int .i64 ((rd_T77 l0_1 x56_3).f0))).setCell ⟨gb378, 1, none⟩ (.int .i64 ((rd_T77 l0_1 x56_3).f1))).setCell ⟨gb378, 2, none⟩ (.int .i64 ((rd_T77 l0_1 x56_3).f2))).setCell ⟨gb378, 3, none⟩ (.int .i64 ((rd_T77 l0_1 x56_3).f3))).heap[gb364]? = some (.cells #[.int .i64 a0_0, .slice (some ad377) l0_1.length c0_1] 30 (0, 0))) := ⟨by (with_reducible repeat (first | refine blk_drewN ?_ _ | refine blk_drew ?_ | refine blk_alloc ?_ _)); refine blk_far ?_ NB364_378.out _; (with_reducible repeat (first | refine blk_drewN ?_ _ | refine blk_drew ?_ | refine blk_alloc ?_ _)); refine blk_far ?_ NB364_378.out _; (with_reducible repeat (first | refine blk_drewN ?_ _ | refine blk_drew ?_ | refine blk_alloc ?_ _)); refine blk_far ?_ NB364_378.out _; (with_reducible repeat (first | refine blk_drewN ?_ _ | refine blk_drew ?_ | refine blk_alloc ?_ _)); refine blk_far ?_ NB364_378.out _; (with_reducible repeat (first | refine blk_drewN ?_ _ | refine blk_drew ?_ | refine blk_alloc ?_ _)); exact BK364.out⟩
                      have n4_ : Aside0 (((((w68.setCell ⟨gb378, 0, none⟩ (.int .i64 ((rd_T77 l0_1 x56_3).f0))).setCell ⟨gb378, 1, none⟩ (.int .i64 ((rd_T77 l0_1 x56_3).f1))).setCell ⟨gb378, 2, none⟩ (.int .i64 ((rd_T77 l0_1 x56_3).f2))).setCell ⟨gb378, 3, none⟩ (.int .i64 ((rd_T77 l0_1 x56_3).f3))).heap[gb378]? = some (.cells #[.int .i64 ((rd_T77 l0_1 x56_3).f0), .int .i64 ((rd_T77 l0_1 x56_3).f1), .int .i64 ((rd_T77 l0_1 x56_3).f2), .int .i64 ((rd_T77 l0_1 x56_3).f3)] 77 (0, 0))) := ⟨by (with_reducible repeat (first | refine blk_drewN ?_ _ | refine blk_drew ?_ | refine blk_alloc ?_ _)); refine blk_put (cs := #[.int .i64 ((rd_T77 l0_1 x56_3).f0), .int .i64 ((rd_T77 l0_1 x56_3).f1), .int .i64 ((rd_T77 l0_1 x56_3).f2), .int .i64 0]) ?_ 3 _ rfl; (with_reducible repeat (first | refine blk_drewN ?_ _ | refine blk_drew ?_ | refine blk_alloc ?_ _)); refine blk_put (cs := #[.int .i64 ((rd_T77 l0_1 x56_3).f0), .int .i64 ((rd_T77 l0_1 x56_3).f1), .int .i64 0, .int .i64 0]) ?_ 2 _ rfl; (with_reducible repeat (first | refine blk_drewN ?_ _ | refine blk_drew ?_ | refine blk_alloc ?_ _)); refine blk_put (cs := #[.int .i64 ((rd_T77 l0_1 x56_3).f0), .int .i64 0, .int .i64 0, .int .i64 0]) ?_ 1 _ rfl; (with_reducible repeat (first | refine blk_drewN ?_ _ | refine blk_drew ?_ | refine blk_alloc ?_ _)); refine blk_put (cs := #[.int .i64 0, .int .i64 0, .int .i64 0, .int .i64 0]) ?_ 0 _ rfl; (with_reducible repeat (first | refine blk_drewN ?_ _ | refine blk_drew ?_ | refine blk_alloc ?_ _)); exact BK378.out⟩
                      have n5_ : Aside0 (Below w.heap.size w ((((w68.setCell ⟨gb378, 0, none⟩ (.int .i64 ((rd_T77 l0_1 x56_3).f0))).setCell ⟨gb378, 1, none⟩ (.int .i64 ((rd_T77 l0_1 x56_3).f1))).setCell ⟨gb378, 2, none⟩ (.int .i64 ((rd_T77 l0_1 x56_3).f2))).setCell ⟨gb378, 3, none⟩ (.int .i64 ((rd_T77 l0_1 x56_3).f3)))) := ⟨by repeat (first | (with_reducible first | exact HB.out | apply below_alloc | apply pw_below_drewN | apply below_drew1 | refine below_set ?_ GE364.out | refine below_set ?_ GE378.out) | exact HB.out)⟩
                      (try clear HO_7)
                      (try clear BK90040)
                      (try clear BK90041)
                      (try clear BK364)
                      (try clear BK378)
                      (try clear HB)
                      generalize ((((w68.setCell ⟨gb378, 0, none⟩ (.int .i64 ((rd_T77 l0_1 x56_3).f0))).setCell ⟨gb378, 1, none⟩ (.int .i64 ((rd_T77 l0_1 x56_3).f1))).setCell ⟨gb378, 2, none⟩ (.int .i64 ((rd_T77 l0_1 x56_3).f2))).setCell ⟨gb378, 3, none⟩ (.int .i64 ((rd_T77 l0_1 x56_3).f3))) = w73 at n0_ n1_ n2_ n3_ n4_ n5_ ⊢
                      have HO_7 := n0_
                      have BK90040 := n1_
                      have BK90041 := n2_
                      have BK364 := n3_
                      have BK378 := n4_
                      have HB := n5_
                      clear n0_ n1_ n2_ n3_ n4_ n5_
                      have n0_ := Aside0.mk (Kd.S_drew HO_7.out)
                      have n1_ := Aside0.mk (blk_drew BK90040.out)
                      have n2_ := Aside0.mk (blk_drew BK90041.out)
                      have n3_ := Aside0.mk (blk_drew BK364.out)
                      have n4_ := Aside0.mk (blk_drew BK378.out)
                      have n5_ := Aside0.mk (below_drew1 HB.out)
                      clear HO_7
                      clear BK90040
                      clear BK90041
                      clear BK364
                      clear BK378
                      clear HB
                      have HO_7 := n0_
                      have BK90040 := n1_
                      have BK90041 := n2_
                      have BK364 := n3_
                      have BK378 := n4_
                      have HB := n5_
                      clear n0_ n1_ n2_ n3_ n4_ n5_
                      have p379 : 0 ≤ (x8_1 : Int) := of_decide_eq_true (by first | (with_reducible assumption) | assumption)
                      have q379 : x8_1 < (l1.length : Int) := of_decide_eq_true (by first | (with_reducible assumption) | assumption)
                      obtain ⟨ad379, e379, hx379_0⟩ := Kd.at_int HR1.out x8_1 p379 q379
                      have hw379_0 := hx379_0
                      cases e379
                      replace hx379_0 := (HB.out.cell (World.block_lt_of_cell? w _ hx379_0)).trans hx379_0
                      replace p379 := eq_true p379
                      replace q379 := eq_true q379
                      refine start_ (n := 7) (S := fun w' => w'.cell? ⟨gb378, 0, none⟩ = some (.int .i64 ((rd_T77 l0_1 x56_3).f0)) ∧ w'.cell? ⟨gb378, 1, none⟩ = some (.int .i64 ((rd_T77 l0_1 x56_3).f1)) ∧ w'.cell? ⟨gb378, 2, none⟩ = some (.int .i64 ((rd_T77 l0_1 x56_3).f2)) ∧ w'.cell? ⟨gb378, 3, none⟩ = some (.int .i64 ((rd_T77 l0_1 x56_3).f3)) ∧ w'.cell? (ad379.add (x8_1).toNat) = some (.int .i64 (rd l1 x8_1))) (ds := []) #[false, false, false, false, false, false, false] (by kernel_rfl) rfl rfl ⟨(blk_cell BK378.out 0).trans rfl, (blk_cell BK378.out 1).trans rfl, (blk_cell BK378.out 2).trans rfl, (blk_cell BK378.out 3).trans rfl, ((HB.out.cell (World.block_lt_of_cell? w _ hw379_0)).trans hw379_0)⟩ (fun hHeld => ?_)
                      generalize w73.drew = w74 at HO_7 BK90040 BK90041 BK364 BK378 HB hx379_0 hHeld ⊢
                      refine pure_ (i := 0) (N := some 60) (v := ?_) (a' := ?_) #[true, false, false, false, false, false, false] rfl rfl (by kernel_rfl) (fun _ _ _ h => h) (Or.inl ⟨by rfl, ?_⟩) ?_ ?_
                      rotate_left
                      ·intro w'
                       go_simp
                       with_reducible rfl
                      rotate_left
                      ·simp only [Act.put, List.setIfInBounds_toArray, List.set_cons_zero, List.set_cons_succ, i64_w, i32_w]
                       rfl
                      refine pure_ (i := 2) (N := some 62) (v := ?_) (a' := ?_) #[true, false, true, false, false, false, false] rfl rfl (by kernel_rfl) (fun _ _ _ h => h) (Or.inl ⟨by rfl, ?_⟩) ?_ ?_
                      rotate_left
                      ·intro w'
                       go_simp
                       with_reducible rfl
                      rotate_left
                      ·simp only [Act.put, List.setIfInBounds_toArray, List.set_cons_zero, List.set_cons_succ, i64_w, i32_w]
                       rfl
                      refine pure_ (i := 3) (N := some 63) (v := ?_) (a' := ?_) #[true, false, true, true, false, false, false] rfl rfl (by kernel_rfl) (fun _ _ _ h => h) (Or.inl ⟨by rfl, ?_⟩) ?_ ?_
                      rotate_left
                      ·intro w'
                       go_simp
                       with_reducible rfl
                      rotate_left
                      ·simp only [Act.put, List.setIfInBounds_toArray, List.set_cons_zero, List.set_cons_succ, i64_w, i32_w]
                       rfl
                      refine pure_ (i := 4) (N := some 64) (v := ?_) (a' := ?_) #[true, false, true, true, true, false, false] rfl rfl (by kernel_rfl) (fun _ _ _ h => h) (Or.inl ⟨by rfl, ?_⟩) ?_ ?_
                      rotate_left
                      ·intro w'
                       go_simp
                       with_reducible rfl
                      rotate_left
                      ·simp only [Act.put, List.setIfInBounds_toArray, List.set_cons_zero, List.set_cons_succ, i64_w, i32_w]
                       rfl
                      refine take_ (i := 1) (N := some 61) (v := ?_) (a' := ?_) #[true, true, true, true, true, false, false] rfl rfl (by kernel_rfl) (fun _ _ _ h => h) (Or.inl ⟨by rfl, ?_⟩) hHeld ?_ ?_
                      rotate_left
                      ·rintro w' ⟨s0, s1, s2, s3, s4⟩
                       go_simp
                       with_reducible rfl
                      rotate_left
                      ·simp only [Act.put, List.setIfInBounds_toArray, List.set_cons_zero, List.set_cons_succ, i64_w, i32_w]
                       rfl
                      refine take_ (i := 5) (N := some 65) (v := ?_) (a' := ?_) #[true, true, true, true, true, true, false] rfl rfl (by kernel_rfl) (fun _ _ _ h => h) (Or.inl ⟨by rfl, ?_⟩) hHeld ?_ ?_
                      rotate_left
                      ·rintro w' ⟨s0, s1, s2, s3, s4⟩
                       go_simp
                       with_reducible rfl
                      rotate_left
                      ·simp only [Act.put, List.setIfInBounds_toArray, List.set_cons_zero, List.set_cons_succ, i64_w, i32_w]
                       rfl
                      refine pure_ (i := 6) (N := some 66) (v := ?_) (a' := ?_) #[true, true, true, true, true, true, true] rfl rfl (by kernel_rfl) (fun _ _ _ h => h) (Or.inl ⟨by rfl, ?_⟩) ?_ ?_
                      rotate_left
                      ·intro w'
                       go_simp
                       with_reducible rfl
                      rotate_left
                      ·simp only [Act.put, List.setIfInBounds_toArray, List.set_cons_zero, List.set_cons_succ, i64_w, i32_w]
                       rfl
                      refine done_ (by kernel_rfl) ?_
                      try go_wp2_with fail
                      (try simp only [← hl7_3])
                      go_roundg k3
                      case measure => have := HK1.out; have := HK2.out; have := HK3.out; omega
                      case rel => exact ⟨(x7_3), (wrap64 (x56_3 + 1)), (by first | rfl | (simp; done) | (simp [*]; done) | (simp; decide +kernel)), H', ⟨by have := HK1.out; have := HK2.out; have := HK3.out; omega⟩, ⟨by (try simp only [hl7_2]); (try simp only [hl7_3]); (with_reducible repeat (first | apply Kd.S_alloc | apply Kd.S_drewN | apply Kd.S_drew)); exact HO_7.out⟩, ⟨by (try simp only [hl7_2]); (try simp only [hl7_3]); (with_reducible repeat (first | refine blk_drewN ?_ _ | refine blk_drew ?_ | refine blk_alloc ?_ _)); exact BK90040.out⟩, ⟨by (try simp only [hl7_2]); (try simp only [hl7_3]); (with_reducible repeat (first | refine blk_drewN ?_ _ | refine blk_drew ?_ | refine blk_alloc ?_ _)); exact BK90041.out⟩, ⟨by (try simp only [hl7_2]); (try simp only [hl7_3]); (with_reducible repeat (first | refine blk_drewN ?_ _ | refine blk_drew ?_ | refine blk_alloc ?_ _)); exact BK364.out⟩, ⟨by repeat (first | (with_reducible first | exact HB.out | apply below_alloc | apply pw_below_drewN | apply below_drew1 | refine below_set ?_ GE364.out | refine below_set ?_ GE378.out) | exact HB.out)⟩⟩
                    ·rw [if_neg c46] at H
                     exact absurd H (by simp)
                   ·rw [if_neg c45] at H
                    exact absurd H (by simp)
                  ·rw [if_neg c44] at H
                   exact absurd H (by simp)
                 ·rw [if_neg c43] at H
                  exact absurd H (by simp)
                ·rw [if_neg c42] at H
                 have c42b0 : decide (x56_3 < (l0_1.length : Int)) = false := decide_eq_false c42
                 clear c42
                 have H' := Aside0.mk H
                 clear H
                 go_wp2_with fail
                 (try simp only [← hl7_2, ← hl7_3])
                 go_roundg k3
                 case measure => have := HK1.out; have := HK2.out; have := HK3.out; omega
                 case rel => exact ⟨(x7_3), (wrap64 (x8_1 - 1)), (by first | rfl | (simp; done) | (simp [*]; done) | (simp; decide +kernel)), H', ⟨by have := HK1.out; have := HK2.out; have := HK3.out; omega⟩, ⟨by (try simp only [hl7_2]); (try simp only [hl7_3]); (with_reducible repeat (first | apply Kd.S_alloc | apply Kd.S_drewN | apply Kd.S_drew)); exact HO_7.out⟩, ⟨by (try simp only [hl7_2]); (try simp only [hl7_3]); (with_reducible repeat (first | refine blk_drewN ?_ _ | refine blk_drew ?_ | refine blk_alloc ?_ _)); exact BK90040.out⟩, ⟨by (try simp only [hl7_2]); (try simp only [hl7_3]); (with_reducible repeat (first | refine blk_drewN ?_ _ | refine blk_drew ?_ | refine blk_alloc ?_ _)); exact BK90041.out⟩, ⟨by (try simp only [hl7_2]); (try simp only [hl7_3]); (with_reducible repeat (first | refine blk_drewN ?_ _ | refine blk_drew ?_ | refine blk_alloc ?_ _)); exact BK364.out⟩, ⟨by repeat (first | (with_reducible first | exact HB.out | apply below_alloc | apply pw_below_drewN | apply below_drew1 | refine below_set ?_ GE364.out) | exact HB.out)⟩⟩
         ·rw [if_neg c14] at H
          exact absurd H (by simp)
        ·rw [if_neg c13] at H
         exact absurd H (by simp)
       ·rw [if_neg c12] at H
        exact absurd H (by simp)
      ·rw [if_neg c11] at H
       exact absurd H (by simp)
     ·rw [if_neg c10] at H
      have c10b0 : decide (0 ≤ x8_1) = false := decide_eq_false c10
      clear c10
      obtain rfl := Option.some.inj H
      go_wp2_with fail
      go_ret
      exact ⟨_, by first | rfl | (simp [errW_none, errW_some] <;> rfl) | (simp only [← hji4]; first | rfl | (simp [errW_none, errW_some] <;> rfl)) | (simp [*, errW_none, errW_some] <;> rfl), by (with_reducible repeat (first | apply Kd.S_alloc | apply Kd.S_drewN | apply Kd.S_drew)); exact Kd.S_mono HO_7.out (fun _ hk => trivial), by repeat (first | (with_reducible first | exact HB.out | apply below_alloc | apply pw_below_drewN | apply below_drew1 | refine below_set ?_ GE364.out) | exact HB.out)⟩
  ·rw [if_neg c6] at H
   exact absurd H (by simp)
 ·rw [if_neg c5] at H
  exact absurd H (by simp)
end Go.Proofs.Ytenlcakpcbmmdaa.Q
namespace Go.Proofs.Ytenlcakpcbmmdaa.R
open Go.RowKit Go.Proofs.YtenlcakpcbmmdaaW.PrintWords Go.Proofs.YtenlcakpcbmmdaaW.PrintLast Go.Proofs.YtenlcakpcbmmdaaW.PrintMore
attribute [local go_sem] max2_int min2_int max_two min_two max_three min_three max_four min_four
set_option linter.unusedVariables false
set_option linter.unusedSimpArgs false
def errW : Option Int → Value
 | none => .nilIface
 | some c => .iface 0 (.int .i64 c)
theorem errW_none : errW none = .nilIface := rfl
theorem errW_some (c : Int) : errW (some c) = .iface 0 (.int .i64 c) := rfl
structure S113 where
 f0 : Int
 f1 : Int
def z113 : S113 := ⟨(0 : Int), (0 : Int)⟩
def k113 : Kd S113 := Kd.iso (Kd.pair (Kd.int .i64) (Kd.int .i64)) (fun x : S113 => (x.f0, x.f1))
theorem k113_open {w : World} {x : S113} {cs : List Value} (h : k113.K w x cs) : cs = [.int .i64 x.f0, .int .i64 x.f1] := by
 obtain ⟨_, _, rfl, rfl, rfl⟩ := h
 exact rfl
theorem k113_mkM (w : World) (base : Nat) (ok : Nat → Prop) (x : S113)  : k113.M w base ok x [.int .i64 x.f0, .int .i64 x.f1] := ⟨[.int .i64 x.f0], [.int .i64 x.f1], rfl, rfl, rfl⟩
def rd_T113 (xs : List S113) (i : Int) : S113 := xs.getD i.toNat z113
theorem at_T113 {w : World} {A : Option Addr} {n : Nat} {xs : List S113} (h : Kd.C k113 w A n xs) (i : Int) (h0 : 0 ≤ i) (h1 : i < n) : ∃ ad , A = some ad ∧ w.cell? (ad.add (i.toNat * 2)) = some (.int .i64 (rd_T113 xs i).f0) ∧ w.cell? ⟨(ad.add (i.toNat * 2)).block, (ad.add (i.toNat * 2)).off + 1, none⟩ = some (.int .i64 (rd_T113 xs i).f1) := by
 obtain ⟨ad, c, e, _, hK, hc0⟩ := Kd.C_get h z113 i h0 h1
 have hc : ∀ j u, c[j]? = some u → w.cell? (ad.add (i.toNat * 2 + j)) = some u := hc0
 obtain rfl := k113_open hK
 exact ⟨ad, e, hc 0 _ rfl, by rw [← add_field _ _ 1 (by omega)]; exact hc 1 _ rfl⟩
end Go.Proofs.Ytenlcakpcbmmdaa.R
namespace Go.Proofs.Ytenlcakpcbmmdaa.R
open Go.RowKit Go.Proofs.YtenlcakpcbmmdaaW.PrintWords Go.Proofs.YtenlcakpcbmmdaaW.PrintLast Go.Proofs.YtenlcakpcbmmdaaW.PrintMore
attribute [local go_sem] max2_int min2_int max_two min_two max_three min_three max_four min_four
set_option linter.unusedVariables false
set_option linter.unusedSimpArgs false
theorem eqA113 (d : Nat) (w : World) (x0 y0 : Int) (x1 y1 : Int) :
  (Op.equalIn (d + 2) 113 (.agg #[.int .i64 x0, .int .i64 x1]) (.agg #[.int .i64 y0, .int .i64 y1])).run Try.prog w = .ok (x0 == y0 && (x1 == y1)) w := by
 refine eqA_of Try.underlying113 (by kernel_rfl) ?_
 refine eqf_cons (by rfl) (by go_simp; rfl) (by go_simp; rfl) (by go_simp) ?_
 exact eqf_last (by rfl) (by go_simp; rfl) (by go_simp; rfl) (by go_simp)
end Go.Proofs.Ytenlcakpcbmmdaa.R
namespace Go.Proofs.Ytenlcakpcbmmdaa.R
open Go.RowKit Go.Proofs.YtenlcakpcbmmdaaW.PrintWords Go.Proofs.YtenlcakpcbmmdaaW.PrintLast Go.Proofs.YtenlcakpcbmmdaaW.PrintMore
attribute [local go_sem] max2_int min2_int max_two min_two max_three min_three max_four min_four
set_option linter.unusedVariables false
set_option linter.unusedSimpArgs false
attribute [local go_sem high] eqA113
def impl_pair_122.l0 : Nat → List (S113) → Int → Int → Int → Int → Option (Int)
 | 0, _, _, _, _, _ => none
 | k + 1, x0, x7, x8, x102000, x102001 => if x8 < x7 then (if 0 ≤ x8 then (if x8 < (x0.length : Int) then (if (x102000 == ((rd_T113 x0 x8).f0) && (x102001 == ((rd_T113 x0 x8).f1))) = true then (some x8) else (impl_pair_122.l0 k x0 x7 (wrap64 (x8 + 1)) x102000 x102001)) else (none)) else (none)) else (some (-1))
def impl_pair_122.f (k : Nat) (l0 : List (S113)) (a1_0 : Int) (a1_1 : Int) : Option (Int) := impl_pair_122.l0 k l0 (l0.length : Int) 0 a1_0 a1_1
theorem impl_pair_122.mono_l : ∀ k, (∀ y0 y1 y2 y3 y4, LeO (impl_pair_122.l0 k y0 y1 y2 y3 y4) (impl_pair_122.l0 (k + 1) y0 y1 y2 y3 y4))
 | 0 => fun _ _ _ _ _ r h => by simp [impl_pair_122.l0] at h
 | k + 1 => by
  have ih0 := impl_pair_122.mono_l k
  ·intro y0 y1 y2 y3 y4
   unfold impl_pair_122.l0
   repeat' first
   | (with_reducible exact ih0 _ _ _ _ _)
   | (with_reducible exact LeO.refl _)
   | (with_reducible exact LeO.none _)
   | (with_reducible refine LeO.ite ?_ ?_)
   | (with_reducible refine LeO.bind ?_ (fun _ => ?_))
   | exact ih0 _ _ _ _ _
   | exact LeO.none _
   | refine LeO.ite ?_ ?_
   | refine LeO.bind ?_ (fun _ => ?_)
theorem impl_pair_122.mono : ∀ a0 a1 a2 k, LeO (impl_pair_122.f k a0 a1 a2) (impl_pair_122.f (k + 1) a0 a1 a2) := by
 intro a0 a1 a2 k
 have ih0 := impl_pair_122.mono_l k
 unfold impl_pair_122.f
 repeat' first
   | (with_reducible exact ih0 _ _ _ _ _)
   | (with_reducible exact LeO.refl _)
   | (with_reducible exact LeO.none _)
   | (with_reducible refine LeO.ite ?_ ?_)
   | (with_reducible refine LeO.bind ?_ (fun _ => ?_))
   | exact ih0 _ _ _ _ _
   | exact LeO.none _
   | refine LeO.ite ?_ ?_
   | refine LeO.bind ?_ (fun _ => ?_)
set_option maxHeartbeats 8000000 in
set_option maxRecDepth 100000 in
theorem impl_pair_122.calls (k : Nat) (A0 : Option Addr) (c0 : Nat) (l0 : List (S113)) (a1_0 : Int) (a1_1 : Int) (r : Int) (w : World) (hr0 : Kd.C k113 w A0 l0.length l0) (hc0 : l0.length ≤ c0) (h : impl_pair_122.f k l0 a1_0 a1_1 = some r) :
  Calls Try.prog 122 #[.slice A0 l0.length c0, .agg #[.int .i64 a1_0, .int .i64 a1_1]] w fun e w' => e = .returned (.int .i64 r) ∧ Below w.heap.size w w' := by
 have hu113 := Try.underlying113
 have HR0 := Aside0.mk hr0
 have HC0 := Aside0.mk hc0
 clear hr0 hc0
 have HB := Aside0.mk (Below.refl w.heap.size w)
 have H : (impl_pair_122.l0 k l0 (l0.length : Int) 0 a1_0 a1_1) = some r := h
 clear h
 have H' := Aside0.mk H
 clear H
 go_enter Try.func122, Try.ntmps122
 go_wp2_with (first | ((with_reducible refine gate_dst (N := 3) rfl ?_); refine box_event ?hg (N := 3) ?hd (cs := #[.int .i64 a1_0, .int .i64 a1_1]) (t := 113) ?hr ?_; (case hd => rfl); (case hg => rfl); (case hr => first | (go_simp; done) | (go_simp; rfl)); intro gb101 hg w3 hbox hb; have n0_ := Aside0.mk (below_step (by repeat (first | (with_reducible first | exact HB.out | apply below_alloc | apply pw_below_drewN | apply below_drew1) | exact HB.out)) hb); have n1_ := Aside0.mk (hbox); have n2_ := Aside0.mk ((by rw [hg]; exact (below_size (by repeat (first | (with_reducible first | exact HB.out | apply below_alloc | apply pw_below_drewN | apply below_drew1) | exact HB.out))) : w.heap.size ≤ gb101)); have n3_ := Aside0.mk ((by rw [hg]; exact (below_size (by repeat (first | (with_reducible first | exact HB.out | apply below_alloc | apply pw_below_drewN | apply below_drew1) | exact HB.out))) : w.heap.size ≤ gb101)); clear HB; have HB := n0_; have BK101 := n1_; have GW101 := n2_; have GE101 := n3_; clear n0_ n1_ n2_ n3_; clear hb hbox hg))
 repeat (go_quiet (first | ((with_reducible refine gate_dst (N := 3) rfl ?_); refine box_event ?hg (N := 3) ?hd (cs := #[.int .i64 a1_0, .int .i64 a1_1]) (t := 113) ?hr ?_; (case hd => rfl); (case hg => rfl); (case hr => first | (go_simp; done) | (go_simp; rfl)); intro gb101 hg w3 hbox hb; have n0_ := Aside0.mk (below_step (by repeat (first | (with_reducible first | exact HB.out | apply below_alloc | apply pw_below_drewN | apply below_drew1) | exact HB.out)) hb); have n1_ := Aside0.mk (hbox); have n2_ := Aside0.mk ((by rw [hg]; exact (below_size (by repeat (first | (with_reducible first | exact HB.out | apply below_alloc | apply pw_below_drewN | apply below_drew1) | exact HB.out))) : w.heap.size ≤ gb101)); have n3_ := Aside0.mk ((by rw [hg]; exact (below_size (by repeat (first | (with_reducible first | exact HB.out | apply below_alloc | apply pw_below_drewN | apply below_drew1) | exact HB.out))) : w.heap.size ≤ gb101)); clear HB; have HB := n0_; have BK101 := n1_; have GW101 := n2_; have GE101 := n3_; clear n0_ n1_ n2_ n3_; clear hb hbox hg)); try go_wp2_with (first | ((with_reducible refine gate_dst (N := 3) rfl ?_); refine box_event ?hg (N := 3) ?hd (cs := #[.int .i64 a1_0, .int .i64 a1_1]) (t := 113) ?hr ?_; (case hd => rfl); (case hg => rfl); (case hr => first | (go_simp; done) | (go_simp; rfl)); intro gb101 hg w3 hbox hb; have n0_ := Aside0.mk (below_step (by repeat (first | (with_reducible first | exact HB.out | apply below_alloc | apply pw_below_drewN | apply below_drew1) | exact HB.out)) hb); have n1_ := Aside0.mk (hbox); have n2_ := Aside0.mk ((by rw [hg]; exact (below_size (by repeat (first | (with_reducible first | exact HB.out | apply below_alloc | apply pw_below_drewN | apply below_drew1) | exact HB.out))) : w.heap.size ≤ gb101)); have n3_ := Aside0.mk ((by rw [hg]; exact (below_size (by repeat (first | (with_reducible first | exact HB.out | apply below_alloc | apply pw_below_drewN | apply below_drew1) | exact HB.out))) : w.heap.size ≤ gb101)); clear HB; have HB := n0_; have BK101 := n1_; have GW101 := n2_; have GE101 := n3_; clear n0_ n1_ n2_ n3_; clear hb hbox hg)))
 go_loopg [8] k (fun kq v8 w' => ∃ (x8_1 : Int), v8 = .int .i64 x8_1 ∧ Aside0 (impl_pair_122.l0 kq l0 (l0.length : Int) x8_1 a1_0 a1_1 = some r) ∧ Aside0 (kq ≤ k) ∧ Aside0 (w'.heap[gb101]? = some (.cells #[.int .i64 a1_0, .int .i64 a1_1] 113 (0, 0))) ∧ Aside0 (Below w.heap.size w w'))
 case atStart => exact ⟨(0), (by first | rfl | (simp; done) | (simp [*]; done) | (simp; decide +kernel)), H', ⟨Nat.le_refl _⟩, ⟨by (with_reducible repeat (first | refine blk_drewN ?_ _ | refine blk_drew ?_ | refine blk_alloc ?_ _)); exact BK101.out⟩, ⟨by repeat (first | (with_reducible first | exact HB.out | apply below_alloc | apply pw_below_drewN | apply below_drew1 | refine below_set ?_ GE101.out) | exact HB.out)⟩⟩
 case round =>
  clear H'
  try clear c1
  try clear p2
  obtain ⟨x8_1, rfl, HA, HK1, BK101, HB⟩ := hrel
  cases gk with
  | zero => exact absurd HA.out (by simp [impl_pair_122.l0])
  | succ k1 =>
   have H := HA.out
   clear HA
   simp only [impl_pair_122.l0] at H
   by_cases c4 : x8_1 < (l0.length : Int)
   ·rw [if_pos c4] at H
    have c4b0 : decide (x8_1 < (l0.length : Int)) = true := decide_eq_true c4
    clear c4
    by_cases c5 : 0 ≤ x8_1
    ·rw [if_pos c5] at H
     have c5b0 : decide (0 ≤ x8_1) = true := decide_eq_true c5
     clear c5
     by_cases c6 : x8_1 < (l0.length : Int)
     ·rw [if_pos c6] at H
      have c6b0 : decide (x8_1 < (l0.length : Int)) = true := decide_eq_true c6
      clear c6
      by_cases c7 : (a1_0 == ((rd_T113 l0 x8_1).f0) && (a1_1 == ((rd_T113 l0 x8_1).f1))) = true
      ·rw [if_pos c7] at H
       have c7b0 : (a1_0 == ((rd_T113 l0 x8_1).f0) && (a1_1 == ((rd_T113 l0 x8_1).f1))) = true := c7
       (try (have c7b1 : decide (a1_0 = ((rd_T113 l0 x8_1).f0) && (a1_1 == ((rd_T113 l0 x8_1).f1))) = true := by simpa using c7))
       (try (have c7b2 : (a1_0 == ((rd_T113 l0 x8_1).f0) && (a1_1 == ((rd_T113 l0 x8_1).f1))) = true := by simpa using c7))
       clear c7
       obtain rfl := Option.some.inj H
       have hcz8_0 : wr.cell? ⟨gb101, 0, none⟩ = some (.int .i64 a1_0) := (blk_cell BK101.out 0).trans rfl
       have hcz8_1 : wr.cell? ⟨gb101, 1, none⟩ = some (.int .i64 a1_1) := (blk_cell BK101.out 1).trans rfl
       have hfz8_0 := blk_frozen BK101.out 0
       have hfz8_1 := blk_frozen BK101.out 1
       have p102 : 0 ≤ (x8_1 : Int) := of_decide_eq_true (by first | (with_reducible assumption) | assumption)
       have q102 : x8_1 < (l0.length : Int) := of_decide_eq_true (by first | (with_reducible assumption) | assumption)
       obtain ⟨ad102, e102, hx102_0, hx102_1⟩ := at_T113 HR0.out x8_1 p102 q102
       cases e102
       replace hx102_0 := (HB.out.cell (World.block_lt_of_cell? w _ hx102_0)).trans hx102_0
       replace hx102_1 := (HB.out.cell (World.block_lt_of_cell? w _ hx102_1)).trans hx102_1
       replace p102 := eq_true p102
       replace q102 := eq_true q102
       go_wp2
       repeat (go_quiet (fail); try go_wp2)
       go_ret
       exact ⟨by first | rfl | (simp [errW_none, errW_some] <;> rfl) | (simp [*, errW_none, errW_some] <;> rfl), by repeat (first | (with_reducible first | exact HB.out | apply below_alloc | apply pw_below_drewN | apply below_drew1 | refine below_set ?_ GE101.out) | exact HB.out)⟩
      ·rw [if_neg c7] at H
       have c7b0 : (a1_0 == ((rd_T113 l0 x8_1).f0) && (a1_1 == ((rd_T113 l0 x8_1).f1))) = false := by simpa using c7
       (try (have c7b1 : decide (a1_0 = ((rd_T113 l0 x8_1).f0) && (a1_1 == ((rd_T113 l0 x8_1).f1))) = false := by simpa using c7))
       (try (have c7b2 : (a1_0 == ((rd_T113 l0 x8_1).f0) && (a1_1 == ((rd_T113 l0 x8_1).f1))) = false := by simpa using c7))
       (try (have c7b3 : ¬ (a1_0 = ((rd_T113 l0 x8_1).f0) && (a1_1 == ((rd_T113 l0 x8_1).f1))) := by simpa using c7))
       clear c7
       have H' := Aside0.mk H
       clear H
       have hcz9_0 : wr.cell? ⟨gb101, 0, none⟩ = some (.int .i64 a1_0) := (blk_cell BK101.out 0).trans rfl
       have hcz9_1 : wr.cell? ⟨gb101, 1, none⟩ = some (.int .i64 a1_1) := (blk_cell BK101.out 1).trans rfl
       have hfz9_0 := blk_frozen BK101.out 0
       have hfz9_1 := blk_frozen BK101.out 1
       have p102 : 0 ≤ (x8_1 : Int) := of_decide_eq_true (by first | (with_reducible assumption) | assumption)
       have q102 : x8_1 < (l0.length : Int) := of_decide_eq_true (by first | (with_reducible assumption) | assumption)
       obtain ⟨ad102, e102, hx102_0, hx102_1⟩ := at_T113 HR0.out x8_1 p102 q102
       cases e102
       replace hx102_0 := (HB.out.cell (World.block_lt_of_cell? w _ hx102_0)).trans hx102_0
       replace hx102_1 := (HB.out.cell (World.block_lt_of_cell? w _ hx102_1)).trans hx102_1
       replace p102 := eq_true p102
       replace q102 := eq_true q102
       go_wp2
       repeat (go_quiet (fail); try go_wp2)
       go_roundg k1
       case measure => have := HK1.out; omega
       case rel => exact ⟨(wrap64 (x8_1 + 1)), (by first | rfl | (simp; done) | (simp [*]; done) | (simp; decide +kernel)), H', ⟨by have := HK1.out; omega⟩, ⟨by (with_reducible repeat (first | refine blk_drewN ?_ _ | refine blk_drew ?_ | refine blk_alloc ?_ _)); exact BK101.out⟩, ⟨by repeat (first | (with_reducible first | exact HB.out | apply below_alloc | apply pw_below_drewN | apply below_drew1 | refine below_set ?_ GE101.out) | exact HB.out)⟩⟩
     ·rw [if_neg c6] at H
      exact absurd H (by simp)
    ·rw [if_neg c5] at H
     exact absurd H (by simp)
   ·rw [if_neg c4] at H
    have c4b0 : decide (x8_1 < (l0.length : Int)) = false := decide_eq_false c4
    clear c4
    obtain rfl := Option.some.inj H
    go_wp2
    repeat (go_quiet (fail); try go_wp2)
    go_ret
    exact ⟨by first | rfl | (simp [errW_none, errW_some] <;> rfl) | (simp [*, errW_none, errW_some] <;> rfl), by repeat (first | (with_reducible first | exact HB.out | apply below_alloc | apply pw_below_drewN | apply below_drew1 | refine below_set ?_ GE101.out) | exact HB.out)⟩
end Go.Proofs.Ytenlcakpcbmmdaa.R
namespace Go.Proofs.Ytenlcakpcbmmdaa.R
open Go.RowKit Go.Proofs.YtenlcakpcbmmdaaW.PrintWords Go.Proofs.YtenlcakpcbmmdaaW.PrintLast Go.Proofs.YtenlcakpcbmmdaaW.PrintMore
attribute [local go_sem] max2_int min2_int max_two min_two max_three min_three max_four min_four
set_option linter.unusedVariables false
set_option linter.unusedSimpArgs false
def impl_pair_117.f (k : Nat) (l0 : List (S113)) (a1_0 : Int) (a1_1 : Int) : Option (Bool) := (impl_pair_122.f k l0 a1_0 a1_1).bind fun t104 => (some (decide (t104 ≥ 0)))
theorem impl_pair_117.mono : ∀ a0 a1 a2 k, LeO (impl_pair_117.f k a0 a1 a2) (impl_pair_117.f (k + 1) a0 a1 a2) := by
 intro a0 a1 a2 k
 unfold impl_pair_117.f
 repeat' first
   | (with_reducible exact impl_pair_122.mono _ _ _ _)
   | (with_reducible exact LeO.refl _)
   | (with_reducible exact LeO.none _)
   | (with_reducible refine LeO.ite ?_ ?_)
   | (with_reducible refine LeO.bind ?_ (fun _ => ?_))
   | exact impl_pair_122.mono _ _ _ _
   | exact LeO.none _
   | refine LeO.ite ?_ ?_
   | refine LeO.bind ?_ (fun _ => ?_)
set_option maxHeartbeats 8000000 in
set_option maxRecDepth 100000 in
theorem impl_pair_117.calls (k : Nat) (A0 : Option Addr) (c0 : Nat) (l0 : List (S113)) (a1_0 : Int) (a1_1 : Int) (r : Bool) (w : World) (hr0 : Kd.C k113 w A0 l0.length l0) (hc0 : l0.length ≤ c0) (h : impl_pair_117.f k l0 a1_0 a1_1 = some r) :
  Calls Try.prog 117 #[.slice A0 l0.length c0, .agg #[.int .i64 a1_0, .int .i64 a1_1]] w fun e w' => e = .returned (.bool r) ∧ Below w.heap.size w w' := by
 have hu113 := Try.underlying113
 have HR0 := Aside0.mk hr0
 have HC0 := Aside0.mk hc0
 clear hr0 hc0
 have HB := Aside0.mk (Below.refl w.heap.size w)
 have H : ((impl_pair_122.f k l0 a1_0 a1_1).bind fun t104 => (some (decide (t104 ≥ 0)))) = some r := h
 clear h
 replace H := Option.bind_eq_some_iff.mp H
 obtain ⟨t104, A30, H⟩ := H
 replace H : (some (decide (t104 ≥ 0))) = some r := H
 have A3 := Aside0.mk A30
 clear A30
 obtain rfl := Option.some.inj H
 go_enter Try.func117, Try.ntmps117
 go_wp2_with (first | ((with_reducible refine gate_dst (N := 3) rfl ?_); refine box_event ?hg (N := 3) ?hd (cs := #[.int .i64 a1_0, .int .i64 a1_1]) (t := 113) ?hr ?_; (case hd => rfl); (case hg => rfl); (case hr => first | (go_simp; done) | (go_simp; rfl)); intro gb103 hg w4 hbox hb; have n0_ := Aside0.mk (below_step (by repeat (first | (with_reducible first | exact HB.out | apply below_alloc | apply pw_below_drewN | apply below_drew1) | exact HB.out)) hb); have n1_ := Aside0.mk (hbox); have n2_ := Aside0.mk ((by rw [hg]; exact (below_size (by repeat (first | (with_reducible first | exact HB.out | apply below_alloc | apply pw_below_drewN | apply below_drew1) | exact HB.out))) : w.heap.size ≤ gb103)); have n3_ := Aside0.mk ((by rw [hg]; exact (below_size (by repeat (first | (with_reducible first | exact HB.out | apply below_alloc | apply pw_below_drewN | apply below_drew1) | exact HB.out))) : w.heap.size ≤ gb103)); clear HB; have HB := n0_; have BK103 := n1_; have GW103 := n2_; have GE103 := n3_; clear n0_ n1_ n2_ n3_; clear hb hbox hg; have hcz5_0 : w4.cell? ⟨gb103, 0, none⟩ = some (.int .i64 a1_0) := (blk_cell BK103.out 0).trans rfl; have hcz5_1 : w4.cell? ⟨gb103, 1, none⟩ = some (.int .i64 a1_1) := (blk_cell BK103.out 1).trans rfl; have hfz5_0 := blk_frozen BK103.out 0; have hfz5_1 := blk_frozen BK103.out 1) | ((with_reducible refine gate_callee (f := 122) rfl ?_); refine goesL_ (some 7) rfl rfl Try.func122 (by kernel_rfl) rfl #[.slice A0 l0.length c0, .agg #[.int .i64 a1_0, .int .i64 a1_1]] rfl (by (try simp only [List.map_toArray, List.map_cons, List.map_nil]); first | done | rfl | (simp only [List.length_drop, List.length_take]; rfl)) ?_; (with_reducible refine (impl_pair_122.calls k _ _ l0 a1_0 a1_1 t104 _ ?side1 ?side2 A3.out).mono ?_); (case side1 => repeat (first | exact (Kd.C_below HR0.out HB.out) | (with_reducible refine Kd.C_alloc ?_ _) | (with_reducible refine Kd.C_drewN ?_ _) | (with_reducible refine Kd.C_drew ?_))); (case side2 => exact HC0.out); rintro e w6 ⟨rfl, hb⟩; refine ⟨_, rfl, ?_⟩; have n0_ := Aside0.mk (blk_below (g := gb103) (o := .cells #[.int .i64 a1_0, .int .i64 a1_1] 113 (0, 0)) (by (with_reducible repeat (first | refine blk_drewN ?_ _ | refine blk_drew ?_ | refine blk_alloc ?_ _)); exact BK103.out) hb); have n1_ := Aside0.mk (below_step (by repeat (first | (with_reducible first | exact HB.out | apply below_alloc | apply pw_below_drewN | apply below_drew1 | refine below_set ?_ GE103.out) | exact HB.out)) hb); clear BK103; clear HB; have BK103 := n0_; have HB := n1_; clear n0_ n1_; (try clear hb); (try clear hb2); (try clear hk); (try clear hi)))
 go_ret
 exact ⟨by first | rfl | (simp [errW_none, errW_some] <;> rfl) | (simp [*, errW_none, errW_some] <;> rfl), by repeat (first | (with_reducible first | exact HB.out | apply below_alloc | apply pw_below_drewN | apply below_drew1 | refine below_set ?_ GE103.out) | exact HB.out)⟩
end Go.Proofs.Ytenlcakpcbmmdaa.R
namespace Go.Proofs.Ytenlcakpcbmmdaa.Q
open Go.RowKit Go.Proofs.YtenlcakpcbmmdaaW.PrintWords Go.Proofs.YtenlcakpcbmmdaaW.PrintLast Go.Proofs.YtenlcakpcbmmdaaW.PrintMore
attribute [local go_sem] max2_int min2_int max_two min_two max_three min_three max_four min_four
set_option linter.unusedVariables false
set_option linter.unusedSimpArgs false
def impl_southWords_1.f (k : Nat) (a0_0 : Int) (l0_1 : List (S77)) (l1_0 : List Int) : Option (Bool) := (impl_Set_isWord.f k a0_0 l0_1 l1_0).bind fun t413 => (some t413)
theorem impl_southWords_1.mono : ∀ a0 a1 a2 k, LeO (impl_southWords_1.f k a0 a1 a2) (impl_southWords_1.f (k + 1) a0 a1 a2) := by
 intro a0 a1 a2 k
 unfold impl_southWords_1.f
 repeat' first
   | (with_reducible exact impl_Set_isWord.mono _ _ _ _)
   | (with_reducible exact LeO.refl _)
   | (with_reducible exact LeO.none _)
   | (with_reducible refine LeO.ite ?_ ?_)
   | (with_reducible refine LeO.bind ?_ (fun _ => ?_))
   | exact impl_Set_isWord.mono _ _ _ _
   | exact LeO.none _
   | refine LeO.ite ?_ ?_
   | refine LeO.bind ?_ (fun _ => ?_)
set_option maxHeartbeats 8000000 in
set_option maxRecDepth 100000 in
theorem impl_southWords_1.calls (k : Nat) (g0_ : Nat) (a0_0 : Int) (A0_1 : Option Addr) (c0_1 : Nat) (l0_1 : List (S77)) (g1_ : Nat) (A1_0 : Option Addr) (c1_0 : Nat) (l1_0 : List Int) (r : Bool) (w : World) (hr0_1 : Kd.C k77 w A0_1 l0_1.length l0_1) (hc0_1 : l0_1.length ≤ c0_1) (hr1_0 : Kd.C (Kd.int .i64) w A1_0 l1_0.length l1_0) (hc1_0 : l1_0.length ≤ c1_0) (hb0_ : w.heap[g0_]? = some (.cells #[.int .i64 a0_0, .slice A0_1 l0_1.length c0_1] 30 (0, 0))) (hb1_ : w.heap[g1_]? = some (.cells #[.slice A1_0 l1_0.length c1_0] 34 (0, 0))) (h : impl_southWords_1.f k a0_0 l0_1 l1_0 = some r) :
  Calls Try.prog 99 #[.pointer (some ⟨g0_, 0, none⟩), .pointer (some ⟨g1_, 0, none⟩)] w fun e w' => e = .returned (.bool r) ∧ Below w.heap.size w w' := by
 have hu30 := Try.underlying30
 have HR0_1 := Aside0.mk hr0_1
 have HC0_1 := Aside0.mk hc0_1
 clear hr0_1 hc0_1
 have HR1_0 := Aside0.mk hr1_0
 have HC1_0 := Aside0.mk hc1_0
 clear hr1_0 hc1_0
 have BK0 := Aside0.mk hb0_
 clear hb0_
 have BK1 := Aside0.mk hb1_
 clear hb1_
 have HB := Aside0.mk (Below.refl w.heap.size w)
 have H : ((impl_Set_isWord.f k a0_0 l0_1 l1_0).bind fun t413 => (some t413)) = some r := h
 clear h
 replace H := Option.bind_eq_some_iff.mp H
 obtain ⟨t413, A30, H⟩ := H
 replace H : (some t413) = some r := H
 have A3 := Aside0.mk A30
 clear A30
 obtain rfl := Option.some.inj H
 have hcz4_0 : w.cell? ⟨g0_, 0, none⟩ = some (.int .i64 a0_0) := (blk_cell BK0.out 0).trans rfl
 have hcz4_1 : w.cell? ⟨g0_, 1, none⟩ = some (.slice A0_1 l0_1.length c0_1) := (blk_cell BK0.out 1).trans rfl
 have hfz4_0 := blk_frozen BK0.out 0
 have hfz4_1 := blk_frozen BK0.out 1
 have hcz5_0 : w.cell? ⟨g1_, 0, none⟩ = some (.slice A1_0 l1_0.length c1_0) := (blk_cell BK1.out 0).trans rfl
 have hfz5_0 := blk_frozen BK1.out 0
 go_enter Try.func99, Try.ntmps99
 go_wp2_with (first | ((with_reducible refine gate_callee (f := 65) rfl ?_); refine goesL_ (some 5) rfl rfl Try.func65 (by kernel_rfl) rfl #[.agg #[.int .i64 a0_0, .slice A0_1 l0_1.length c0_1], .slice A1_0 l1_0.length c1_0] rfl (by (try simp only [List.map_toArray, List.map_cons, List.map_nil]); first | done | rfl | (simp only [List.length_drop, List.length_take]; rfl)) ?_; (with_reducible refine (impl_Set_isWord.calls k a0_0 _ _ l0_1 _ _ l1_0 t413 _ ?side1 ?side2 ?side3 ?side4 A3.out).mono ?_); (case side1 => repeat (first | exact HR0_1.out | (with_reducible refine Kd.C_alloc ?_ _) | (with_reducible refine Kd.C_drewN ?_ _) | (with_reducible refine Kd.C_drew ?_))); (case side2 => exact HC0_1.out); (case side3 => repeat (first | exact HR1_0.out | (with_reducible refine Kd.C_alloc ?_ _) | (with_reducible refine Kd.C_drewN ?_ _) | (with_reducible refine Kd.C_drew ?_))); (case side4 => exact HC1_0.out); rintro e w6 ⟨rfl, hb⟩; refine ⟨_, rfl, ?_⟩; have n0_ := Aside0.mk (blk_below (g := g0_) (o := .cells #[.int .i64 a0_0, .slice A0_1 l0_1.length c0_1] 30 (0, 0)) (by (with_reducible repeat (first | refine blk_drewN ?_ _ | refine blk_drew ?_ | refine blk_alloc ?_ _)); exact BK0.out) hb); have n1_ := Aside0.mk (blk_below (g := g1_) (o := .cells #[.slice A1_0 l1_0.length c1_0] 34 (0, 0)) (by (with_reducible repeat (first | refine blk_drewN ?_ _ | refine blk_drew ?_ | refine blk_alloc ?_ _)); exact BK1.out) hb); have n2_ := Aside0.mk (below_step (by repeat (first | (with_reducible first | exact HB.out | apply below_alloc | apply pw_below_drewN | apply below_drew1) | exact HB.out)) hb); clear BK0; clear BK1; clear HB; have BK0 := n0_; have BK1 := n1_; have HB := n2_; clear n0_ n1_ n2_; (try clear hb); (try clear hb2); (try clear hk); (try clear hi)))
 go_ret
 exact ⟨by first | rfl | (simp [errW_none, errW_some] <;> rfl) | (simp [*, errW_none, errW_some] <;> rfl), by repeat (first | (with_reducible first | exact HB.out | apply below_alloc | apply pw_below_drewN | apply below_drew1) | exact HB.out)⟩
end Go.Proofs.Ytenlcakpcbmmdaa.Q

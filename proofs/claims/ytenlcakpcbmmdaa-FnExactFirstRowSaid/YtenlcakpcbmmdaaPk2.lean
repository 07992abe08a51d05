/-
  Parts of the proof, in their order: QImplSetLeftAtImplAnyColour, PLeft, QImplWithin, QImplSetIsWord1, QSlicesIndexFuncInt64Int64AtImplSetIsWord1, QSlicesContainsFuncInt64Int64AtImplSetIsWord1, QImplSetIsWord, QSpecL01In, QSpecL01Word, PWord, Tile, Law0, IsSet, IsSet2, Ext, QSpecL02Code, PCode.
-/
import Derived.Test.YtenlcakpcbmmdaaPk1
import Derived.Test.YtenlcakpcbmmdaaProg
namespace Go.Proofs.Ytenlcakpcbmmdaa.Q
open Go.RowKit Go.Proofs.YtenlcakpcbmmdaaW.PrintWords Go.Proofs.YtenlcakpcbmmdaaW.PrintLast Go.Proofs.YtenlcakpcbmmdaaW.PrintMore
attribute [local go_sem] max2_int min2_int max_two min_two max_three min_three max_four min_four
set_option linter.unusedVariables false
set_option linter.unusedSimpArgs false
mutual
def impl_Set_left_at_impl_anyColour.l0 : Nat → List Int → List (List Int) → Int → Int → List (S77) → Option ((List (List Int)))
 | 0, _, _, _, _, _ => none
 | k + 1, x1, x7, x8, x228000, x228001 => if x8 ≥ 0 then (if 0 ≤ x228000 then (if (x228000 : Int).toNat ≤ 35184372088832 then (if 0 ≤ x8 then (if x8 < (x7.length : Int) then (impl_Set_left_at_impl_anyColour.l1 k x1 (x7.set (x8 : Int).toNat (List.replicate (x228000 : Int).toNat 0)) x8 x228000 0 x228000 x228001) else (none)) else (none)) else (none)) else (none)) else (some x7)
def impl_Set_left_at_impl_anyColour.l1 : Nat → List Int → List (List Int) → Int → Int → Int → Int → List (S77) → Option ((List (List Int)))
 | 0, _, _, _, _, _, _, _ => none
 | k + 1, x1, x7, x8, x29, x30, x228000, x228001 => if x30 < x29 then (if x8 = (x1.length : Int) then ((impl_anyColour.f x30).bind fun t235 => (if t235 = true then (if 0 ≤ x8 then (if x8 < (x7.length : Int) then (if 0 ≤ x30 then (if x30 < ((rd_L5 x7 x8).length : Int) then (impl_Set_left_at_impl_anyColour.l1 k x1 (x7.set (x8 : Int).toNat ((rd_L5 x7 x8).set (x30 : Int).toNat 1)) x8 x29 (wrap64 (x30 + 1)) x228000 x228001) else (none)) else (none)) else (none)) else (none)) else (impl_Set_left_at_impl_anyColour.l1 k x1 x7 x8 x29 (wrap64 (x30 + 1)) x228000 x228001))) else (impl_Set_left_at_impl_anyColour.l1 k x1 x7 x8 x29 (wrap64 (x30 + 1)) x228000 x228001)) else (if x8 = (x1.length : Int) then (impl_Set_left_at_impl_anyColour.l0 k x1 x7 (wrap64 (x8 - 1)) x228000 x228001) else (impl_Set_left_at_impl_anyColour.l2 k x1 x7 x8 x228001 (x228001.length : Int) 0 x228000 x228001))
def impl_Set_left_at_impl_anyColour.l2 : Nat → List Int → List (List Int) → Int → List (S77) → Int → Int → Int → List (S77) → Option ((List (List Int)))
 | 0, _, _, _, _, _, _, _, _ => none
 | k + 1, x1, x7, x8, x54, x55, x56, x228000, x228001 => if x56 < x55 then (if 0 ≤ x56 then (if x56 < (x54.length : Int) then (if 0 ≤ x8 then (if x8 < (x1.length : Int) then (if ((rd_T77 x54 x56).f1) = (rd x1 x8) then (if x8 < (x7.length : Int) then (if 0 ≤ ((rd_T77 x54 x56).f0) then (if ((rd_T77 x54 x56).f0) < ((rd_L5 x7 x8).length : Int) then (if 0 ≤ (wrap64 (x8 + 1)) then (if (wrap64 (x8 + 1)) < (x7.length : Int) then (if 0 ≤ ((rd_T77 x54 x56).f2) then (if ((rd_T77 x54 x56).f2) < ((rd_L5 x7 (wrap64 (x8 + 1))).length : Int) then (impl_Set_left_at_impl_anyColour.l2 k x1 (x7.set (x8 : Int).toNat ((rd_L5 x7 x8).set (((rd_T77 x54 x56).f0) : Int).toNat (mn 1000000000000001 (wrap64 ((rd (rd_L5 x7 x8) ((rd_T77 x54 x56).f0)) + (rd (rd_L5 x7 (wrap64 (x8 + 1))) ((rd_T77 x54 x56).f2))))))) x8 x54 x55 (wrap64 (x56 + 1)) x228000 x228001) else (none)) else (none)) else (none)) else (none)) else (none)) else (none)) else (none)) else (impl_Set_left_at_impl_anyColour.l2 k x1 x7 x8 x54 x55 (wrap64 (x56 + 1)) x228000 x228001)) else (none)) else (none)) else (none)) else (none)) else (impl_Set_left_at_impl_anyColour.l0 k x1 x7 (wrap64 (x8 - 1)) x228000 x228001)
end
def impl_Set_left_at_impl_anyColour.f (k : Nat) (a0_0 : Int) (l0_1 : List (S77)) (l1 : List Int)  : Option ((List (List Int))) := if 0 ≤ (wrap64 ((l1.length : Int) + 1)) then (if (wrap64 ((l1.length : Int) + 1) : Int).toNat ≤ 11728124029610 then (impl_Set_left_at_impl_anyColour.l0 k l1 (List.replicate (wrap64 ((l1.length : Int) + 1) : Int).toNat []) (l1.length : Int) a0_0 l0_1) else (none)) else (none)
theorem impl_Set_left_at_impl_anyColour.mono_l : ∀ k, (∀ y0 y1 y2 y3 y4, LeO (impl_Set_left_at_impl_anyColour.l0 k y0 y1 y2 y3 y4) (impl_Set_left_at_impl_anyColour.l0 (k + 1) y0 y1 y2 y3 y4)) ∧ (∀ y0 y1 y2 y3 y4 y5 y6, LeO (impl_Set_left_at_impl_anyColour.l1 k y0 y1 y2 y3 y4 y5 y6) (impl_Set_left_at_impl_anyColour.l1 (k + 1) y0 y1 y2 y3 y4 y5 y6)) ∧ (∀ y0 y1 y2 y3 y4 y5 y6 y7, LeO (impl_Set_left_at_impl_anyColour.l2 k y0 y1 y2 y3 y4 y5 y6 y7) (impl_Set_left_at_impl_anyColour.l2 (k + 1) y0 y1 y2 y3 y4 y5 y6 y7))
 | 0 => ⟨fun _ _ _ _ _ r h => by simp [impl_Set_left_at_impl_anyColour.l0] at h, fun _ _ _ _ _ _ _ r h => by simp [impl_Set_left_at_impl_anyColour.l1] at h, fun _ _ _ _ _ _ _ _ r h => by simp [impl_Set_left_at_impl_anyColour.l2] at h⟩
 | k + 1 => by
  obtain ⟨ih0, ih1, ih2⟩ := impl_Set_left_at_impl_anyColour.mono_l k
  refine ⟨?_, ?_, ?_⟩
  ·intro y0 y1 y2 y3 y4
   unfold impl_Set_left_at_impl_anyColour.l0
   repeat' first
   | (with_reducible exact ih0 _ _ _ _ _)
   | (with_reducible exact ih1 _ _ _ _ _ _ _)
   | (with_reducible exact ih2 _ _ _ _ _ _ _ _)
   | (with_reducible exact LeO.refl _)
   | (with_reducible exact LeO.none _)
   | (with_reducible refine LeO.ite ?_ ?_)
   | (with_reducible refine LeO.bind ?_ (fun _ => ?_))
   | exact ih0 _ _ _ _ _
   | exact ih1 _ _ _ _ _ _ _
   | exact ih2 _ _ _ _ _ _ _ _
   | exact LeO.none _
   | refine LeO.ite ?_ ?_
   | refine LeO.bind ?_ (fun _ => ?_)
  ·intro y0 y1 y2 y3 y4 y5 y6
   unfold impl_Set_left_at_impl_anyColour.l1
   repeat' first
   | (with_reducible exact ih0 _ _ _ _ _)
   | (with_reducible exact ih1 _ _ _ _ _ _ _)
   | (with_reducible exact ih2 _ _ _ _ _ _ _ _)
   | (with_reducible exact LeO.refl _)
   | (with_reducible exact LeO.none _)
   | (with_reducible refine LeO.ite ?_ ?_)
   | (with_reducible refine LeO.bind ?_ (fun _ => ?_))
   | exact ih0 _ _ _ _ _
   | exact ih1 _ _ _ _ _ _ _
   | exact ih2 _ _ _ _ _ _ _ _
   | exact LeO.none _
   | refine LeO.ite ?_ ?_
   | refine LeO.bind ?_ (fun _ => ?_)
  ·intro y0 y1 y2 y3 y4 y5 y6 y7
   unfold impl_Set_left_at_impl_anyColour.l2
   repeat' first
   | (with_reducible exact ih0 _ _ _ _ _)
   | (with_reducible exact ih1 _ _ _ _ _ _ _)
   | (with_reducible exact ih2 _ _ _ _ _ _ _ _)
   | (with_reducible exact LeO.refl _)
   | (with_reducible exact LeO.none _)
   | (with_reducible refine LeO.ite ?_ ?_)
   | (with_reducible refine LeO.bind ?_ (fun _ => ?_))
   | exact ih0 _ _ _ _ _
   | exact ih1 _ _ _ _ _ _ _
   | exact ih2 _ _ _ _ _ _ _ _
   | exact LeO.none _
   | refine LeO.ite ?_ ?_
   | refine LeO.bind ?_ (fun _ => ?_)
theorem impl_Set_left_at_impl_anyColour.mono : ∀ a0 a1 a2 k, LeO (impl_Set_left_at_impl_anyColour.f k a0 a1 a2) (impl_Set_left_at_impl_anyColour.f (k + 1) a0 a1 a2) := by
 intro a0 a1 a2 k
 obtain ⟨ih0, ih1, ih2⟩ := impl_Set_left_at_impl_anyColour.mono_l k
 unfold impl_Set_left_at_impl_anyColour.f
 repeat' first
   | (with_reducible exact ih0 _ _ _ _ _)
   | (with_reducible exact ih1 _ _ _ _ _ _ _)
   | (with_reducible exact ih2 _ _ _ _ _ _ _ _)
   | (with_reducible exact LeO.refl _)
   | (with_reducible exact LeO.none _)
   | (with_reducible refine LeO.ite ?_ ?_)
   | (with_reducible refine LeO.bind ?_ (fun _ => ?_))
   | exact ih0 _ _ _ _ _
   | exact ih1 _ _ _ _ _ _ _
   | exact ih2 _ _ _ _ _ _ _ _
   | exact LeO.none _
   | refine LeO.ite ?_ ?_
   | refine LeO.bind ?_ (fun _ => ?_)
def impl_Set_left_at_impl_anyColour.T17 : Bool × List (List Nat × List Nat) := (true, [([], []), ([], []), ([0, 1], [0, 1]), ([2], [2]), ([], []), ([4], [4]), ([], []), ([], []), ([6, 7], [6, 7]), ([8], [8]), ([], []), ([10], [10]), ([9, 11], [9, 11]), ([12], [12]), ([], []), ([], []), ([15], [15]), ([14, 16], [14, 16]), ([17], [17]), ([], []), ([19], [19]), ([18, 20], [18, 20]), ([21], [21]), ([13, 22], [13, 22]), ([23], [23]), ([3, 5, 0, 1, 2, 3, 4, 5, 6, 7, 8, 9, 10, 11, 12, 13, 14, 15, 16, 17, 18, 19, 20, 21, 22, 23, 24], [3, 5]), ([25, 24, 0, 1, 2, 3, 4, 5, 6, 7, 8, 9, 10, 11, 12, 13, 14, 15, 16, 17, 18, 19, 20, 21, 22, 23, 24], [24, 25])])
def impl_Set_left_at_impl_anyColour.B17 : List Nat := [0, 0, 3, 7, 0, 16, 0, 0, 192, 448, 0, 1024, 4032, 8128, 0, 0, 32768, 114688, 245760, 0, 524288, 2080768, 4177920, 8388544, 16777152, 33554431, 67108863]
theorem impl_Set_left_at_impl_anyColour.tab17 : rtab .any (opsOf Try.f66 17) = impl_Set_left_at_impl_anyColour.T17 := by kernel_rfl
theorem impl_Set_left_at_impl_anyColour.bits17 : waitsOk impl_Set_left_at_impl_anyColour.T17.2 impl_Set_left_at_impl_anyColour.B17 = true := by kernel_rfl
set_option maxHeartbeats 8000000 in
set_option maxRecDepth 100000 in
theorem impl_Set_left_at_impl_anyColour.calls (k : Nat) (a0_0 : Int) (A0_1 : Option Addr) (c0_1 : Nat) (l0_1 : List (S77)) (A1 : Option Addr) (c1 : Nat) (l1 : List Int)  (r : List (List Int)) (w : World) (hr0_1 : Kd.C k77 w A0_1 l0_1.length l0_1) (hc0_1 : l0_1.length ≤ c0_1) (hr1 : Kd.C (Kd.int .i64) w A1 l1.length l1) (hc1 : l1.length ≤ c1) (h : impl_Set_left_at_impl_anyColour.f k a0_0 l0_1 l1 = some r) :
  Calls Try.prog 66 #[.agg #[.int .i64 a0_0, .slice A0_1 l0_1.length c0_1], .slice A1 l1.length c1, .func (.func 67) #[] #[]] w fun e w' => ∃ v0_ : Value, e = .returned (v0_) ∧ Kd.S (Kd.slice 2 (Kd.int .i64)) 34 w' w.heap.size (fun _ => True) v0_ r ∧ Below w.heap.size w w' := by
 have hu30 := Try.underlying30
 have hu77 := Try.underlying77
 have HR0_1 := Aside0.mk hr0_1
 have HC0_1 := Aside0.mk hc0_1
 clear hr0_1 hc0_1
 have HR1 := Aside0.mk hr1
 have HC1 := Aside0.mk hc1
 clear hr1 hc1
 have HB := Aside0.mk (Below.refl w.heap.size w)
 have H : (if 0 ≤ (wrap64 ((l1.length : Int) + 1)) then (if (wrap64 ((l1.length : Int) + 1) : Int).toNat ≤ 11728124029610 then (impl_Set_left_at_impl_anyColour.l0 k l1 (List.replicate (wrap64 ((l1.length : Int) + 1) : Int).toNat []) (l1.length : Int) a0_0 l0_1) else (none)) else (none)) = some r := h
 clear h
 obtain ⟨ji4, hji4⟩ : ∃ j_ : Int, (wrap64 ((l1.length : Int) + 1)) = j_ := ⟨_, rfl⟩
 replace H : (if 0 ≤ (ji4) then (if (ji4 : Int).toNat ≤ 11728124029610 then (impl_Set_left_at_impl_anyColour.l0 k l1 (List.replicate (ji4 : Int).toNat []) (l1.length : Int) a0_0 l0_1) else (none)) else (none)) = some r := by first | (rw [hji4] at H; exact H) | (simp only [hji4] at H ⊢; exact H)
 have hji4w : (IntKind.i64.wrap ((l1.length : Int) + 1)) = ji4 := (i64_w _).trans hji4
 by_cases c5 : 0 ≤ (ji4)
 ·rw [if_pos c5] at H
  have c5b0 := eq_true c5
  have c5b1 : decide (0 ≤ (ji4)) = true := decide_eq_true c5
  clear c5
  by_cases c6 : (ji4 : Int).toNat ≤ 11728124029610
  ·rw [if_pos c6] at H
   have c6b0 := eq_true c6
   have c6b1 : decide ((ji4 : Int).toNat ≤ 11728124029610) = true := decide_eq_true c6
   clear c6
   obtain ⟨y228, hy228⟩ : ∃ y_ : List (List Int), y_ = (List.replicate (ji4 : Int).toNat []) := ⟨_, rfl⟩
   replace H : (impl_Set_left_at_impl_anyColour.l0 k l1 y228 (l1.length : Int) a0_0 l0_1) = some r := by first | (rw [hy228]; with_reducible exact H) | (have H2_ := (Option.bind_some _ _).symm.trans H; rw [hy228]; with_reducible exact H2_) | (have H2_ := (Option.bind_some _ _).symm.trans H; with_reducible exact H2_) | with_reducible exact H | (rw [hy228]; exact H) | exact H
   have Ny228 := Aside0.mk hy228
   clear hy228
   have H' := Aside0.mk H
   clear H
   go_enter Try.func66, Try.ntmps66
   go_wp2_with (first | ((with_reducible refine gate_dst (N := 3) rfl ?_); refine box_event ?hg (N := 3) ?hd (cs := #[.int .i64 a0_0, .slice A0_1 l0_1.length c0_1]) (t := 30) ?hr ?_; (case hd => rfl); (case hg => rfl); (case hr => first | (go_simp; done) | (go_simp; rfl)); intro gb227 hg w7 hbox hb; have n0_ := Aside0.mk (below_step (by repeat (first | (with_reducible first | exact HB.out | apply below_alloc | apply pw_below_drewN | apply below_drew1) | exact HB.out)) hb); have n1_ := Aside0.mk (hbox); have n2_ := Aside0.mk ((by rw [hg]; exact (below_size (by repeat (first | (with_reducible first | exact HB.out | apply below_alloc | apply pw_below_drewN | apply below_drew1) | exact HB.out))) : w.heap.size ≤ gb227)); have n3_ := Aside0.mk ((by rw [hg]; exact (below_size (by repeat (first | (with_reducible first | exact HB.out | apply below_alloc | apply pw_below_drewN | apply below_drew1) | exact HB.out))) : w.heap.size ≤ gb227)); clear HB; have HB := n0_; have BK227 := n1_; have GW227 := n2_; have GE227 := n3_; clear n0_ n1_ n2_ n3_; clear hb hbox hg) | ((with_reducible refine gate_dst (N := 15) rfl ?_); refine Kd.S_make (Kd.slice 2 (Kd.int .i64)) _ 34 rfl (N := 15) rfl 43 _ _ rfl ji4 rfl rfl Try.underlying43 (.slice none 0 0) 24 info34 rfl (by decide) (by omega) [] (ok := fun _ => True) (okp := fun _ => True) ⟨_, rfl, Kd.R_nil _ _ _ _ _⟩ (fun _ hk => hk) trivial (of_decide_eq_true (by first | (with_reducible assumption) | assumption)) (Nat.le_trans (Nat.mul_le_mul_right _ (of_decide_eq_true (by first | (with_reducible assumption) | assumption) : ji4.toNat ≤ 11728124029610)) (by omega)) (Below.refl _ _) (Nat.le_refl _) ?_; intro v229 w8 ho9 hb hg_ hnew_; clear hg_ hnew_; (first | rw [← Ny228.out] at ho9 | (simp only [Int.reduceToNat] at ho9; rw [← Ny228.out] at ho9)); have n0_ := Aside0.mk (Kd.S_lower ho9 (below_size (by repeat (first | (with_reducible first | exact HB.out | apply below_alloc | apply pw_below_drewN | apply below_drew1 | refine below_set ?_ GE227.out) | exact HB.out)))); have n1_ := Aside0.mk (blk_below (g := gb227) (o := .cells #[.int .i64 a0_0, .slice A0_1 l0_1.length c0_1] 30 (0, 0)) (by (with_reducible repeat (first | refine blk_drewN ?_ _ | refine blk_drew ?_ | refine blk_alloc ?_ _)); exact BK227.out) hb); have n2_ := Aside0.mk (below_step (by repeat (first | (with_reducible first | exact HB.out | apply below_alloc | apply pw_below_drewN | apply below_drew1 | refine below_set ?_ GE227.out) | exact HB.out)) hb); clear BK227; clear HB; have HO230 := n0_; have BK227 := n1_; have HB := n2_; clear n0_ n1_ n2_; clear hb ho9))
   go_loopg [8] k (fun kq v8 w' => ∃ (x7_1 : List (List Int)) (x8_1 : Int), v8 = .int .i64 x8_1 ∧ Aside0 (impl_Set_left_at_impl_anyColour.l0 kq l1 x7_1 x8_1 a0_0 l0_1 = some r) ∧ Aside0 (kq ≤ k) ∧ Aside0 (Kd.S (Kd.slice 2 (Kd.int .i64)) 34 w' w.heap.size (fun _ => True) v229 x7_1) ∧ Aside0 (w'.heap[gb227]? = some (.cells #[.int .i64 a0_0, (.slice A0_1 l0_1.length c0_1)] 30 (0, 0))) ∧ Aside0 (Below w.heap.size w w'))
   case atStart => exact ⟨(y228), ((l1.length : Int)), (by first | rfl | (simp; done) | (simp [*]; done)), H', ⟨Nat.le_refl _⟩, ⟨by (with_reducible repeat (first | apply Kd.S_alloc | apply Kd.S_drewN | apply Kd.S_drew)); exact HO230.out⟩, ⟨by (with_reducible repeat (first | refine blk_drewN ?_ _ | refine blk_drew ?_ | refine blk_alloc ?_ _)); exact BK227.out⟩, ⟨by repeat (first | (with_reducible first | exact HB.out | apply below_alloc | apply pw_below_drewN | apply below_drew1 | refine below_set ?_ GE227.out) | exact HB.out)⟩⟩
   case round =>
    clear H'
    try clear c1
    try clear p2
    try clear c5
    try clear c5b0
    try clear c5b1
    try clear c6
    try clear c6b0
    try clear c6b1
    try clear p6
    obtain ⟨x7_1, x8_1, rfl, HA, HK1, HO_7, BK227, HB⟩ := hrel
    cases gk with
    | zero => exact absurd HA.out (by simp [impl_Set_left_at_impl_anyColour.l0])
    | succ k1 =>
     have H := HA.out
     clear HA
     simp only [impl_Set_left_at_impl_anyColour.l0] at H
     by_cases c10 : x8_1 ≥ 0
     ·rw [if_pos c10] at H
      have c10b0 : decide (0 ≤ x8_1) = true := decide_eq_true c10
      clear c10
      by_cases c11 : 0 ≤ a0_0
      ·rw [if_pos c11] at H
       have c11b0 := eq_true c11
       have c11b1 : decide (0 ≤ a0_0) = true := decide_eq_true c11
       clear c11
       by_cases c12 : (a0_0 : Int).toNat ≤ 35184372088832
       ·rw [if_pos c12] at H
        have c12b0 := eq_true c12
        have c12b1 : decide ((a0_0 : Int).toNat ≤ 35184372088832) = true := decide_eq_true c12
        clear c12
        obtain ⟨y231, hy231⟩ : ∃ y_ : List Int, y_ = (List.replicate (a0_0 : Int).toNat 0) := ⟨_, rfl⟩
        replace H : (if 0 ≤ x8_1 then (if x8_1 < (x7_1.length : Int) then (impl_Set_left_at_impl_anyColour.l1 k1 l1 (x7_1.set (x8_1 : Int).toNat y231) x8_1 a0_0 0 a0_0 l0_1) else (none)) else (none)) = some r := by first | (rw [hy231]; with_reducible exact H) | (have H2_ := (Option.bind_some _ _).symm.trans H; rw [hy231]; with_reducible exact H2_) | (have H2_ := (Option.bind_some _ _).symm.trans H; with_reducible exact H2_) | with_reducible exact H | (rw [hy231]; exact H) | exact H
        have Ny231 := Aside0.mk hy231
        clear hy231
        by_cases c13 : 0 ≤ x8_1
        ·rw [if_pos c13] at H
         have c13b0 : decide (0 ≤ x8_1) = true := decide_eq_true c13
         clear c13
         by_cases c14 : x8_1 < (x7_1.length : Int)
         ·rw [if_pos c14] at H
          have c14b0 : decide (x8_1 < (x7_1.length : Int)) = true := decide_eq_true c14
          clear c14
          obtain ⟨y234, hy234⟩ : ∃ y_ : List (List Int), y_ = (x7_1.set (x8_1 : Int).toNat y231) := ⟨_, rfl⟩
          replace H : (impl_Set_left_at_impl_anyColour.l1 k1 l1 y234 x8_1 a0_0 0 a0_0 l0_1) = some r := by first | (rw [hy234]; with_reducible exact H) | (have H2_ := (Option.bind_some _ _).symm.trans H; rw [hy234]; with_reducible exact H2_) | (have H2_ := (Option.bind_some _ _).symm.trans H; with_reducible exact H2_) | with_reducible exact H | (rw [hy234]; exact H) | exact H
          have Ny234 := Aside0.mk hy234
          clear hy234
          have H' := Aside0.mk H
          clear H
          have hcz16_0 : wr.cell? ⟨gb227, 0, none⟩ = some (.int .i64 a0_0) := (blk_cell BK227.out 0).trans rfl
          have hcz16_1 : wr.cell? ⟨gb227, 1, none⟩ = some (.slice A0_1 l0_1.length c0_1) := (blk_cell BK227.out 1).trans rfl
          have hfz16_0 := blk_frozen BK227.out 0
          have hfz16_1 := blk_frozen BK227.out 1
          go_wp2_with (first | ((with_reducible refine gate_dst (N := 26) rfl ?_); refine Kd.R_make (Kd.int .i64) _ 2 rfl (N := 26) rfl 34 _ _ rfl a0_0 rfl rfl Try.underlying34 (.int .i64 0) 8 info2 rfl (by decide) (by omega) 0 (ok := fun _ => True) (okp := fun _ => True) rfl (fun _ hk => hk) trivial (of_decide_eq_true (by first | (with_reducible assumption) | assumption)) (Nat.le_trans (Nat.mul_le_mul_right _ (of_decide_eq_true (by first | (with_reducible assumption) | assumption) : a0_0.toNat ≤ 35184372088832)) (by omega)) (Below.refl _ _) (Nat.le_refl _) ?_; intro v232 w17 ho18 hb hg_ hnew_; clear hg_ hnew_; (first | rw [← Ny231.out] at ho18 | (simp only [Int.reduceToNat] at ho18; rw [← Ny231.out] at ho18)); have n0_ := Aside0.mk (Kd.S_elder' (by (with_reducible repeat (first | apply Kd.S_alloc | apply Kd.S_drewN | apply Kd.S_drew)); exact HO_7.out) (Kd.R_base ho18) hb); have n1_ := Aside0.mk (Kd.R_lower ho18 (below_size (by repeat (first | (with_reducible first | exact HB.out | apply below_alloc | apply pw_below_drewN | apply below_drew1 | refine below_set ?_ GE227.out) | exact HB.out)))); have n2_ := Aside0.mk (blk_below (g := gb227) (o := .cells #[.int .i64 a0_0, .slice A0_1 l0_1.length c0_1] 30 (0, 0)) (by (with_reducible repeat (first | refine blk_drewN ?_ _ | refine blk_drew ?_ | refine blk_alloc ?_ _)); exact BK227.out) hb); have n3_ := Aside0.mk (below_step (by repeat (first | (with_reducible first | exact HB.out | apply below_alloc | apply pw_below_drewN | apply below_drew1 | refine below_set ?_ GE227.out) | exact HB.out)) hb); clear HO_7; clear BK227; clear HB; have HO_7 := n0_; have HO233 := n1_; have BK227 := n2_; have HB := n3_; clear n0_ n1_ n2_ n3_; clear hb ho18; have p15 : 0 ≤ (x8_1 : Int) := of_decide_eq_true (by first | (with_reducible assumption) | assumption); have q15 : (x8_1 : Int) < ((x7_1.length : Int) : Int) := of_decide_eq_true (by first | (with_reducible assumption) | assumption); obtain ⟨go15, co15, eo15, gb15, gl15, cl15, HG15⟩ := Kd.S_form HO_7.out (by omega); (first | cases eo15 | (injection eo15 with ea_ en_ ec_; (first | subst ea_ | (injection ea_ with ea_; subst ea_)); subst ec_; clear en_)); have GB15 := Aside0.mk gb15; have GG15 := Aside0.mk HG15; clear gb15 gl15 HG15; obtain ⟨_, ce15, hcl15, hM15, hcc15, hfr15, _, _⟩ := Kd.S_elem HO_7.out [] (x8_1 : Int) p15 q15; obtain ⟨ve15_0, rfl, ge15_0⟩ := hM15; have hx15_0 := hcc15 0 _ rfl; have hf15_0 := hfr15 0; (try simp only [show ((Kd.slice 2 (Kd.int .i64))).sz = 1 from rfl, Nat.mul_one, Nat.add_zero] at hx15_0); (try simp only [show ((Kd.slice 2 (Kd.int .i64))).sz = 1 from rfl, Nat.mul_one, Nat.add_zero] at hf15_0); clear hcl15 hcc15 hfr15; (try clear hM15); replace p15 := eq_true p15; replace q15 := eq_true q15; obtain ⟨Ao21, co21, eo21⟩ := Kd.R_slice HO233.out; subst eo21; have n_ := Aside0.mk (Kd.S_mono (ok' := (fun k_ => some k_ ≠ (.slice Ao21 y231.length co21 : Value).ownBlock)) HO_7.out (fun k_ hk => hk.2)); clear HO_7; have HO_7 := n_; clear n_; have HX19 := Aside0.mk (show Kd.S (Kd.slice 2 (Kd.int .i64)) 34 w17 w.heap.size (fun k_ => ((fun _ => True)) k_ ∧ ¬ ((fun k_ => some k_ = (.slice Ao21 y231.length co21 : Value).ownBlock)) k_) (.slice (some ⟨go15, 0, none⟩) x7_1.length co15) x7_1 from (by (with_reducible repeat (first | apply Kd.S_alloc | apply Kd.S_drewN | apply Kd.S_drew)); exact Kd.S_mono HO_7.out (fun k_ hk => ⟨trivial, fun e_ => hk e_⟩))); obtain ⟨oki19, ce19, hcl19, hM19, hcc19, hfr19, hoki19, hH19⟩ := Kd.S_elem HX19.out [] (x8_1 : Int) (of_decide_eq_true (by first | (with_reducible assumption) | assumption)) (by have h_ : (x8_1 : Int) < ((x7_1.length : Int) : Int) := of_decide_eq_true (by first | (with_reducible assumption) | assumption); first | exact h_ | (have e_ := (Kd.S_reads' HO_7.out).1; omega) | simpa using h_); obtain ⟨ve19_0, rfl, ge19_0⟩ := hM19; have HP19 := Kd.S_seg hH19 (of_decide_eq_true (by first | (with_reducible assumption) | assumption)) (by have h_ : (x8_1 : Int) < ((x7_1.length : Int) : Int) := of_decide_eq_true (by first | (with_reducible assumption) | assumption); first | exact h_ | (have e_ := (Kd.S_reads' HO_7.out).1; omega) | simpa using h_) (seg := [.slice Ao21 y231.length co21]) (j := 0) (show 1 ≤ 1 from by decide) (x' := y231) (Kd.M_row (Kd.R_mono (Kd.R_tight rfl (Kd.R_mono (ok' := fun k_ => ((fun _ => True)) k_ ∧ k_ ≠ go15) (Kd.R_apart' (HO233.out) (Kd.S_typed HO_7.out) (by decide)) (fun k_ hk => ⟨trivial, fun e_ => (hk.2) (by rw [e_]; rfl)⟩))) (fun _ h_ => Or.inr (h_)))) (fun _ hk => hk) (fun k_ hk_ => ((Kd.R_mono (ok' := fun k_ => ((fun _ => True)) k_ ∧ k_ ≠ go15) (Kd.R_apart' (HO233.out) (Kd.S_typed HO_7.out) (by decide)) (fun k_ hk => ⟨trivial, fun e_ => (hk.2) (by rw [e_]; rfl)⟩))).1 k_ hk_.symm); have hx19_0 := hcc19 0 _ rfl; (try simp only [show ((Kd.slice 2 (Kd.int .i64))).sz = 1 from rfl, Nat.mul_one, Nat.add_zero] at hx19_0); have hf19_0 := hfr19 0; (try simp only [show ((Kd.slice 2 (Kd.int .i64))).sz = 1 from rfl, Nat.mul_one, Nat.add_zero] at hf19_0); clear hcl19 hcc19 hfr19 hoki19 hH19; (try clear hM19); (try simp only [show ((Kd.slice 2 (Kd.int .i64))).sz = 1 from rfl, Nat.mul_one, Nat.add_zero] at HP19)) | ((with_reducible refine gate_store (t := 34) (p := 27) rfl ?_); refine store_event (t := 34) (p := 27) (v := ?vo_w20) (w1 := (w17.setCell ⟨go15, (x8_1 : Int).toNat, none⟩ (.slice Ao21 y231.length co21))) ?hg ?ho ?hn ?hr ?_; (case ho => rfl); (case hg => rfl); (case hn => rfl); (case hr => first | (go_simp; done) | (go_simp; rfl)); intro w20 hw; have hg : w17.grownBy w20 (some go15) := (by rw [hw]; exact HP19.2); have hp_ : Kd.S (Kd.slice 2 (Kd.int .i64)) 34 w20 w.heap.size (fun _ => True) (.slice (some ⟨go15, 0, none⟩) x7_1.length co15) y234 := (by rw [hw, Ny234.out]; exact HP19.1); clear HP19; have n0_ := Aside0.mk (hp_); have n1_ := Aside0.mk (blk_grown (g := gb227) (o := .cells #[.int .i64 a0_0, .slice A0_1 l0_1.length c0_1] 30 (0, 0)) (by (with_reducible repeat (first | refine blk_drewN ?_ _ | refine blk_drew ?_ | refine blk_alloc ?_ _)); exact BK227.out) hg (Kd.S_ne HO_7.out BK227.out (by decide))); have n2_ := Aside0.mk ((by rw [hw]; exact below_set (HB.out) GB15.out : Below w.heap.size w w20)); clear HO_7; clear BK227; clear HB; clear HO233; have HO_7 := n0_; have BK227 := n1_; have HB := n2_; clear n0_ n1_ n2_; clear hg hw hp_; have hcz22_0 : w20.cell? ⟨gb227, 0, none⟩ = some (.int .i64 a0_0) := (blk_cell BK227.out 0).trans rfl; have hcz22_1 : w20.cell? ⟨gb227, 1, none⟩ = some (.slice A0_1 l0_1.length c0_1) := (blk_cell BK227.out 1).trans rfl; have hfz22_0 := blk_frozen BK227.out 0; have hfz22_1 := blk_frozen BK227.out 1))
          go_loopg [30] k1 (fun kq v30 w' => ∃ (x7_2 : List (List Int)) (x30_2 : Int), v30 = .int .i64 x30_2 ∧ Aside0 (impl_Set_left_at_impl_anyColour.l1 kq l1 x7_2 x8_1 a0_0 x30_2 a0_0 l0_1 = some r) ∧ Aside0 (kq ≤ k1) ∧ Aside0 (Kd.S (Kd.slice 2 (Kd.int .i64)) 34 w' w.heap.size (fun _ => True) (.slice (some ⟨go15, 0, none⟩) x7_1.length co15) x7_2) ∧ Aside0 (w'.heap[gb227]? = some (.cells #[.int .i64 a0_0, (.slice A0_1 l0_1.length c0_1)] 30 (0, 0))) ∧ Aside0 (Below w.heap.size w w'))
          case atStart => exact ⟨(y234), (0), (by first | rfl | (simp; done) | (simp [*]; done)), H', ⟨Nat.le_refl _⟩, ⟨by (with_reducible repeat (first | apply Kd.S_alloc | apply Kd.S_drewN | apply Kd.S_drew)); exact HO_7.out⟩, ⟨by (with_reducible repeat (first | refine blk_drewN ?_ _ | refine blk_drew ?_ | refine blk_alloc ?_ _)); exact BK227.out⟩, ⟨by repeat (first | (with_reducible first | exact HB.out | apply below_alloc | apply pw_below_drewN | apply below_drew1 | refine below_set ?_ GE227.out) | exact HB.out)⟩⟩
          case round =>
           clear H'
           try clear c1
           try clear p1
           try clear q1
           try clear hx1
           try clear p2
           try clear c5
           try clear c5b0
           try clear c5b1
           try clear c6
           try clear c6b0
           try clear c6b1
           try clear p6
           try clear c10
           try clear c10b0
           try clear c11
           try clear c11b0
           try clear c11b1
           try clear c12
           try clear c12b0
           try clear c12b1
           try clear c13
           try clear c13b0
           try clear c14
           try clear c14b0
           try clear c15
           try clear p15
           try clear q15
           try clear hx15
           try clear hf15
           try clear c19
           try clear hx19
           try clear hf19
           try clear hcz16_0
           try clear hcz16_1
           try clear hcz22_0
           try clear hcz22_1
           try clear hfz16_0
           try clear hfz16_1
           try clear hfz22_0
           try clear hfz22_1
           try clear hx15_0
           try clear hx19_0
           try clear p15
           try clear p2
           try clear p6
           try clear q15
           obtain ⟨x7_2, x30_2, rfl, HA, HK2, HO_7, BK227, HB⟩ := hrel
           have hl7_2 := (Kd.S_reads' HO_7.out).1
           rw [hl7_2] at HO_7
           (try simp only [hl7_2])
           (try simp only [hl7_2] at BK227)
           cases gk with
           | zero => exact absurd HA.out (by simp [impl_Set_left_at_impl_anyColour.l1])
           | succ k2 =>
            have H := HA.out
            clear HA
            simp only [impl_Set_left_at_impl_anyColour.l1] at H
            by_cases c23 : x30_2 < a0_0
            ·rw [if_pos c23] at H
             have c23b0 : decide (x30_2 < a0_0) = true := decide_eq_true c23
             clear c23
             by_cases c24 : x8_1 = (l1.length : Int)
             ·rw [if_pos c24] at H
              have c24b0 : (x8_1 == (l1.length : Int)) = true := beq_iff_eq.mpr c24
              have c24b1 : (x8_1 != (l1.length : Int)) = false := bne_eq_false_iff_eq.mpr c24
              clear c24
              replace H := Option.bind_eq_some_iff.mp H
              obtain ⟨t235, A250, H⟩ := H
              replace H : (if t235 = true then (if 0 ≤ x8_1 then (if x8_1 < (x7_2.length : Int) then (if 0 ≤ x30_2 then (if x30_2 < ((rd_L5 x7_2 x8_1).length : Int) then (impl_Set_left_at_impl_anyColour.l1 k2 l1 (x7_2.set (x8_1 : Int).toNat ((rd_L5 x7_2 x8_1).set (x30_2 : Int).toNat 1)) x8_1 a0_0 (wrap64 (x30_2 + 1)) a0_0 l0_1) else (none)) else (none)) else (none)) else (none)) else (impl_Set_left_at_impl_anyColour.l1 k2 l1 x7_2 x8_1 a0_0 (wrap64 (x30_2 + 1)) a0_0 l0_1)) = some r := H
              have A25 := Aside0.mk A250
              clear A250
              by_cases c26 : t235 = true
              ·subst c26
               have H1 : (if 0 ≤ x8_1 then (if x8_1 < (x7_2.length : Int) then (if 0 ≤ x30_2 then (if x30_2 < ((rd_L5 x7_2 x8_1).length : Int) then (impl_Set_left_at_impl_anyColour.l1 k2 l1 (x7_2.set (x8_1 : Int).toNat ((rd_L5 x7_2 x8_1).set (x30_2 : Int).toNat 1)) x8_1 a0_0 (wrap64 (x30_2 + 1)) a0_0 l0_1) else (none)) else (none)) else (none)) else (none)) = some r := by rw [if_pos rfl] at H; exact H
               clear H
               have H := H1
               clear H1
               by_cases c27 : 0 ≤ x8_1
               ·rw [if_pos c27] at H
                have c27b0 : decide (0 ≤ x8_1) = true := decide_eq_true c27
                clear c27
                by_cases c28 : x8_1 < (x7_2.length : Int)
                ·rw [if_pos c28] at H
                 have c28b0 : decide (x8_1 < (x7_2.length : Int)) = true := decide_eq_true c28
                 clear c28
                 by_cases c29 : 0 ≤ x30_2
                 ·rw [if_pos c29] at H
                  have c29b0 : decide (0 ≤ x30_2) = true := decide_eq_true c29
                  clear c29
                  by_cases c30 : x30_2 < ((rd_L5 x7_2 x8_1).length : Int)
                  ·rw [if_pos c30] at H
                   have c30b0 : decide (x30_2 < ((rd_L5 x7_2 x8_1).length : Int)) = true := decide_eq_true c30
                   clear c30
                   obtain ⟨y237, hy237⟩ : ∃ y_ : List Int, y_ = ((rd_L5 x7_2 x8_1).set (x30_2 : Int).toNat 1) := ⟨_, rfl⟩
                   replace H : (impl_Set_left_at_impl_anyColour.l1 k2 l1 (x7_2.set (x8_1 : Int).toNat y237) x8_1 a0_0 (wrap64 (x30_2 + 1)) a0_0 l0_1) = some r := by first | (rw [hy237]; with_reducible exact H) | (have H2_ := (Option.bind_some _ _).symm.trans H; rw [hy237]; with_reducible exact H2_) | (have H2_ := (Option.bind_some _ _).symm.trans H; with_reducible exact H2_) | with_reducible exact H | (rw [hy237]; exact H) | exact H
                   have Ny237 := Aside0.mk hy237
                   clear hy237
                   obtain ⟨y239, hy239⟩ : ∃ y_ : List (List Int), y_ = (x7_2.set (x8_1 : Int).toNat y237) := ⟨_, rfl⟩
                   replace H : (impl_Set_left_at_impl_anyColour.l1 k2 l1 y239 x8_1 a0_0 (wrap64 (x30_2 + 1)) a0_0 l0_1) = some r := by first | (rw [hy239]; with_reducible exact H) | (have H2_ := (Option.bind_some _ _).symm.trans H; rw [hy239]; with_reducible exact H2_) | (have H2_ := (Option.bind_some _ _).symm.trans H; with_reducible exact H2_) | with_reducible exact H | (rw [hy239]; exact H) | exact H
                   have Ny239 := Aside0.mk hy239
                   clear hy239
                   have H' := Aside0.mk H
                   clear H
                   try go_wp2_with fail
                   (with_reducible refine (impl_anyColour.calls x30_2 true _ A25.out).mono ?_)
                   rintro e w' ⟨rfl, ⟨nd, rfl⟩⟩
                   (try (rw [drewN_self wr]; generalize hq_ : World.drewN wr _ = wr; have n0_ : Aside0 (Kd.S (Kd.slice 2 (Kd.int .i64)) 34 wr w.heap.size (fun _ => True) (.slice (some ⟨go15, 0, none⟩) x7_2.length co15) x7_2) := ⟨by rw [← hq_]; exact (by (with_reducible repeat (first | apply Kd.S_alloc | apply Kd.S_drewN | apply Kd.S_drew)); exact HO_7.out)⟩; have n1_ : Aside0 (wr.heap[gb227]? = some (.cells #[.int .i64 a0_0, .slice A0_1 l0_1.length c0_1] 30 (0, 0))) := ⟨by rw [← hq_]; exact (by (with_reducible repeat (first | refine blk_drewN ?_ _ | refine blk_drew ?_ | refine blk_alloc ?_ _)); exact BK227.out)⟩; have n2_ : Aside0 (Below w.heap.size w wr) := ⟨by rw [← hq_]; exact (by repeat (first | (with_reducible first | exact HB.out | apply below_alloc | apply pw_below_drewN | apply below_drew1 | refine below_set ?_ GE227.out) | exact HB.out))⟩; clear HO_7 BK227 HB hq_; have HO_7 := n0_; have BK227 := n1_; have HB := n2_; clear n0_ n1_ n2_))
                   have p236 : 0 ≤ (x8_1 : Int) := of_decide_eq_true (by first | (with_reducible assumption) | assumption)
                   have q236 : x8_1 < (x7_2.length : Int) := of_decide_eq_true (by first | (with_reducible assumption) | assumption)
                   obtain ⟨ad236, A236_0, c236_0, e236, hx236_0, hl236_0, hi236_0⟩ := at_L5 (Kd.S_reads' HO_7.out).2.2 x8_1 p236 q236
                   obtain rfl : (⟨go15, 0, none⟩ : Addr) = ad236 := (by injection e236)
                   obtain ⟨ce236, hce236, hMe236, hcc236⟩ := Kd.S_get HO_7.out [] x8_1 p236 (by first | exact q236 | exact of_decide_eq_true (by first | (with_reducible assumption) | assumption) | (have e_ := (Kd.S_reads' HO_7.out).1; omega))
                   obtain ⟨ve236_0, rfl, ge236_0⟩ := hMe236
                   have hv236_0 := hcc236 0 _ rfl
                   rw [Nat.add_zero, show ((Kd.slice 2 (Kd.int .i64))).sz = 1 from rfl, Nat.mul_one] at hv236_0
                   replace hv236_0 := Option.some.inj (hv236_0.symm.trans hx236_0)
                   rw [hv236_0] at ge236_0
                   have HL236_0 := Aside0.mk (show Kd.R (Kd.int .i64) 2 _ _ _ _ (rd_L5 x7_2 x8_1) from ge236_0)
                   clear hv236_0 ge236_0
                   have HX236_0 := Aside0.mk hx236_0
                   clear hcc236 hce236
                   (first | simp only [add_plain] at hx236_0 | simp only [add_at] at hx236_0 | simp only [Addr.add, Nat.zero_add] at hx236_0 | skip)
                   have HR236_0 := Aside0.mk hi236_0
                   have HC236_0 := Aside0.mk hl236_0
                   clear hi236_0 hl236_0
                   replace p236 := eq_true p236
                   replace q236 := eq_true q236
                   have p31 : 0 ≤ (x30_2 : Int) := of_decide_eq_true (by first | (with_reducible assumption) | assumption)
                   have q31 : (x30_2 : Int) < (((rd_L5 x7_2 x8_1).length : Int) : Int) := of_decide_eq_true (by first | (with_reducible assumption) | assumption)
                   obtain ⟨go31, co31, eo31, gb31, gl31, cl31, HG31⟩ := Kd.R_form HL236_0.out (by omega)
                   (first | cases eo31 | (injection eo31 with ea_ en_ ec_; (first | subst ea_ | (injection ea_ with ea_; subst ea_)); subst ec_; clear en_))
                   have GB31 := Aside0.mk gb31
                   have GG31 := Aside0.mk HG31
                   clear gb31 gl31 HG31
                   obtain ⟨hx31_0, hf31_0⟩ := Kd.R_celln 0 HL236_0.out (x30_2 : Int) p31 q31
                   replace p31 := eq_true p31
                   replace q31 := eq_true q31
                   have hq33 : (x8_1 : Int) < (x7_2.length : Int) := (by have h_ : (x8_1 : Int) < ((x7_2.length : Int) : Int) := of_decide_eq_true (by first | (with_reducible assumption) | assumption); first | exact h_ | (have e_ := (Kd.S_reads' HO_7.out).1; omega) | simpa only [List.length_set, List.length_set] using h_)
                   obtain ⟨oki33, ce33, hcl33, hM33, hcc33, hok33, hbk33⟩ := Kd.S_borrow HO_7.out [] (x8_1 : Int) (of_decide_eq_true (by first | (with_reducible assumption) | assumption)) hq33
                   obtain ⟨ve33_0, rfl, ge33_0⟩ := hM33
                   have hv33 := hcc33 0 _ rfl
                   rw [Nat.add_zero, show ((Kd.slice 2 (Kd.int .i64))).sz = 1 from rfl, Nat.mul_one] at hv33
                   replace hv33 := Option.some.inj (hv33.symm.trans HX236_0.out)
                   subst hv33
                   clear hcc33 hcl33
                   replace ge33_0 := (show Kd.R (Kd.int .i64) 2 _ _ _ _ (rd_L5 x7_2 x8_1) from ge33_0)
                   have HP33 := Kd.R_putg ge33_0 (x30_2 : Int) 1
                   try go_wp2_with (first | ((with_reducible refine gate_store (t := 2) (p := 47) rfl ?_); refine store_event (t := 2) (p := 47) (v := ?vo_w34) (w1 := (wr.setCell ⟨go31, (x30_2 : Int).toNat, none⟩ (.int .i64 1))) ?hg ?ho ?hn ?hr ?_; (case ho => rfl); (case hg => rfl); (case hn => rfl); (case hr => first | (go_simp; done) | (go_simp; rfl)); intro w34 hw; have hg : wr.grownBy w34 (some go31) := (by rw [hw]; exact HP33.2); have hz_ : Kd.R (Kd.int .i64) 2 w34 w.heap.size oki33 (.slice (some ⟨go31, 0, none⟩) (rd_L5 x7_2 x8_1).length c236_0) y237 := (by rw [hw, Ny237.out]; exact HP33.1); have hp_ : Kd.S (Kd.slice 2 (Kd.int .i64)) 34 w34 w.heap.size (fun _ => True) (.slice (some ⟨go15, 0, none⟩) x7_2.length co15) y239 := (by rw [Ny239.out]; exact hbk33 hg (fun k_ e_ => by injection e_ with e_; subst e_; exact ge33_0.1 _ rfl) (Kd.M_row hz_)); have hm_ := Kd.R_mono hz_ hok33; clear HP33 hbk33; have n0_ := Aside0.mk (hp_); have n1_ := Aside0.mk (blk_grown (g := gb227) (o := .cells #[.int .i64 a0_0, .slice A0_1 l0_1.length c0_1] 30 (0, 0)) (by (with_reducible repeat (first | refine blk_drewN ?_ _ | refine blk_drew ?_ | refine blk_alloc ?_ _)); exact BK227.out) hg (Kd.R_ne HL236_0.out BK227.out (by decide))); have n2_ := Aside0.mk ((by rw [hw]; exact below_set (HB.out) GB31.out : Below w.heap.size w w34)); have n3_ := Aside0.mk (hm_); have n4_ := Aside0.mk ((Kd.R_reads' hm_).2.1); clear HO_7; clear BK227; clear HB; clear HL236_0; have HO_7 := n0_; have BK227 := n1_; have HB := n2_; have HL251 := n3_; have HC238 := n4_; clear n0_ n1_ n2_ n3_ n4_; clear hg hw hp_ hz_ hm_ hok33))
                   (try simp only [← hl7_2])
                   go_roundg k2
                   case measure => have := HK1.out; have := HK2.out; omega
                   case rel => exact ⟨(y239), (wrap64 (x30_2 + 1)), (by first | rfl | (simp; done) | (simp [*]; done)), H', ⟨by have := HK1.out; have := HK2.out; omega⟩, ⟨by (try simp only [hl7_2]); (with_reducible repeat (first | apply Kd.S_alloc | apply Kd.S_drewN | apply Kd.S_drew)); exact HO_7.out⟩, ⟨by (try simp only [hl7_2]); (with_reducible repeat (first | refine blk_drewN ?_ _ | refine blk_drew ?_ | refine blk_alloc ?_ _)); exact BK227.out⟩, ⟨by repeat (first | (with_reducible first | exact HB.out | apply below_alloc | apply pw_below_drewN | apply below_drew1 | refine below_set ?_ GE227.out) | exact HB.out)⟩⟩
                  ·rw [if_neg c30] at H
                   exact absurd H (by simp)
                 ·rw [if_neg c29] at H
                  exact absurd H (by simp)
                ·rw [if_neg c28] at H
                 exact absurd H (by simp)
               ·rw [if_neg c27] at H
                exact absurd H (by simp)
              ·replace c26 := Bool.eq_false_iff.mpr c26
               subst c26
               have H1 : (impl_Set_left_at_impl_anyColour.l1 k2 l1 x7_2 x8_1 a0_0 (wrap64 (x30_2 + 1)) a0_0 l0_1) = some r := by rw [if_neg (show ¬ (false = true) by decide)] at H; exact H
               clear H
               have H := H1
               clear H1
               have H' := Aside0.mk H
               clear H
               try go_wp2_with fail
               (with_reducible refine (impl_anyColour.calls x30_2 false _ A25.out).mono ?_)
               rintro e w' ⟨rfl, ⟨nd, rfl⟩⟩
               try go_wp2_with fail
               (try simp only [← hl7_2])
               go_roundg k2
               case measure => have := HK1.out; have := HK2.out; omega
               case rel => exact ⟨(x7_2), (wrap64 (x30_2 + 1)), (by first | rfl | (simp; done) | (simp [*]; done)), H', ⟨by have := HK1.out; have := HK2.out; omega⟩, ⟨by (try simp only [hl7_2]); (with_reducible repeat (first | apply Kd.S_alloc | apply Kd.S_drewN | apply Kd.S_drew)); exact HO_7.out⟩, ⟨by (try simp only [hl7_2]); (with_reducible repeat (first | refine blk_drewN ?_ _ | refine blk_drew ?_ | refine blk_alloc ?_ _)); exact BK227.out⟩, ⟨by repeat (first | (with_reducible first | exact HB.out | apply below_alloc | apply pw_below_drewN | apply below_drew1 | refine below_set ?_ GE227.out) | exact HB.out)⟩⟩
             ·rw [if_neg c24] at H
              have c24b0 : (x8_1 == (l1.length : Int)) = false := beq_eq_false_iff_ne.mpr c24
              have c24b1 : (x8_1 != (l1.length : Int)) = true := bne_iff_ne.mpr c24
              have H' := Aside0.mk H
              clear H
              go_wp2_with fail
              (try simp only [← hl7_2])
              go_roundg k2
              case measure => have := HK1.out; have := HK2.out; omega
              case rel => exact ⟨(x7_2), (wrap64 (x30_2 + 1)), (by first | rfl | (simp; done) | (simp [*]; done)), H', ⟨by have := HK1.out; have := HK2.out; omega⟩, ⟨by (try simp only [hl7_2]); (with_reducible repeat (first | apply Kd.S_alloc | apply Kd.S_drewN | apply Kd.S_drew)); exact HO_7.out⟩, ⟨by (try simp only [hl7_2]); (with_reducible repeat (first | refine blk_drewN ?_ _ | refine blk_drew ?_ | refine blk_alloc ?_ _)); exact BK227.out⟩, ⟨by repeat (first | (with_reducible first | exact HB.out | apply below_alloc | apply pw_below_drewN | apply below_drew1 | refine below_set ?_ GE227.out) | exact HB.out)⟩⟩
            ·rw [if_neg c23] at H
             have c23b0 : decide (x30_2 < a0_0) = false := decide_eq_false c23
             clear c23
             by_cases c36 : x8_1 = (l1.length : Int)
             ·rw [if_pos c36] at H
              have c36b0 : (x8_1 == (l1.length : Int)) = true := beq_iff_eq.mpr c36
              have c36b1 : (x8_1 != (l1.length : Int)) = false := bne_eq_false_iff_eq.mpr c36
              clear c36
              have H' := Aside0.mk H
              clear H
              go_wp2_with fail
              (try simp only [← hl7_2])
              go_roundg k2
              case measure => have := HK1.out; have := HK2.out; omega
              case rel => exact ⟨(x7_2), (wrap64 (x8_1 - 1)), (by first | rfl | (simp; done) | (simp [*]; done)), H', ⟨by have := HK1.out; have := HK2.out; omega⟩, ⟨by (try simp only [hl7_2]); (with_reducible repeat (first | apply Kd.S_alloc | apply Kd.S_drewN | apply Kd.S_drew)); exact HO_7.out⟩, ⟨by (try simp only [hl7_2]); (with_reducible repeat (first | refine blk_drewN ?_ _ | refine blk_drew ?_ | refine blk_alloc ?_ _)); exact BK227.out⟩, ⟨by repeat (first | (with_reducible first | exact HB.out | apply below_alloc | apply pw_below_drewN | apply below_drew1 | refine below_set ?_ GE227.out) | exact HB.out)⟩⟩
             ·rw [if_neg c36] at H
              have c36b0 : (x8_1 == (l1.length : Int)) = false := beq_eq_false_iff_ne.mpr c36
              have c36b1 : (x8_1 != (l1.length : Int)) = true := bne_iff_ne.mpr c36
              have H' := Aside0.mk H
              clear H
              have hcz37_0 : wr.cell? ⟨gb227, 0, none⟩ = some (.int .i64 a0_0) := (blk_cell BK227.out 0).trans rfl
              have hcz37_1 : wr.cell? ⟨gb227, 1, none⟩ = some (.slice A0_1 l0_1.length c0_1) := (blk_cell BK227.out 1).trans rfl
              have hfz37_0 := blk_frozen BK227.out 0
              have hfz37_1 := blk_frozen BK227.out 1
              go_wp2_with fail
              go_loopg [56] k2 (fun kq v56 w' => ∃ (x7_3 : List (List Int)) (x56_3 : Int), v56 = .int .i64 x56_3 ∧ Aside0 (impl_Set_left_at_impl_anyColour.l2 kq l1 x7_3 x8_1 l0_1 (l0_1.length : Int) x56_3 a0_0 l0_1 = some r) ∧ Aside0 (kq ≤ k2) ∧ Aside0 (Kd.S (Kd.slice 2 (Kd.int .i64)) 34 w' w.heap.size (fun _ => True) (.slice (some ⟨go15, 0, none⟩) x7_2.length co15) x7_3) ∧ Aside0 (w'.heap[gb227]? = some (.cells #[.int .i64 a0_0, (.slice A0_1 l0_1.length c0_1)] 30 (0, 0))) ∧ Aside0 (Below w.heap.size w w'))
              case atStart => exact ⟨(x7_2), (0), (by first | rfl | (simp; done) | (simp [*]; done)), H', ⟨Nat.le_refl _⟩, ⟨by (try simp only [hl7_2]); (with_reducible repeat (first | apply Kd.S_alloc | apply Kd.S_drewN | apply Kd.S_drew)); exact HO_7.out⟩, ⟨by (try simp only [hl7_2]); (with_reducible repeat (first | refine blk_drewN ?_ _ | refine blk_drew ?_ | refine blk_alloc ?_ _)); exact BK227.out⟩, ⟨by repeat (first | (with_reducible first | exact HB.out | apply below_alloc | apply pw_below_drewN | apply below_drew1 | refine below_set ?_ GE227.out) | exact HB.out)⟩⟩
              case round =>
               clear H'
               try clear c1
               try clear p1
               try clear q1
               try clear hx1
               try clear c2
               try clear p2
               try clear q2
               try clear hx2
               try clear c3
               try clear p3
               try clear q3
               try clear hx3
               try clear hf3
               try clear c5
               try clear c5b0
               try clear c5b1
               try clear c6
               try clear c6b0
               try clear c6b1
               try clear p6
               try clear c10
               try clear c10b0
               try clear c11
               try clear c11b0
               try clear c11b1
               try clear c12
               try clear c12b0
               try clear c12b1
               try clear c13
               try clear c13b0
               try clear c14
               try clear c14b0
               try clear c15
               try clear p15
               try clear q15
               try clear hx15
               try clear hf15
               try clear c19
               try clear hx19
               try clear hf19
               try clear c23
               try clear c23b0
               try clear p23
               try clear q23
               try clear hx23
               try clear c24
               try clear c24b0
               try clear c24b1
               try clear c26
               try clear c27
               try clear c27b0
               try clear c28
               try clear c28b0
               try clear c29
               try clear c29b0
               try clear c30
               try clear c30b0
               try clear p31
               try clear q31
               try clear hx31
               try clear hf31
               try clear c33
               try clear q33
               try clear c36
               try clear c36b0
               try clear c36b1
               try clear hcz16_0
               try clear hcz16_1
               try clear hcz22_0
               try clear hcz22_1
               try clear hcz37_0
               try clear hcz37_1
               try clear hfz16_0
               try clear hfz16_1
               try clear hfz22_0
               try clear hfz22_1
               try clear hfz37_0
               try clear hfz37_1
               try clear hx15_0
               try clear hx19_0
               try clear hx236_0
               try clear hx31_0
               try clear p1
               try clear p15
               try clear p2
               try clear p236
               try clear p31
               try clear p6
               try clear q1
               try clear q15
               try clear q236
               try clear q31
               obtain ⟨x7_3, x56_3, rfl, HA, HK3, HO_7, BK227, HB⟩ := hrel
               have hl7_3 := (Kd.S_reads' HO_7.out).1
               rw [hl7_3] at HO_7
               (try simp only [hl7_3])
               (try simp only [hl7_3] at BK227)
               cases gk with
               | zero => exact absurd HA.out (by simp [impl_Set_left_at_impl_anyColour.l2])
               | succ k3 =>
                have H := HA.out
                clear HA
                simp only [impl_Set_left_at_impl_anyColour.l2] at H
                by_cases c38 : x56_3 < (l0_1.length : Int)
                ·rw [if_pos c38] at H
                 have c38b0 : decide (x56_3 < (l0_1.length : Int)) = true := decide_eq_true c38
                 clear c38
                 by_cases c39 : 0 ≤ x56_3
                 ·rw [if_pos c39] at H
                  have c39b0 : decide (0 ≤ x56_3) = true := decide_eq_true c39
                  clear c39
                  by_cases c40 : x56_3 < (l0_1.length : Int)
                  ·rw [if_pos c40] at H
                   have c40b0 : decide (x56_3 < (l0_1.length : Int)) = true := decide_eq_true c40
                   clear c40
                   by_cases c41 : 0 ≤ x8_1
                   ·rw [if_pos c41] at H
                    have c41b0 : decide (0 ≤ x8_1) = true := decide_eq_true c41
                    clear c41
                    by_cases c42 : x8_1 < (l1.length : Int)
                    ·rw [if_pos c42] at H
                     have c42b0 : decide (x8_1 < (l1.length : Int)) = true := decide_eq_true c42
                     clear c42
                     by_cases c43 : ((rd_T77 l0_1 x56_3).f1) = (rd l1 x8_1)
                     ·rw [if_pos c43] at H
                      have c43b0 : (((rd_T77 l0_1 x56_3).f1) == (rd l1 x8_1)) = true := beq_iff_eq.mpr c43
                      have c43b1 : (((rd_T77 l0_1 x56_3).f1) != (rd l1 x8_1)) = false := bne_eq_false_iff_eq.mpr c43
                      clear c43
                      by_cases c44 : x8_1 < (x7_3.length : Int)
                      ·rw [if_pos c44] at H
                       have c44b0 : decide (x8_1 < (x7_3.length : Int)) = true := decide_eq_true c44
                       clear c44
                       by_cases c45 : 0 ≤ ((rd_T77 l0_1 x56_3).f0)
                       ·rw [if_pos c45] at H
                        have c45b0 : decide (0 ≤ ((rd_T77 l0_1 x56_3).f0)) = true := decide_eq_true c45
                        clear c45
                        by_cases c46 : ((rd_T77 l0_1 x56_3).f0) < ((rd_L5 x7_3 x8_1).length : Int)
                        ·rw [if_pos c46] at H
                         have c46b0 : decide (((rd_T77 l0_1 x56_3).f0) < ((rd_L5 x7_3 x8_1).length : Int)) = true := decide_eq_true c46
                         clear c46
                         obtain ⟨ji47, hji47⟩ : ∃ j_ : Int, (wrap64 (x8_1 + 1)) = j_ := ⟨_, rfl⟩
                         replace H : (if 0 ≤ (ji47) then (if (ji47) < (x7_3.length : Int) then (if 0 ≤ ((rd_T77 l0_1 x56_3).f2) then (if ((rd_T77 l0_1 x56_3).f2) < ((rd_L5 x7_3 (ji47)).length : Int) then (impl_Set_left_at_impl_anyColour.l2 k3 l1 (x7_3.set (x8_1 : Int).toNat ((rd_L5 x7_3 x8_1).set (((rd_T77 l0_1 x56_3).f0) : Int).toNat (mn 1000000000000001 (wrap64 ((rd (rd_L5 x7_3 x8_1) ((rd_T77 l0_1 x56_3).f0)) + (rd (rd_L5 x7_3 (ji47)) ((rd_T77 l0_1 x56_3).f2))))))) x8_1 l0_1 (l0_1.length : Int) (wrap64 (x56_3 + 1)) a0_0 l0_1) else (none)) else (none)) else (none)) else (none)) = some r := by first | (rw [hji47] at H; exact H) | (simp only [hji47] at H ⊢; exact H)
                         have hji47w : (IntKind.i64.wrap (x8_1 + 1)) = ji47 := (i64_w _).trans hji47
                         by_cases c48 : 0 ≤ (ji47)
                         ·rw [if_pos c48] at H
                          have c48b0 : decide (0 ≤ (ji47)) = true := decide_eq_true c48
                          clear c48
                          by_cases c49 : (ji47) < (x7_3.length : Int)
                          ·rw [if_pos c49] at H
                           have c49b0 : decide ((ji47) < (x7_3.length : Int)) = true := decide_eq_true c49
                           clear c49
                           by_cases c50 : 0 ≤ ((rd_T77 l0_1 x56_3).f2)
                           ·rw [if_pos c50] at H
                            have c50b0 : decide (0 ≤ ((rd_T77 l0_1 x56_3).f2)) = true := decide_eq_true c50
                            clear c50
                            by_cases c51 : ((rd_T77 l0_1 x56_3).f2) < ((rd_L5 x7_3 (ji47)).length : Int)
                            ·rw [if_pos c51] at H
                             have c51b0 : decide (((rd_T77 l0_1 x56_3).f2) < ((rd_L5 x7_3 (ji47)).length : Int)) = true := decide_eq_true c51
                             clear c51
                             obtain ⟨ji52, hji52⟩ : ∃ j_ : Int, (mn 1000000000000001 (wrap64 ((rd (rd_L5 x7_3 x8_1) ((rd_T77 l0_1 x56_3).f0)) + (rd (rd_L5 x7_3 (ji47)) ((rd_T77 l0_1 x56_3).f2))))) = j_ := ⟨_, rfl⟩
                             replace H : (impl_Set_left_at_impl_anyColour.l2 k3 l1 (x7_3.set (x8_1 : Int).toNat ((rd_L5 x7_3 x8_1).set (((rd_T77 l0_1 x56_3).f0) : Int).toNat (ji52))) x8_1 l0_1 (l0_1.length : Int) (wrap64 (x56_3 + 1)) a0_0 l0_1) = some r := by first | (rw [hji52] at H; exact H) | (simp only [hji52] at H ⊢; exact H)
                             have hji52_ : (if (wrap64 ((rd (rd_L5 x7_3 x8_1) ((rd_T77 l0_1 x56_3).f0)) + (rd (rd_L5 x7_3 (ji47)) ((rd_T77 l0_1 x56_3).f2)))) < 1000000000000001 then (wrap64 ((rd (rd_L5 x7_3 x8_1) ((rd_T77 l0_1 x56_3).f0)) + (rd (rd_L5 x7_3 (ji47)) ((rd_T77 l0_1 x56_3).f2)))) else 1000000000000001) = ji52 := hji52
                             obtain ⟨y248, hy248⟩ : ∃ y_ : List Int, y_ = ((rd_L5 x7_3 x8_1).set (((rd_T77 l0_1 x56_3).f0) : Int).toNat (ji52)) := ⟨_, rfl⟩
                             replace H : (impl_Set_left_at_impl_anyColour.l2 k3 l1 (x7_3.set (x8_1 : Int).toNat y248) x8_1 l0_1 (l0_1.length : Int) (wrap64 (x56_3 + 1)) a0_0 l0_1) = some r := by first | (rw [hy248]; with_reducible exact H) | (have H2_ := (Option.bind_some _ _).symm.trans H; rw [hy248]; with_reducible exact H2_) | (have H2_ := (Option.bind_some _ _).symm.trans H; with_reducible exact H2_) | with_reducible exact H | (rw [hy248]; exact H) | exact H
                             have Ny248 := Aside0.mk hy248
                             clear hy248
                             obtain ⟨y250, hy250⟩ : ∃ y_ : List (List Int), y_ = (x7_3.set (x8_1 : Int).toNat y248) := ⟨_, rfl⟩
                             replace H : (impl_Set_left_at_impl_anyColour.l2 k3 l1 y250 x8_1 l0_1 (l0_1.length : Int) (wrap64 (x56_3 + 1)) a0_0 l0_1) = some r := by first | (rw [hy250]; with_reducible exact H) | (have H2_ := (Option.bind_some _ _).symm.trans H; rw [hy250]; with_reducible exact H2_) | (have H2_ := (Option.bind_some _ _).symm.trans H; with_reducible exact H2_) | with_reducible exact H | (rw [hy250]; exact H) | exact H
                             have Ny250 := Aside0.mk hy250
                             clear hy250
                             have H' := Aside0.mk H
                             clear H
                             have p240 : 0 ≤ (x56_3 : Int) := of_decide_eq_true (by first | (with_reducible assumption) | assumption)
                             have q240 : x56_3 < (l0_1.length : Int) := of_decide_eq_true (by first | (with_reducible assumption) | assumption)
                             obtain ⟨ad240, e240, hx240_0, hx240_1, hx240_2, hx240_3⟩ := at_T77 HR0_1.out x56_3 p240 q240
                             cases e240
                             replace hx240_0 := (HB.out.cell (World.block_lt_of_cell? w _ hx240_0)).trans hx240_0
                             replace hx240_1 := (HB.out.cell (World.block_lt_of_cell? w _ hx240_1)).trans hx240_1
                             replace hx240_2 := (HB.out.cell (World.block_lt_of_cell? w _ hx240_2)).trans hx240_2
                             replace hx240_3 := (HB.out.cell (World.block_lt_of_cell? w _ hx240_3)).trans hx240_3
                             replace p240 := eq_true p240
                             replace q240 := eq_true q240
                             try go_wp2_with (first | ((with_reducible refine gate_dst (N := 11) rfl ?_); refine box_event ?hg (N := 11) ?hd (cs := #[.int .i64 0, .int .i64 0, .int .i64 0, .int .i64 0]) (t := 77) ?hr ?_; (case hd => rfl); (case hg => rfl); (case hr => first | (go_simp; done) | (go_simp; rfl)); intro gb241 hg w54 hbox hb; have n0_ := Aside0.mk (Kd.S_below (by (with_reducible repeat (first | apply Kd.S_alloc | apply Kd.S_drewN | apply Kd.S_drew)); exact HO_7.out) hb); have n1_ := Aside0.mk (blk_below (g := gb227) (o := .cells #[.int .i64 a0_0, .slice (some ad240) l0_1.length c0_1] 30 (0, 0)) (by (with_reducible repeat (first | refine blk_drewN ?_ _ | refine blk_drew ?_ | refine blk_alloc ?_ _)); exact BK227.out) hb); have n2_ := Aside0.mk (below_step (by repeat (first | (with_reducible first | exact HB.out | apply below_alloc | apply pw_below_drewN | apply below_drew1 | refine below_set ?_ GE227.out) | exact HB.out)) hb); have n3_ := Aside0.mk (hbox); have n4_ := Aside0.mk ((by rw [hg]; exact (below_size (by repeat (first | (with_reducible first | exact HB.out | apply below_alloc | apply pw_below_drewN | apply below_drew1 | refine below_set ?_ GE227.out) | exact HB.out))) : w.heap.size ≤ gb241)); have n5_ := Aside0.mk ((by rw [hg]; exact (below_size (by repeat (first | (with_reducible first | exact HB.out | apply below_alloc | apply pw_below_drewN | apply below_drew1 | refine below_set ?_ GE227.out) | exact HB.out))) : w.heap.size ≤ gb241)); have n6_ := Aside0.mk ((by rw [hg]; exact Nat.ne_of_lt (blk_lt (g := gb227) (o := .cells #[.int .i64 a0_0, .slice (some ad240) l0_1.length c0_1] 30 (0, 0)) (by (with_reducible repeat (first | refine blk_drewN ?_ _ | refine blk_drew ?_ | refine blk_alloc ?_ _)); exact BK227.out)) : gb227 ≠ gb241)); have n7_ := Aside0.mk ((by rw [hg]; exact Nat.ne_of_gt (blk_lt (g := gb227) (o := .cells #[.int .i64 a0_0, .slice (some ad240) l0_1.length c0_1] 30 (0, 0)) (by (with_reducible repeat (first | refine blk_drewN ?_ _ | refine blk_drew ?_ | refine blk_alloc ?_ _)); exact BK227.out)) : gb241 ≠ gb227)); clear HO_7; clear BK227; clear HB; have HO_7 := n0_; have BK227 := n1_; have HB := n2_; have BK241 := n3_; have GW241 := n4_; have GE241 := n5_; have NB227_241 := n6_; have NB241_227 := n7_; clear n0_ n1_ n2_ n3_ n4_ n5_ n6_ n7_; clear hb hbox hg; have hnb55 := NB241_227.out; have hnc55 := NB227_241.out; have hcz56_0 : w54.cell? ⟨gb241, 0, none⟩ = some (.int .i64 0) := (blk_cell BK241.out 0).trans rfl; have hcz56_1 : w54.cell? ⟨gb241, 1, none⟩ = some (.int .i64 0) := (blk_cell BK241.out 1).trans rfl; have hcz56_2 : w54.cell? ⟨gb241, 2, none⟩ = some (.int .i64 0) := (blk_cell BK241.out 2).trans rfl; have hcz56_3 : w54.cell? ⟨gb241, 3, none⟩ = some (.int .i64 0) := (blk_cell BK241.out 3).trans rfl; have hfz56_0 := blk_frozen BK241.out 0; have hfz56_1 := blk_frozen BK241.out 1; have hfz56_2 := blk_frozen BK241.out 2; have hfz56_3 := blk_frozen BK241.out 3))
                             have n0_ : Aside0 (Kd.S (Kd.slice 2 (Kd.int .i64)) 34 ((((w54.setCell ⟨gb241, 0, none⟩ (.int .i64 ((rd_T77 l0_1 x56_3).f0))).setCell ⟨gb241, 1, none⟩ (.int .i64 ((rd_T77 l0_1 x56_3).f1))).setCell ⟨gb241, 2, none⟩ (.int .i64 ((rd_T77 l0_1 x56_3).f2))).setCell ⟨gb241, 3, none⟩ (.int .i64 ((rd_T77 l0_1 x56_3).f3))) w.heap.size (fun _ => True) (.slice (some ⟨go15, 0, none⟩) x7_3.length co15) x7_3) := ⟨by (with_reducible repeat (first | apply Kd.S_alloc | apply Kd.S_drewN | apply Kd.S_drew)); exact Kd.S_mono (Kd.S_far (p := ⟨gb241, 3, none⟩) (Kd.S_far (p := ⟨gb241, 2, none⟩) (Kd.S_far (p := ⟨gb241, 1, none⟩) (Kd.S_far (p := ⟨gb241, 0, none⟩) (Kd.S_types HO_7.out BK241.out (by decide)) (fun _ hk => hk.2) (.int .i64 ((rd_T77 l0_1 x56_3).f0))) (fun _ hk => hk.2) (.int .i64 ((rd_T77 l0_1 x56_3).f1))) (fun _ hk => hk.2) (.int .i64 ((rd_T77 l0_1 x56_3).f2))) (fun _ hk => hk.2) (.int .i64 ((rd_T77 l0_1 x56_3).f3))) (fun _ hk => trivial)⟩
                             have n1_ : Aside0 (((((w54.setCell ⟨gb241, 0, none⟩ (.int .i64 ((rd_T77 l0_1 x56_3).f0))).setCell ⟨gb241, 1, none⟩ (.int .i64 ((rd_T77 l0_1 x56_3).f1))).setCell ⟨gb241, 2, none⟩ (.int .i64 ((rd_T77 l0_1 x56_3).f2))).setCell ⟨gb241, 3, none⟩ (.int .i64 ((rd_T77 l0_1 x56_3).f3))).heap[gb227]? = some (.cells #[.int .i64 a0_0, .slice (some ad240) l0_1.length c0_1] 30 (0, 0))) := ⟨by (with_reducible repeat (first | refine blk_drewN ?_ _ | refine blk_drew ?_ | refine blk_alloc ?_ _)); refine blk_far ?_ NB227_241.out _; (with_reducible repeat (first | refine blk_drewN ?_ _ | refine blk_drew ?_ | refine blk_alloc ?_ _)); refine blk_far ?_ NB227_241.out _; (with_reducible repeat (first | refine blk_drewN ?_ _ | refine blk_drew ?_ | refine blk_alloc ?_ _)); refine blk_far ?_ NB227_241.out _; (with_reducible repeat (first | refine blk_drewN ?_ _ | refine blk_drew ?_ | refine blk_alloc ?_ _)); refine blk_far ?_ NB227_241.out _; (with_reducible repeat (first | refine blk_drewN ?_ _ | refine blk_drew ?_ | refine blk_alloc ?_ _)); exact BK227.out⟩
                             have n2_ : Aside0 (((((w54.setCell ⟨gb241, 0, none⟩ (.int .i64 ((rd_T77 l0_1 x56_3).f0))).setCell ⟨gb241, 1, none⟩ (.int .i64 ((rd_T77 l0_1 x56_3).f1))).setCell ⟨gb241, 2, none⟩ (.int .i64 ((rd_T77 l0_1 x56_3).f2))).setCell ⟨gb241, 3, none⟩ (.int .i64 ((rd_T77 l0_1 x56_3).f3))).heap[gb241]? = some (.cells #[.int .i64 ((rd_T77 l0_1 x56_3).f0), .int .i64 ((rd_T77 l0_1 x56_3).f1), .int .i64 ((rd_T77 l0_1 x56_3).f2), .int .i64 ((rd_T77 l0_1 x56_3).f3)] 77 (0, 0))) := ⟨by (with_reducible repeat (first | refine blk_drewN ?_ _ | refine blk_drew ?_ | refine blk_alloc ?_ _)); refine blk_put (cs := #[.int .i64 ((rd_T77 l0_1 x56_3).f0), .int .i64 ((rd_T77 l0_1 x56_3).f1), .int .i64 ((rd_T77 l0_1 x56_3).f2), .int .i64 0]) ?_ 3 _ rfl; (with_reducible repeat (first | refine blk_drewN ?_ _ | refine blk_drew ?_ | refine blk_alloc ?_ _)); refine blk_put (cs := #[.int .i64 ((rd_T77 l0_1 x56_3).f0), .int .i64 ((rd_T77 l0_1 x56_3).f1), .int .i64 0, .int .i64 0]) ?_ 2 _ rfl; (with_reducible repeat (first | refine blk_drewN ?_ _ | refine blk_drew ?_ | refine blk_alloc ?_ _)); refine blk_put (cs := #[.int .i64 ((rd_T77 l0_1 x56_3).f0), .int .i64 0, .int .i64 0, .int .i64 0]) ?_ 1 _ rfl; (with_reducible repeat (first | refine blk_drewN ?_ _ | refine blk_drew ?_ | refine blk_alloc ?_ _)); refine blk_put (cs := #[.int .i64 0, .int .i64 0, .int .i64 0, .int .i64 0]) ?_ 0 _ rfl; (with_reducible repeat (first | refine blk_drewN ?_ _ | refine blk_drew ?_ | refine blk_alloc ?_ _)); exact BK241.out⟩
                             have n3_ : Aside0 (Below w.heap.size w ((((w54.setCell ⟨gb241, 0, none⟩ (.int .i64 ((rd_T77 l0_1 x56_3).f0))).setCell ⟨gb241, 1, none⟩ (.int .i64 ((rd_T77 l0_1 x56_3).f1))).setCell ⟨gb241, 2, none⟩ (.int .i64 ((rd_T77 l0_1 x56_3).f2))).setCell ⟨gb241, 3, none⟩ (.int .i64 ((rd_T77 l0_1 x56_3).f3)))) := ⟨by repeat (first | (with_reducible first | exact HB.out | apply below_alloc | apply pw_below_drewN | apply below_drew1 | refine below_set ?_ GE227.out | refine below_set ?_ GE241.out) | exact HB.out)⟩
                             (try clear HO_7)
                             (try clear BK227)
                             (try clear BK241)
                             (try clear HB)
                             generalize ((((w54.setCell ⟨gb241, 0, none⟩ (.int .i64 ((rd_T77 l0_1 x56_3).f0))).setCell ⟨gb241, 1, none⟩ (.int .i64 ((rd_T77 l0_1 x56_3).f1))).setCell ⟨gb241, 2, none⟩ (.int .i64 ((rd_T77 l0_1 x56_3).f2))).setCell ⟨gb241, 3, none⟩ (.int .i64 ((rd_T77 l0_1 x56_3).f3))) = w57 at n0_ n1_ n2_ n3_ ⊢
                             have HO_7 := n0_
                             have BK227 := n1_
                             have BK241 := n2_
                             have HB := n3_
                             clear n0_ n1_ n2_ n3_
                             have n0_ := Aside0.mk (Kd.S_drew HO_7.out)
                             have n1_ := Aside0.mk (blk_drew BK227.out)
                             have n2_ := Aside0.mk (blk_drew BK241.out)
                             have n3_ := Aside0.mk (below_drew1 HB.out)
                             clear HO_7
                             clear BK227
                             clear BK241
                             clear HB
                             have HO_7 := n0_
                             have BK227 := n1_
                             have BK241 := n2_
                             have HB := n3_
                             clear n0_ n1_ n2_ n3_
                             have p242 : 0 ≤ (x8_1 : Int) := of_decide_eq_true (by first | (with_reducible assumption) | assumption)
                             have q242 : x8_1 < (l1.length : Int) := of_decide_eq_true (by first | (with_reducible assumption) | assumption)
                             obtain ⟨ad242, e242, hx242_0⟩ := Kd.at_int HR1.out x8_1 p242 q242
                             have hw242_0 := hx242_0
                             cases e242
                             replace hx242_0 := (HB.out.cell (World.block_lt_of_cell? w _ hx242_0)).trans hx242_0
                             replace p242 := eq_true p242
                             replace q242 := eq_true q242
                             refine start_ (n := 7) (S := fun w' => w'.cell? ⟨gb241, 0, none⟩ = some (.int .i64 ((rd_T77 l0_1 x56_3).f0)) ∧ w'.cell? ⟨gb241, 1, none⟩ = some (.int .i64 ((rd_T77 l0_1 x56_3).f1)) ∧ w'.cell? ⟨gb241, 2, none⟩ = some (.int .i64 ((rd_T77 l0_1 x56_3).f2)) ∧ w'.cell? ⟨gb241, 3, none⟩ = some (.int .i64 ((rd_T77 l0_1 x56_3).f3)) ∧ w'.cell? (ad242.add (x8_1).toNat) = some (.int .i64 (rd l1 x8_1))) (ds := []) #[false, false, false, false, false, false, false] (by kernel_rfl) rfl rfl ⟨(blk_cell BK241.out 0).trans rfl, (blk_cell BK241.out 1).trans rfl, (blk_cell BK241.out 2).trans rfl, (blk_cell BK241.out 3).trans rfl, ((HB.out.cell (World.block_lt_of_cell? w _ hw242_0)).trans hw242_0)⟩ (fun hHeld => ?_)
                             generalize w57.drew = w58 at HO_7 BK227 BK241 HB hx242_0 hHeld ⊢
                             refine pure_ (i := 0) (N := some 60) (v := ?_) (a' := ?_) #[true, false, false, false, false, false, false] rfl rfl (by kernel_rfl) (fun _ _ _ h => h) (Or.inl ⟨by rfl, ?_⟩) ?_ ?_
                             rotate_left
                             ·intro w'
                              go_simp
                              with_reducible rfl
                             rotate_left
                             ·simp only [Act.put, List.setIfInBounds_toArray, List.set_cons_zero, List.set_cons_succ, i64_w, i32_w]
                              rfl
                             refine pure_ (i := 2) (N := some 62) (v := ?_) (a' := ?_) #[true, false, true, false, false, false, false] rfl rfl (by kernel_rfl) (fun _ _ _ h => h) (Or.inl ⟨by rfl, ?_⟩) ?_ ?_
                             rotate_left
                             ·intro w'
                              go_simp
                              with_reducible rfl
                             rotate_left
                             ·simp only [Act.put, List.setIfInBounds_toArray, List.set_cons_zero, List.set_cons_succ, i64_w, i32_w]
                              rfl
                             refine pure_ (i := 3) (N := some 63) (v := ?_) (a' := ?_) #[true, false, true, true, false, false, false] rfl rfl (by kernel_rfl) (fun _ _ _ h => h) (Or.inl ⟨by rfl, ?_⟩) ?_ ?_
                             rotate_left
                             ·intro w'
                              go_simp
                              with_reducible rfl
                             rotate_left
                             ·simp only [Act.put, List.setIfInBounds_toArray, List.set_cons_zero, List.set_cons_succ, i64_w, i32_w]
                              rfl
                             refine pure_ (i := 4) (N := some 64) (v := ?_) (a' := ?_) #[true, false, true, true, true, false, false] rfl rfl (by kernel_rfl) (fun _ _ _ h => h) (Or.inl ⟨by rfl, ?_⟩) ?_ ?_
                             rotate_left
                             ·intro w'
                              go_simp
                              with_reducible rfl
                             rotate_left
                             ·simp only [Act.put, List.setIfInBounds_toArray, List.set_cons_zero, List.set_cons_succ, i64_w, i32_w]
                              rfl
                             refine take_ (i := 1) (N := some 61) (v := ?_) (a' := ?_) #[true, true, true, true, true, false, false] rfl rfl (by kernel_rfl) (fun _ _ _ h => h) (Or.inl ⟨by rfl, ?_⟩) hHeld ?_ ?_
                             rotate_left
                             ·rintro w' ⟨s0, s1, s2, s3, s4⟩
                              go_simp
                              with_reducible rfl
                             rotate_left
                             ·simp only [Act.put, List.setIfInBounds_toArray, List.set_cons_zero, List.set_cons_succ, i64_w, i32_w]
                              rfl
                             refine take_ (i := 5) (N := some 65) (v := ?_) (a' := ?_) #[true, true, true, true, true, true, false] rfl rfl (by kernel_rfl) (fun _ _ _ h => h) (Or.inl ⟨by rfl, ?_⟩) hHeld ?_ ?_
                             rotate_left
                             ·rintro w' ⟨s0, s1, s2, s3, s4⟩
                              go_simp
                              with_reducible rfl
                             rotate_left
                             ·simp only [Act.put, List.setIfInBounds_toArray, List.set_cons_zero, List.set_cons_succ, i64_w, i32_w]
                              rfl
                             refine pure_ (i := 6) (N := some 66) (v := ?_) (a' := ?_) #[true, true, true, true, true, true, true] rfl rfl (by kernel_rfl) (fun _ _ _ h => h) (Or.inl ⟨by rfl, ?_⟩) ?_ ?_
                             rotate_left
                             ·intro w'
                              go_simp
                              with_reducible rfl
                             rotate_left
                             ·simp only [Act.put, List.setIfInBounds_toArray, List.set_cons_zero, List.set_cons_succ, i64_w, i32_w]
                              rfl
                             refine done_ (by kernel_rfl) ?_
                             try go_wp2_with fail
                             have n0_ := Aside0.mk (Kd.S_drew HO_7.out)
                             have n1_ := Aside0.mk (blk_drew BK227.out)
                             have n2_ := Aside0.mk (blk_drew BK241.out)
                             have n3_ := Aside0.mk (below_drew1 HB.out)
                             clear HO_7
                             clear BK227
                             clear BK241
                             clear HB
                             have HO_7 := n0_
                             have BK227 := n1_
                             have BK241 := n2_
                             have HB := n3_
                             clear n0_ n1_ n2_ n3_
                             have p243 : 0 ≤ (x8_1 : Int) := of_decide_eq_true (by first | (with_reducible assumption) | assumption)
                             have q243 : x8_1 < (x7_3.length : Int) := of_decide_eq_true (by first | (with_reducible assumption) | assumption)
                             obtain ⟨ad243, A243_0, c243_0, e243, hx243_0, hl243_0, hi243_0⟩ := at_L5 (Kd.S_reads' HO_7.out).2.2 x8_1 p243 q243
                             obtain rfl : (⟨go15, 0, none⟩ : Addr) = ad243 := (by injection e243)
                             obtain ⟨ce243, hce243, hMe243, hcc243⟩ := Kd.S_get HO_7.out [] x8_1 p243 (by first | exact q243 | exact of_decide_eq_true (by first | (with_reducible assumption) | assumption) | (have e_ := (Kd.S_reads' HO_7.out).1; omega))
                             obtain ⟨ve243_0, rfl, ge243_0⟩ := hMe243
                             have hv243_0 := hcc243 0 _ rfl
                             rw [Nat.add_zero, show ((Kd.slice 2 (Kd.int .i64))).sz = 1 from rfl, Nat.mul_one] at hv243_0
                             replace hv243_0 := Option.some.inj (hv243_0.symm.trans hx243_0)
                             rw [hv243_0] at ge243_0
                             have HL243_0 := Aside0.mk (show Kd.R (Kd.int .i64) 2 _ _ _ _ (rd_L5 x7_3 x8_1) from ge243_0)
                             clear hv243_0 ge243_0
                             have HX243_0 := Aside0.mk hx243_0
                             clear hcc243 hce243
                             (first | simp only [add_plain] at hx243_0 | simp only [add_at] at hx243_0 | simp only [Addr.add, Nat.zero_add] at hx243_0 | skip)
                             have HR243_0 := Aside0.mk hi243_0
                             have HC243_0 := Aside0.mk hl243_0
                             clear hi243_0 hl243_0
                             replace p243 := eq_true p243
                             replace q243 := eq_true q243
                             have p244 : 0 ≤ (x8_1 : Int) := of_decide_eq_true (by first | (with_reducible assumption) | assumption)
                             have q244 : x8_1 < (x7_3.length : Int) := of_decide_eq_true (by first | (with_reducible assumption) | assumption)
                             obtain ⟨ad244, A244_0, c244_0, e244, hx244_0, hl244_0, hi244_0⟩ := at_L5 (Kd.S_reads' HO_7.out).2.2 x8_1 p244 q244
                             obtain rfl : (⟨go15, 0, none⟩ : Addr) = ad244 := (by injection e244)
                             obtain ⟨ce244, hce244, hMe244, hcc244⟩ := Kd.S_get HO_7.out [] x8_1 p244 (by first | exact q244 | exact of_decide_eq_true (by first | (with_reducible assumption) | assumption) | (have e_ := (Kd.S_reads' HO_7.out).1; omega))
                             obtain ⟨ve244_0, rfl, ge244_0⟩ := hMe244
                             have hv244_0 := hcc244 0 _ rfl
                             rw [Nat.add_zero, show ((Kd.slice 2 (Kd.int .i64))).sz = 1 from rfl, Nat.mul_one] at hv244_0
                             replace hv244_0 := Option.some.inj (hv244_0.symm.trans hx244_0)
                             rw [hv244_0] at ge244_0
                             have HL244_0 := Aside0.mk (show Kd.R (Kd.int .i64) 2 _ _ _ _ (rd_L5 x7_3 x8_1) from ge244_0)
                             clear hv244_0 ge244_0
                             have HX244_0 := Aside0.mk hx244_0
                             clear hcc244 hce244
                             (first | simp only [add_plain] at hx244_0 | simp only [add_at] at hx244_0 | simp only [Addr.add, Nat.zero_add] at hx244_0 | skip)
                             have HR244_0 := Aside0.mk hi244_0
                             have HC244_0 := Aside0.mk hl244_0
                             clear hi244_0 hl244_0
                             replace p244 := eq_true p244
                             replace q244 := eq_true q244
                             have ea_ := Option.some.inj (hx243_0.symm.trans hx244_0)
                             injection ea_ with ea_ en_ ec_
                             subst ea_
                             subst ec_
                             clear en_
                             have p245 : 0 ≤ (((rd_T77 l0_1 x56_3).f0) : Int) := of_decide_eq_true (by first | (with_reducible assumption) | assumption)
                             have q245 : ((rd_T77 l0_1 x56_3).f0) < ((rd_L5 x7_3 x8_1).length : Int) := of_decide_eq_true (by first | (with_reducible assumption) | assumption)
                             obtain ⟨ad245, e245, hx245_0⟩ := Kd.at_int (by repeat (first | (with_reducible exact HR244_0.out) | (with_reducible refine Kd.C_alloc ?_ _) | (with_reducible refine Kd.C_drewN ?_ _) | (with_reducible refine Kd.C_drew ?_) | exact HR244_0.out)) ((rd_T77 l0_1 x56_3).f0) p245 q245
                             cases e245
                             replace p245 := eq_true p245
                             replace q245 := eq_true q245
                             have p246 : 0 ≤ ((ji47) : Int) := of_decide_eq_true (by first | (with_reducible assumption) | assumption)
                             have q246 : (ji47) < (x7_3.length : Int) := of_decide_eq_true (by first | (with_reducible assumption) | assumption)
                             obtain ⟨ad246, A246_0, c246_0, e246, hx246_0, hl246_0, hi246_0⟩ := at_L5 (Kd.S_reads' HO_7.out).2.2 (ji47) p246 q246
                             obtain rfl : (⟨go15, 0, none⟩ : Addr) = ad246 := (by injection e246)
                             obtain ⟨ce246, hce246, hMe246, hcc246⟩ := Kd.S_get HO_7.out [] (ji47) p246 (by first | exact q246 | exact of_decide_eq_true (by first | (with_reducible assumption) | assumption) | (have e_ := (Kd.S_reads' HO_7.out).1; omega))
                             obtain ⟨ve246_0, rfl, ge246_0⟩ := hMe246
                             have hv246_0 := hcc246 0 _ rfl
                             rw [Nat.add_zero, show ((Kd.slice 2 (Kd.int .i64))).sz = 1 from rfl, Nat.mul_one] at hv246_0
                             replace hv246_0 := Option.some.inj (hv246_0.symm.trans hx246_0)
                             rw [hv246_0] at ge246_0
                             have HL246_0 := Aside0.mk (show Kd.R (Kd.int .i64) 2 _ _ _ _ (rd_L5 x7_3 (ji47)) from ge246_0)
                             clear hv246_0 ge246_0
                             have HX246_0 := Aside0.mk hx246_0
                             clear hcc246 hce246
                             (first | simp only [add_plain] at hx246_0 | simp only [add_at] at hx246_0 | simp only [Addr.add, Nat.zero_add] at hx246_0 | skip)
                             have HR246_0 := Aside0.mk hi246_0
                             have HC246_0 := Aside0.mk hl246_0
                             clear hi246_0 hl246_0
                             replace p246 := eq_true p246
                             replace q246 := eq_true q246
                             have p247 : 0 ≤ (((rd_T77 l0_1 x56_3).f2) : Int) := of_decide_eq_true (by first | (with_reducible assumption) | assumption)
                             have q247 : ((rd_T77 l0_1 x56_3).f2) < ((rd_L5 x7_3 (ji47)).length : Int) := of_decide_eq_true (by first | (with_reducible assumption) | assumption)
                             obtain ⟨ad247, e247, hx247_0⟩ := Kd.at_int (by repeat (first | (with_reducible exact HR246_0.out) | (with_reducible refine Kd.C_alloc ?_ _) | (with_reducible refine Kd.C_drewN ?_ _) | (with_reducible refine Kd.C_drew ?_) | exact HR246_0.out)) ((rd_T77 l0_1 x56_3).f2) p247 q247
                             cases e247
                             replace p247 := eq_true p247
                             replace q247 := eq_true q247
                             have p53 : 0 ≤ (((rd_T77 l0_1 x56_3).f0) : Int) := of_decide_eq_true (by first | (with_reducible assumption) | assumption)
                             have q53 : (((rd_T77 l0_1 x56_3).f0) : Int) < (((rd_L5 x7_3 x8_1).length : Int) : Int) := of_decide_eq_true (by first | (with_reducible assumption) | assumption)
                             obtain ⟨go53, co53, eo53, gb53, gl53, cl53, HG53⟩ := Kd.R_form HL243_0.out (by omega)
                             (first | cases eo53 | (injection eo53 with ea_ en_ ec_; (first | subst ea_ | (injection ea_ with ea_; subst ea_)); subst ec_; clear en_))
                             have GB53 := Aside0.mk gb53
                             have GG53 := Aside0.mk HG53
                             clear gb53 gl53 HG53
                             (first | simp only [add_plain] at hx245_0 | skip)
                             obtain ⟨hx53_0, hf53_0⟩ := Kd.R_celln 0 HL243_0.out (((rd_T77 l0_1 x56_3).f0) : Int) p53 q53
                             replace p53 := eq_true p53
                             replace q53 := eq_true q53
                             have hq60 : (x8_1 : Int) < (x7_3.length : Int) := (by have h_ : (x8_1 : Int) < ((x7_3.length : Int) : Int) := of_decide_eq_true (by first | (with_reducible assumption) | assumption); first | exact h_ | (have e_ := (Kd.S_reads' HO_7.out).1; omega) | simpa only [List.length_set, List.length_set] using h_)
                             obtain ⟨oki60, ce60, hcl60, hM60, hcc60, hok60, hbk60⟩ := Kd.S_borrow HO_7.out [] (x8_1 : Int) (of_decide_eq_true (by first | (with_reducible assumption) | assumption)) hq60
                             obtain ⟨ve60_0, rfl, ge60_0⟩ := hM60
                             have hv60 := hcc60 0 _ rfl
                             rw [Nat.add_zero, show ((Kd.slice 2 (Kd.int .i64))).sz = 1 from rfl, Nat.mul_one] at hv60
                             replace hv60 := Option.some.inj (hv60.symm.trans HX243_0.out)
                             subst hv60
                             clear hcc60 hcl60
                             replace ge60_0 := (show Kd.R (Kd.int .i64) 2 _ _ _ _ (rd_L5 x7_3 x8_1) from ge60_0)
                             have HP60 := Kd.R_putg ge60_0 (((rd_T77 l0_1 x56_3).f0) : Int) ji52
                             rw [← Ny248.out] at HP60
                             have HS60 := hbk60 HP60.2 (fun k_ e_ => by injection e_ with e_; subst e_; exact ge60_0.1 _ rfl) (x' := y248) (Kd.M_row HP60.1)
                             rw [← Ny250.out] at HS60
                             have HQ60 := Aside0.mk HS60
                             clear HP60 HS60 hbk60 hok60
                             refine start_ (n := 27) (S := fun w' => w'.cell? ⟨gb241, 0, none⟩ = some (.int .i64 ((rd_T77 l0_1 x56_3).f0)) ∧ w'.cell? ⟨gb241, 1, none⟩ = some (.int .i64 ((rd_T77 l0_1 x56_3).f1)) ∧ w'.cell? ⟨gb241, 2, none⟩ = some (.int .i64 ((rd_T77 l0_1 x56_3).f2)) ∧ w'.cell? ⟨gb241, 3, none⟩ = some (.int .i64 ((rd_T77 l0_1 x56_3).f3)) ∧ w'.cell? ⟨go15, (x8_1).toNat, none⟩ = some (.slice (some ⟨go53, 0, none⟩) (rd_L5 x7_3 x8_1).length c243_0) ∧ w'.cell? ⟨go15, (x8_1).toNat, none⟩ = some (.slice (some ⟨go53, 0, none⟩) (rd_L5 x7_3 x8_1).length c243_0) ∧ w'.cell? ⟨go53, (((rd_T77 l0_1 x56_3).f0)).toNat, none⟩ = some (.int .i64 (rd (rd_L5 x7_3 x8_1) ((rd_T77 l0_1 x56_3).f0))) ∧ w'.cell? ⟨go15, ((ji47)).toNat, none⟩ = some (.slice (some ad247) (rd_L5 x7_3 (ji47)).length c246_0) ∧ w'.cell? (ad247.add (((rd_T77 l0_1 x56_3).f2)).toNat) = some (.int .i64 (rd (rd_L5 x7_3 (ji47)) ((rd_T77 l0_1 x56_3).f2)))) (ds := [26]) #[false, false, false, false, false, false, false, false, false, false, false, false, false, false, false, false, false, false, false, false, false, false, false, false, false, false, false] (by kernel_rfl) rfl rfl ⟨(blk_cell BK241.out 0).trans rfl, (blk_cell BK241.out 1).trans rfl, (blk_cell BK241.out 2).trans rfl, (blk_cell BK241.out 3).trans rfl, hx243_0, hx244_0, hx245_0, hx246_0, hx247_0⟩ (fun hHeld => ?_); refine with_tabW impl_Set_left_at_impl_anyColour.tab17 impl_Set_left_at_impl_anyColour.bits17 (fun HT_ HW_ => ?_)
                             generalize w58.drew = w59 at HO_7 BK227 BK241 HB GG53 HL243_0 HL244_0 HL246_0 HQ60 HR243_0 HR244_0 HR246_0 HX243_0 HX244_0 HX246_0 hf53_0 hx243_0 hx244_0 hx245_0 hx246_0 hx247_0 hx53_0 hHeld ⊢
                             refine pure_ (i := 0) (N := some 67) (v := ?_) (a' := ?_) #[true, false, false, false, false, false, false, false, false, false, false, false, false, false, false, false, false, false, false, false, false, false, false, false, false, false, false] rfl rfl (any_of HT_.out (by kernel_rfl)) (fun _ _ _ h => h) (Or.inl ⟨by rfl, ?_⟩) ?_ ?_
                             rotate_left
                             ·intro w'
                              go_simp
                              with_reducible rfl
                             rotate_left
                             ·simp only [Act.put, List.setIfInBounds_toArray, List.set_cons_zero, List.set_cons_succ, i64_w, i32_w]
                              rfl
                             refine pure_ (i := 1) (N := some 68) (v := ?_) (a' := ?_) #[true, true, false, false, false, false, false, false, false, false, false, false, false, false, false, false, false, false, false, false, false, false, false, false, false, false, false] rfl rfl (any_of HT_.out (by kernel_rfl)) (fun _ _ _ h => h) (Or.inl ⟨by rfl, ?_⟩) ?_ ?_
                             rotate_left
                             ·intro w'
                              go_simp
                              with_reducible rfl
                             rotate_left
                             ·simp only [Act.put, List.setIfInBounds_toArray, List.set_cons_zero, List.set_cons_succ, i64_w, i32_w]
                              rfl
                             refine pure_ (i := 2) (N := some 69) (v := ?_) (a' := ?_) #[true, true, true, false, false, false, false, false, false, false, false, false, false, false, false, false, false, false, false, false, false, false, false, false, false, false, false] rfl rfl (any_of HT_.out (by kernel_rfl)) (fun _ _ _ h => h) (Or.inl ⟨by rfl, ?_⟩) ?_ ?_
                             rotate_left
                             ·intro w'
                              go_simp
                              with_reducible rfl
                             rotate_left
                             ·simp only [Act.put, List.setIfInBounds_toArray, List.set_cons_zero, List.set_cons_succ, i64_w, i32_w]
                              rfl
                             refine pure_ (i := 4) (N := some 71) (v := ?_) (a' := ?_) #[true, true, true, false, true, false, false, false, false, false, false, false, false, false, false, false, false, false, false, false, false, false, false, false, false, false, false] rfl rfl (any_of HT_.out (by kernel_rfl)) (fun _ _ _ h => h) (Or.inl ⟨by rfl, ?_⟩) ?_ ?_
                             rotate_left
                             ·intro w'
                              go_simp
                              with_reducible rfl
                             rotate_left
                             ·simp only [Act.put, List.setIfInBounds_toArray, List.set_cons_zero, List.set_cons_succ, i64_w, i32_w]
                              rfl
                             refine pure_ (i := 6) (N := some 73) (v := ?_) (a' := ?_) #[true, true, true, false, true, false, true, false, false, false, false, false, false, false, false, false, false, false, false, false, false, false, false, false, false, false, false] rfl rfl (any_of HT_.out (by kernel_rfl)) (fun _ _ _ h => h) (Or.inl ⟨by rfl, ?_⟩) ?_ ?_
                             rotate_left
                             ·intro w'
                              go_simp
                              with_reducible rfl
                             rotate_left
                             ·simp only [Act.put, List.setIfInBounds_toArray, List.set_cons_zero, List.set_cons_succ, i64_w, i32_w]
                              rfl
                             refine pure_ (i := 7) (N := some 74) (v := ?_) (a' := ?_) #[true, true, true, false, true, false, true, true, false, false, false, false, false, false, false, false, false, false, false, false, false, false, false, false, false, false, false] rfl rfl (any_of HT_.out (by kernel_rfl)) (fun _ _ _ h => h) (Or.inl ⟨by rfl, ?_⟩) ?_ ?_
                             rotate_left
                             ·intro w'
                              go_simp
                              with_reducible rfl
                             rotate_left
                             ·simp only [Act.put, List.setIfInBounds_toArray, List.set_cons_zero, List.set_cons_succ, i64_w, i32_w]
                              rfl
                             refine pure_ (i := 8) (N := some 75) (v := ?_) (a' := ?_) #[true, true, true, false, true, false, true, true, true, false, false, false, false, false, false, false, false, false, false, false, false, false, false, false, false, false, false] rfl rfl (any_of HT_.out (by kernel_rfl)) (fun _ _ _ h => h) (Or.inl ⟨by rfl, ?_⟩) ?_ ?_
                             rotate_left
                             ·intro w'
                              go_simp
                              with_reducible rfl
                             rotate_left
                             ·simp only [Act.put, List.setIfInBounds_toArray, List.set_cons_zero, List.set_cons_succ, i64_w, i32_w]
                              rfl
                             refine pure_ (i := 10) (N := some 77) (v := ?_) (a' := ?_) #[true, true, true, false, true, false, true, true, true, false, true, false, false, false, false, false, false, false, false, false, false, false, false, false, false, false, false] rfl rfl (any_of HT_.out (by kernel_rfl)) (fun _ _ _ h => h) (Or.inl ⟨by rfl, ?_⟩) ?_ ?_
                             rotate_left
                             ·intro w'
                              go_simp
                              with_reducible rfl
                             rotate_left
                             ·simp only [Act.put, List.setIfInBounds_toArray, List.set_cons_zero, List.set_cons_succ, i64_w, i32_w]
                              rfl
                             refine pure_ (i := 14) (N := some 81) (v := ?_) (a' := ?_) #[true, true, true, false, true, false, true, true, true, false, true, false, false, false, true, false, false, false, false, false, false, false, false, false, false, false, false] rfl rfl (any_of HT_.out (by kernel_rfl)) (fun _ _ _ h => h) (Or.inl ⟨by rfl, ?_⟩) ?_ ?_
                             rotate_left
                             ·intro w'
                              go_simp
                              with_reducible rfl
                             rotate_left
                             ·simp only [Act.put, List.setIfInBounds_toArray, List.set_cons_zero, List.set_cons_succ, i64_w, i32_w]
                              rfl
                             refine pure_ (i := 15) (N := some 82) (v := ?_) (a' := ?_) #[true, true, true, false, true, false, true, true, true, false, true, false, false, false, true, true, false, false, false, false, false, false, false, false, false, false, false] rfl rfl (any_of HT_.out (by kernel_rfl)) (fun _ _ _ h => h) (Or.inl ⟨by rfl, ?_⟩) ?_ ?_
                             rotate_left
                             ·intro w'
                              go_simp
                              with_reducible rfl
                             rotate_left
                             ·simp only [Act.put, List.setIfInBounds_toArray, List.set_cons_zero, List.set_cons_succ, i64_w, i32_w]
                              rfl
                             refine pure_ (i := 16) (N := some 83) (v := ?_) (a' := ?_) #[true, true, true, false, true, false, true, true, true, false, true, false, false, false, true, true, true, false, false, false, false, false, false, false, false, false, false] rfl rfl (any_of HT_.out (by kernel_rfl)) (fun _ _ _ h => h) (Or.inl ⟨by rfl, ?_⟩) ?_ ?_
                             rotate_left
                             ·intro w'
                              go_simp
                              with_reducible rfl
                             rotate_left
                             ·simp only [Act.put, List.setIfInBounds_toArray, List.set_cons_zero, List.set_cons_succ, i64_w, i32_w]
                              rfl
                             refine pure_ (i := 17) (N := some 84) (v := ?_) (a' := ?_) #[true, true, true, false, true, false, true, true, true, false, true, false, false, false, true, true, true, true, false, false, false, false, false, false, false, false, false] rfl rfl (any_of HT_.out (by kernel_rfl)) (fun _ _ _ h => h) (Or.inl ⟨by rfl, ?_⟩) ?_ ?_
                             rotate_left
                             ·intro w'
                              go_simp
                              with_reducible rfl
                             rotate_left
                             ·simp only [Act.put, List.setIfInBounds_toArray, List.set_cons_zero, List.set_cons_succ, i64_w, i32_w]
                              rfl
                             refine pure_ (i := 19) (N := some 86) (v := ?_) (a' := ?_) #[true, true, true, false, true, false, true, true, true, false, true, false, false, false, true, true, true, true, false, true, false, false, false, false, false, false, false] rfl rfl (any_of HT_.out (by kernel_rfl)) (fun _ _ _ h => h) (Or.inl ⟨by rfl, ?_⟩) ?_ ?_
                             rotate_left
                             ·intro w'
                              go_simp
                              with_reducible rfl
                             rotate_left
                             ·simp only [Act.put, List.setIfInBounds_toArray, List.set_cons_zero, List.set_cons_succ, i64_w, i32_w]
                              rfl
                             refine take_ (i := 3) (N := some 70) (v := ?_) (a' := ?_) #[true, true, true, true, true, false, true, true, true, false, true, false, false, false, true, true, true, true, false, true, false, false, false, false, false, false, false] rfl rfl (take_ofW HT_.out HW_.out (by kernel_rfl)) (fun _ _ _ h => h) (Or.inl ⟨by rfl, ?_⟩) hHeld ?_ ?_
                             rotate_left
                             ·rintro w' ⟨s0, s1, s2, s3, s4, s5, s6, s7, s8⟩
                              go_simp
                              with_reducible rfl
                             rotate_left
                             ·simp only [Act.put, List.setIfInBounds_toArray, List.set_cons_zero, List.set_cons_succ, i64_w, i32_w]
                              rfl
                             refine take_ (i := 5) (N := some 72) (v := ?_) (a' := ?_) #[true, true, true, true, true, true, true, true, true, false, true, false, false, false, true, true, true, true, false, true, false, false, false, false, false, false, false] rfl rfl (take_ofW HT_.out HW_.out (by kernel_rfl)) (fun _ _ _ h => h) (Or.inl ⟨by rfl, ?_⟩) hHeld ?_ ?_
                             rotate_left
                             ·rintro w' ⟨s0, s1, s2, s3, s4, s5, s6, s7, s8⟩
                              go_simp
                              with_reducible rfl
                             rotate_left
                             ·simp only [Act.put, List.setIfInBounds_toArray, List.set_cons_zero, List.set_cons_succ, i64_w, i32_w]
                              rfl
                             refine take_ (i := 9) (N := some 76) (v := ?_) (a' := ?_) #[true, true, true, true, true, true, true, true, true, true, true, false, false, false, true, true, true, true, false, true, false, false, false, false, false, false, false] rfl rfl (take_ofW HT_.out HW_.out (by kernel_rfl)) (fun _ _ _ h => h) (Or.inl ⟨by rfl, ?_⟩) hHeld ?_ ?_
                             rotate_left
                             ·rintro w' ⟨s0, s1, s2, s3, s4, s5, s6, s7, s8⟩
                              go_simp
                              with_reducible rfl
                             rotate_left
                             ·simp only [Act.put, List.setIfInBounds_toArray, List.set_cons_zero, List.set_cons_succ, i64_w, i32_w]
                              rfl
                             refine take_ (i := 11) (N := some 78) (v := ?_) (a' := ?_) #[true, true, true, true, true, true, true, true, true, true, true, true, false, false, true, true, true, true, false, true, false, false, false, false, false, false, false] rfl rfl (take_ofW HT_.out HW_.out (by kernel_rfl)) (fun _ _ _ h => h) (Or.inl ⟨by rfl, ?_⟩) hHeld ?_ ?_
                             rotate_left
                             ·rintro w' ⟨s0, s1, s2, s3, s4, s5, s6, s7, s8⟩
                              go_simp
                              with_reducible rfl
                             rotate_left
                             ·simp only [Act.put, List.setIfInBounds_toArray, List.set_cons_zero, List.set_cons_succ, i64_w, i32_w]
                              rfl
                             refine pure_ (i := 12) (N := some 79) (v := ?_) (a' := ?_) #[true, true, true, true, true, true, true, true, true, true, true, true, true, false, true, true, true, true, false, true, false, false, false, false, false, false, false] rfl rfl (any_of HT_.out (by kernel_rfl)) (fun _ _ _ h => h) (Or.inl ⟨by rfl, ?_⟩) ?_ ?_
                             rotate_left
                             ·intro w'
                              go_simp
                              with_reducible rfl
                             rotate_left
                             ·simp only [Act.put, List.setIfInBounds_toArray, List.set_cons_zero, List.set_cons_succ, i64_w, i32_w]
                              rfl
                             refine take_ (i := 13) (N := some 80) (v := ?_) (a' := ?_) #[true, true, true, true, true, true, true, true, true, true, true, true, true, true, true, true, true, true, false, true, false, false, false, false, false, false, false] rfl rfl (take_ofW HT_.out HW_.out (by kernel_rfl)) (fun _ _ _ h => h) (Or.inl ⟨by rfl, ?_⟩) hHeld ?_ ?_
                             rotate_left
                             ·rintro w' ⟨s0, s1, s2, s3, s4, s5, s6, s7, s8⟩
                              go_simp
                              with_reducible rfl
                             rotate_left
                             ·simp only [Act.put, List.setIfInBounds_toArray, List.set_cons_zero, List.set_cons_succ, i64_w, i32_w]
                              rfl
                             refine take_ (i := 18) (N := some 85) (v := ?_) (a' := ?_) #[true, true, true, true, true, true, true, true, true, true, true, true, true, true, true, true, true, true, true, true, false, false, false, false, false, false, false] rfl rfl (take_ofW HT_.out HW_.out (by kernel_rfl)) (fun _ _ _ h => h) (Or.inl ⟨by rfl, ?_⟩) hHeld ?_ ?_
                             rotate_left
                             ·rintro w' ⟨s0, s1, s2, s3, s4, s5, s6, s7, s8⟩
                              go_simp
                              with_reducible rfl
                             rotate_left
                             ·simp only [Act.put, List.setIfInBounds_toArray, List.set_cons_zero, List.set_cons_succ, i64_w, i32_w]
                              rfl
                             refine take_ (i := 20) (N := some 87) (v := ?_) (a' := ?_) #[true, true, true, true, true, true, true, true, true, true, true, true, true, true, true, true, true, true, true, true, true, false, false, false, false, false, false] rfl rfl (take_ofW HT_.out HW_.out (by kernel_rfl)) (fun _ _ _ h => h) (Or.inl ⟨by rfl, ?_⟩) hHeld ?_ ?_
                             rotate_left
                             ·rintro w' ⟨s0, s1, s2, s3, s4, s5, s6, s7, s8⟩
                              go_simp
                              with_reducible rfl
                             rotate_left
                             ·simp only [Act.put, List.setIfInBounds_toArray, List.set_cons_zero, List.set_cons_succ, i64_w, i32_w]
                              rfl
                             refine pure_ (i := 21) (N := some 88) (v := ?_) (a' := ?_) #[true, true, true, true, true, true, true, true, true, true, true, true, true, true, true, true, true, true, true, true, true, true, false, false, false, false, false] rfl rfl (any_of HT_.out (by kernel_rfl)) (fun _ _ _ h => h) (Or.inl ⟨by rfl, ?_⟩) ?_ ?_
                             rotate_left
                             ·intro w'
                              go_simp
                              with_reducible rfl
                             rotate_left
                             ·simp only [Act.put, List.setIfInBounds_toArray, List.set_cons_zero, List.set_cons_succ, i64_w, i32_w]
                              rfl
                             refine take_ (i := 22) (N := some 89) (v := ?_) (a' := ?_) #[true, true, true, true, true, true, true, true, true, true, true, true, true, true, true, true, true, true, true, true, true, true, true, false, false, false, false] rfl rfl (take_ofW HT_.out HW_.out (by kernel_rfl)) (fun _ _ _ h => h) (Or.inl ⟨by rfl, ?_⟩) hHeld ?_ ?_
                             rotate_left
                             ·rintro w' ⟨s0, s1, s2, s3, s4, s5, s6, s7, s8⟩
                              go_simp
                              with_reducible rfl
                             rotate_left
                             ·simp only [Act.put, List.setIfInBounds_toArray, List.set_cons_zero, List.set_cons_succ, i64_w, i32_w]
                              rfl
                             refine pure_ (i := 23) (N := some 90) (v := ?_) (a' := ?_) #[true, true, true, true, true, true, true, true, true, true, true, true, true, true, true, true, true, true, true, true, true, true, true, true, false, false, false] rfl rfl (any_of HT_.out (by kernel_rfl)) (fun _ _ _ h => h) (Or.inl ⟨by rfl, ?_⟩) ?_ ?_
                             rotate_left
                             ·intro w'
                              go_simp
                              with_reducible rfl
                             rotate_left
                             ·simp only [Act.put, List.setIfInBounds_toArray, List.set_cons_zero, List.set_cons_succ, i64_w, i32_w]
                              rfl
                             refine pure_ (i := 24) (N := some 91) (v := ?_) (a' := ?_) #[true, true, true, true, true, true, true, true, true, true, true, true, true, true, true, true, true, true, true, true, true, true, true, true, true, false, false] rfl rfl (any_of HT_.out (by kernel_rfl)) (fun _ _ _ h => h) (Or.inl ⟨by rfl, ?_⟩) ?_ ?_
                             rotate_left
                             ·intro w'
                              go_simp
                              with_reducible rfl
                             rotate_left
                             ·simp only [Act.put, List.setIfInBounds_toArray, List.set_cons_zero, List.set_cons_succ, i64_w, i32_w]
                              rfl
                             refine pure_ (i := 25) (N := some 92) (v := ?_) (a' := ?_) #[true, true, true, true, true, true, true, true, true, true, true, true, true, true, true, true, true, true, true, true, true, true, true, true, true, true, false] rfl rfl (any_of HT_.out (by kernel_rfl)) (fun _ _ _ h => h) (Or.inl ⟨by rfl, ?_⟩) ?_ ?_
                             rotate_left
                             ·intro w'
                              go_simp
                              with_reducible rfl
                             rotate_left
                             ·simp only [Act.put, List.setIfInBounds_toArray, List.set_cons_zero, List.set_cons_succ, i64_w, i32_w]
                              rfl
                             refine last_ (i := 26) (N := none) #[true, true, true, true, true, true, true, true, true, true, true, true, true, true, true, true, true, true, true, true, true, true, true, true, true, true, true] rfl rfl (one_of HT_.out (by kernel_rfl)) (by decide) (fun K hK => ?_)
                             refine skip_ (w1 := ?_) (by rfl) rfl ?_ ?_
                             rotate_left
                             ·go_simp
                              rfl
                             refine hK.out _ _ ?_
                             clear hK K
                             refine done_ (done_of HT_.out (by kernel_rfl)) ?_
                             try go_wp2_with fail
                             (try simp only [← hl7_3])
                             go_roundg k3
                             case measure => have := HK1.out; have := HK2.out; have := HK3.out; omega
                             case rel => exact ⟨(y250), (wrap64 (x56_3 + 1)), (by first | rfl | (simp; done) | (simp [*]; done)), H', ⟨by have := HK1.out; have := HK2.out; have := HK3.out; omega⟩, ⟨by (try simp only [hl7_2]); (try simp only [hl7_3]); (with_reducible repeat (first | apply Kd.S_alloc | apply Kd.S_drewN | apply Kd.S_drew)); exact HQ60.out⟩, ⟨by (try simp only [hl7_2]); (try simp only [hl7_3]); (with_reducible repeat (first | refine blk_drewN ?_ _ | refine blk_drew ?_ | refine blk_alloc ?_ _)); refine blk_far ?_ (by have h_ := Kd.R_ne HL243_0.out BK227.out (by decide); intro e_; exact h_ (by rw [e_]; rfl)) _; (with_reducible repeat (first | refine blk_drewN ?_ _ | refine blk_drew ?_ | refine blk_alloc ?_ _)); exact BK227.out⟩, ⟨by repeat (first | (with_reducible first | exact HB.out | apply below_alloc | apply pw_below_drewN | apply below_drew1 | refine below_set ?_ GB53.out | refine below_set ?_ GE227.out | refine below_set ?_ GE241.out) | exact HB.out)⟩⟩
                            ·rw [if_neg c51] at H
                             exact absurd H (by simp)
                           ·rw [if_neg c50] at H
                            exact absurd H (by simp)
                          ·rw [if_neg c49] at H
                           exact absurd H (by simp)
                         ·rw [if_neg c48] at H
                          exact absurd H (by simp)
                        ·rw [if_neg c46] at H
                         exact absurd H (by simp)
                       ·rw [if_neg c45] at H
                        exact absurd H (by simp)
                      ·rw [if_neg c44] at H
                       exact absurd H (by simp)
                     ·rw [if_neg c43] at H
                      have c43b0 : (((rd_T77 l0_1 x56_3).f1) == (rd l1 x8_1)) = false := beq_eq_false_iff_ne.mpr c43
                      have c43b1 : (((rd_T77 l0_1 x56_3).f1) != (rd l1 x8_1)) = true := bne_iff_ne.mpr c43
                      have H' := Aside0.mk H
                      clear H
                      have p240 : 0 ≤ (x56_3 : Int) := of_decide_eq_true (by first | (with_reducible assumption) | assumption)
                      have q240 : x56_3 < (l0_1.length : Int) := of_decide_eq_true (by first | (with_reducible assumption) | assumption)
                      obtain ⟨ad240, e240, hx240_0, hx240_1, hx240_2, hx240_3⟩ := at_T77 HR0_1.out x56_3 p240 q240
                      cases e240
                      replace hx240_0 := (HB.out.cell (World.block_lt_of_cell? w _ hx240_0)).trans hx240_0
                      replace hx240_1 := (HB.out.cell (World.block_lt_of_cell? w _ hx240_1)).trans hx240_1
                      replace hx240_2 := (HB.out.cell (World.block_lt_of_cell? w _ hx240_2)).trans hx240_2
                      replace hx240_3 := (HB.out.cell (World.block_lt_of_cell? w _ hx240_3)).trans hx240_3
                      replace p240 := eq_true p240
                      replace q240 := eq_true q240
                      try go_wp2_with (first | ((with_reducible refine gate_dst (N := 11) rfl ?_); refine box_event ?hg (N := 11) ?hd (cs := #[.int .i64 0, .int .i64 0, .int .i64 0, .int .i64 0]) (t := 77) ?hr ?_; (case hd => rfl); (case hg => rfl); (case hr => first | (go_simp; done) | (go_simp; rfl)); intro gb241 hg w62 hbox hb; have n0_ := Aside0.mk (Kd.S_below (by (with_reducible repeat (first | apply Kd.S_alloc | apply Kd.S_drewN | apply Kd.S_drew)); exact HO_7.out) hb); have n1_ := Aside0.mk (blk_below (g := gb227) (o := .cells #[.int .i64 a0_0, .slice (some ad240) l0_1.length c0_1] 30 (0, 0)) (by (with_reducible repeat (first | refine blk_drewN ?_ _ | refine blk_drew ?_ | refine blk_alloc ?_ _)); exact BK227.out) hb); have n2_ := Aside0.mk (below_step (by repeat (first | (with_reducible first | exact HB.out | apply below_alloc | apply pw_below_drewN | apply below_drew1 | refine below_set ?_ GE227.out) | exact HB.out)) hb); have n3_ := Aside0.mk (hbox); have n4_ := Aside0.mk ((by rw [hg]; exact (below_size (by repeat (first | (with_reducible first | exact HB.out | apply below_alloc | apply pw_below_drewN | apply below_drew1 | refine below_set ?_ GE227.out) | exact HB.out))) : w.heap.size ≤ gb241)); have n5_ := Aside0.mk ((by rw [hg]; exact (below_size (by repeat (first | (with_reducible first | exact HB.out | apply below_alloc | apply pw_below_drewN | apply below_drew1 | refine below_set ?_ GE227.out) | exact HB.out))) : w.heap.size ≤ gb241)); have n6_ := Aside0.mk ((by rw [hg]; exact Nat.ne_of_lt (blk_lt (g := gb227) (o := .cells #[.int .i64 a0_0, .slice (some ad240) l0_1.length c0_1] 30 (0, 0)) (by (with_reducible repeat (first | refine blk_drewN ?_ _ | refine blk_drew ?_ | refine blk_alloc ?_ _)); exact BK227.out)) : gb227 ≠ gb241)); have n7_ := Aside0.mk ((by rw [hg]; exact Nat.ne_of_gt (blk_lt (g := gb227) (o := .cells #[.int .i64 a0_0, .slice (some ad240) l0_1.length c0_1] 30 (0, 0)) (by (with_reducible repeat (first | refine blk_drewN ?_ _ | refine blk_drew ?_ | refine blk_alloc ?_ _)); exact BK227.out)) : gb241 ≠ gb227)); clear HO_7; clear BK227; clear HB; have HO_7 := n0_; have BK227 := n1_; have HB := n2_; have BK241 := n3_; have GW241 := n4_; have GE241 := n5_; have NB227_241 := n6_; have NB241_227 := n7_; clear n0_ n1_ n2_ n3_ n4_ n5_ n6_ n7_; clear hb hbox hg; have hnb63 := NB241_227.out; have hnc63 := NB227_241.out; have hcz64_0 : w62.cell? ⟨gb241, 0, none⟩ = some (.int .i64 0) := (blk_cell BK241.out 0).trans rfl; have hcz64_1 : w62.cell? ⟨gb241, 1, none⟩ = some (.int .i64 0) := (blk_cell BK241.out 1).trans rfl; have hcz64_2 : w62.cell? ⟨gb241, 2, none⟩ = some (.int .i64 0) := (blk_cell BK241.out 2).trans rfl; have hcz64_3 : w62.cell? ⟨gb241, 3, none⟩ = some (.int .i64 0) := (blk_cell BK241.out 3).trans rfl; have hfz64_0 := blk_frozen BK241.out 0; have hfz64_1 := blk_frozen BK241.out 1; have hfz64_2 := blk_frozen BK241.out 2; have hfz64_3 := blk_frozen BK241.out 3))
                      have n0_ : Aside0 (Kd.S (Kd.slice 2 (Kd.int .i64)) 34 ((((w62.setCell ⟨gb241, 0, none⟩ (.int .i64 ((rd_T77 l0_1 x56_3).f0))).setCell ⟨gb241, 1, none⟩ (.int .i64 ((rd_T77 l0_1 x56_3).f1))).setCell ⟨gb241, 2, none⟩ (.int .i64 ((rd_T77 l0_1 x56_3).f2))).setCell ⟨gb241, 3, none⟩ (.int .i64 ((rd_T77 l0_1 x56_3).f3))) w.heap.size (fun _ => True) (.slice (some ⟨go15, 0, none⟩) x7_3.length co15) x7_3) := ⟨by (with_reducible repeat (first | apply Kd.S_alloc | apply Kd.S_drewN | apply Kd.S_drew)); exact Kd.S_mono (Kd.S_far (p := ⟨gb241, 3, none⟩) (Kd.S_far (p := ⟨gb241, 2, none⟩) (Kd.S_far (p := ⟨gb241, 1, none⟩) (Kd.S_far (p := ⟨gb241, 0, none⟩) (Kd.S_types HO_7.out BK241.out (by decide)) (fun _ hk => hk.2) (.int .i64 ((rd_T77 l0_1 x56_3).f0))) (fun _ hk => hk.2) (.int .i64 ((rd_T77 l0_1 x56_3).f1))) (fun _ hk => hk.2) (.int .i64 ((rd_T77 l0_1 x56_3).f2))) (fun _ hk => hk.2) (.int .i64 ((rd_T77 l0_1 x56_3).f3))) (fun _ hk => trivial)⟩
                      have n1_ : Aside0 (((((w62.setCell ⟨gb241, 0, none⟩ (.int .i64 ((rd_T77 l0_1 x56_3).f0))).setCell ⟨gb241, 1, none⟩ (.int .i64 ((rd_T77 l0_1 x56_3).f1))).setCell ⟨gb241, 2, none⟩ (.int .i64 ((rd_T77 l0_1 x56_3).f2))).setCell ⟨gb241, 3, none⟩ (.int .i64 ((rd_T77 l0_1 x56_3).f3))).heap[gb227]? = some (.cells #[.int .i64 a0_0, .slice (some ad240) l0_1.length c0_1] 30 (0, 0))) := ⟨by (with_reducible repeat (first | refine blk_drewN ?_ _ | refine blk_drew ?_ | refine blk_alloc ?_ _)); refine blk_far ?_ NB227_241.out _; (with_reducible repeat (first | refine blk_drewN ?_ _ | refine blk_drew ?_ | refine blk_alloc ?_ _)); refine blk_far ?_ NB227_241.out _; (with_reducible repeat (first | refine blk_drewN ?_ _ | refine blk_drew ?_ | refine blk_alloc ?_ _)); refine blk_far ?_ NB227_241.out _; (with_reducible repeat (first | refine blk_drewN ?_ _ | refine blk_drew ?_ | refine blk_alloc ?_ _)); refine blk_far ?_ NB227_241.out _; (with_reducible repeat (first | refine blk_drewN ?_ _ | refine blk_drew ?_ | refine blk_alloc ?_ _)); exact BK227.out⟩
                      have n2_ : Aside0 (((((w62.setCell ⟨gb241, 0, none⟩ (.int .i64 ((rd_T77 l0_1 x56_3).f0))).setCell ⟨gb241, 1, none⟩ (.int .i64 ((rd_T77 l0_1 x56_3).f1))).setCell ⟨gb241, 2, none⟩ (.int .i64 ((rd_T77 l0_1 x56_3).f2))).setCell ⟨gb241, 3, none⟩ (.int .i64 ((rd_T77 l0_1 x56_3).f3))).heap[gb241]? = some (.cells #[.int .i64 ((rd_T77 l0_1 x56_3).f0), .int .i64 ((rd_T77 l0_1 x56_3).f1), .int .i64 ((rd_T77 l0_1 x56_3).f2), .int .i64 ((rd_T77 l0_1 x56_3).f3)] 77 (0, 0))) := ⟨by (with_reducible repeat (first | refine blk_drewN ?_ _ | refine blk_drew ?_ | refine blk_alloc ?_ _)); refine blk_put (cs := #[.int .i64 ((rd_T77 l0_1 x56_3).f0), .int .i64 ((rd_T77 l0_1 x56_3).f1), .int .i64 ((rd_T77 l0_1 x56_3).f2), .int .i64 0]) ?_ 3 _ rfl; (with_reducible repeat (first | refine blk_drewN ?_ _ | refine blk_drew ?_ | refine blk_alloc ?_ _)); refine blk_put (cs := #[.int .i64 ((rd_T77 l0_1 x56_3).f0), .int .i64 ((rd_T77 l0_1 x56_3).f1), .int .i64 0, .int .i64 0]) ?_ 2 _ rfl; (with_reducible repeat (first | refine blk_drewN ?_ _ | refine blk_drew ?_ | refine blk_alloc ?_ _)); refine blk_put (cs := #[.int .i64 ((rd_T77 l0_1 x56_3).f0), .int .i64 0, .int .i64 0, .int .i64 0]) ?_ 1 _ rfl; (with_reducible repeat (first | refine blk_drewN ?_ _ | refine blk_drew ?_ | refine blk_alloc ?_ _)); refine blk_put (cs := #[.int .i64 0, .int .i64 0, .int .i64 0, .int .i64 0]) ?_ 0 _ rfl; (with_reducible repeat (first | refine blk_drewN ?_ _ | refine blk_drew ?_ | refine blk_alloc ?_ _)); exact BK241.out⟩
                      have n3_ : Aside0 (Below w.heap.size w ((((w62.setCell ⟨gb241, 0, none⟩ (.int .i64 ((rd_T77 l0_1 x56_3).f0))).setCell ⟨gb241, 1, none⟩ (.int .i64 ((rd_T77 l0_1 x56_3).f1))).setCell ⟨gb241, 2, none⟩ (.int .i64 ((rd_T77 l0_1 x56_3).f2))).setCell ⟨gb241, 3, none⟩ (.int .i64 ((rd_T77 l0_1 x56_3).f3)))) := ⟨by repeat (first | (with_reducible first | exact HB.out | apply below_alloc | apply pw_below_drewN | apply below_drew1 | refine below_set ?_ GE227.out | refine below_set ?_ GE241.out) | exact HB.out)⟩
                      (try clear HO_7)
                      (try clear BK227)
                      (try clear BK241)
                      (try clear HB)
                      generalize ((((w62.setCell ⟨gb241, 0, none⟩ (.int .i64 ((rd_T77 l0_1 x56_3).f0))).setCell ⟨gb241, 1, none⟩ (.int .i64 ((rd_T77 l0_1 x56_3).f1))).setCell ⟨gb241, 2, none⟩ (.int .i64 ((rd_T77 l0_1 x56_3).f2))).setCell ⟨gb241, 3, none⟩ (.int .i64 ((rd_T77 l0_1 x56_3).f3))) = w65 at n0_ n1_ n2_ n3_ ⊢
                      have HO_7 := n0_
                      have BK227 := n1_
                      have BK241 := n2_
                      have HB := n3_
                      clear n0_ n1_ n2_ n3_
                      have n0_ := Aside0.mk (Kd.S_drew HO_7.out)
                      have n1_ := Aside0.mk (blk_drew BK227.out)
                      have n2_ := Aside0.mk (blk_drew BK241.out)
                      have n3_ := Aside0.mk (below_drew1 HB.out)
                      clear HO_7
                      clear BK227
                      clear BK241
                      clear HB
                      have HO_7 := n0_
                      have BK227 := n1_
                      have BK241 := n2_
                      have HB := n3_
                      clear n0_ n1_ n2_ n3_
                      have p242 : 0 ≤ (x8_1 : Int) := of_decide_eq_true (by first | (with_reducible assumption) | assumption)
                      have q242 : x8_1 < (l1.length : Int) := of_decide_eq_true (by first | (with_reducible assumption) | assumption)
                      obtain ⟨ad242, e242, hx242_0⟩ := Kd.at_int HR1.out x8_1 p242 q242
                      have hw242_0 := hx242_0
                      cases e242
                      replace hx242_0 := (HB.out.cell (World.block_lt_of_cell? w _ hx242_0)).trans hx242_0
                      replace p242 := eq_true p242
                      replace q242 := eq_true q242
                      refine start_ (n := 7) (S := fun w' => w'.cell? ⟨gb241, 0, none⟩ = some (.int .i64 ((rd_T77 l0_1 x56_3).f0)) ∧ w'.cell? ⟨gb241, 1, none⟩ = some (.int .i64 ((rd_T77 l0_1 x56_3).f1)) ∧ w'.cell? ⟨gb241, 2, none⟩ = some (.int .i64 ((rd_T77 l0_1 x56_3).f2)) ∧ w'.cell? ⟨gb241, 3, none⟩ = some (.int .i64 ((rd_T77 l0_1 x56_3).f3)) ∧ w'.cell? (ad242.add (x8_1).toNat) = some (.int .i64 (rd l1 x8_1))) (ds := []) #[false, false, false, false, false, false, false] (by kernel_rfl) rfl rfl ⟨(blk_cell BK241.out 0).trans rfl, (blk_cell BK241.out 1).trans rfl, (blk_cell BK241.out 2).trans rfl, (blk_cell BK241.out 3).trans rfl, ((HB.out.cell (World.block_lt_of_cell? w _ hw242_0)).trans hw242_0)⟩ (fun hHeld => ?_)
                      generalize w65.drew = w66 at HO_7 BK227 BK241 HB hx242_0 hHeld ⊢
                      refine pure_ (i := 0) (N := some 60) (v := ?_) (a' := ?_) #[true, false, false, false, false, false, false] rfl rfl (by kernel_rfl) (fun _ _ _ h => h) (Or.inl ⟨by rfl, ?_⟩) ?_ ?_
                      rotate_left
                      ·intro w'
                       go_simp
                       with_reducible rfl
                      rotate_left
                      ·simp only [Act.put, List.setIfInBounds_toArray, List.set_cons_zero, List.set_cons_succ, i64_w, i32_w]
                       rfl
                      refine pure_ (i := 2) (N := some 62) (v := ?_) (a' := ?_) #[true, false, true, false, false, false, false] rfl rfl (by kernel_rfl) (fun _ _ _ h => h) (Or.inl ⟨by rfl, ?_⟩) ?_ ?_
                      rotate_left
                      ·intro w'
                       go_simp
                       with_reducible rfl
                      rotate_left
                      ·simp only [Act.put, List.setIfInBounds_toArray, List.set_cons_zero, List.set_cons_succ, i64_w, i32_w]
                       rfl
                      refine pure_ (i := 3) (N := some 63) (v := ?_) (a' := ?_) #[true, false, true, true, false, false, false] rfl rfl (by kernel_rfl) (fun _ _ _ h => h) (Or.inl ⟨by rfl, ?_⟩) ?_ ?_
                      rotate_left
                      ·intro w'
                       go_simp
                       with_reducible rfl
                      rotate_left
                      ·simp only [Act.put, List.setIfInBounds_toArray, List.set_cons_zero, List.set_cons_succ, i64_w, i32_w]
                       rfl
                      refine pure_ (i := 4) (N := some 64) (v := ?_) (a' := ?_) #[true, false, true, true, true, false, false] rfl rfl (by kernel_rfl) (fun _ _ _ h => h) (Or.inl ⟨by rfl, ?_⟩) ?_ ?_
                      rotate_left
                      ·intro w'
                       go_simp
                       with_reducible rfl
                      rotate_left
                      ·simp only [Act.put, List.setIfInBounds_toArray, List.set_cons_zero, List.set_cons_succ, i64_w, i32_w]
                       rfl
                      refine take_ (i := 1) (N := some 61) (v := ?_) (a' := ?_) #[true, true, true, true, true, false, false] rfl rfl (by kernel_rfl) (fun _ _ _ h => h) (Or.inl ⟨by rfl, ?_⟩) hHeld ?_ ?_
                      rotate_left
                      ·rintro w' ⟨s0, s1, s2, s3, s4⟩
                       go_simp
                       with_reducible rfl
                      rotate_left
                      ·simp only [Act.put, List.setIfInBounds_toArray, List.set_cons_zero, List.set_cons_succ, i64_w, i32_w]
                       rfl
                      refine take_ (i := 5) (N := some 65) (v := ?_) (a' := ?_) #[true, true, true, true, true, true, false] rfl rfl (by kernel_rfl) (fun _ _ _ h => h) (Or.inl ⟨by rfl, ?_⟩) hHeld ?_ ?_
                      rotate_left
                      ·rintro w' ⟨s0, s1, s2, s3, s4⟩
                       go_simp
                       with_reducible rfl
                      rotate_left
                      ·simp only [Act.put, List.setIfInBounds_toArray, List.set_cons_zero, List.set_cons_succ, i64_w, i32_w]
                       rfl
                      refine pure_ (i := 6) (N := some 66) (v := ?_) (a' := ?_) #[true, true, true, true, true, true, true] rfl rfl (by kernel_rfl) (fun _ _ _ h => h) (Or.inl ⟨by rfl, ?_⟩) ?_ ?_
                      rotate_left
                      ·intro w'
                       go_simp
                       with_reducible rfl
                      rotate_left
                      ·simp only [Act.put, List.setIfInBounds_toArray, List.set_cons_zero, List.set_cons_succ, i64_w, i32_w]
                       rfl
                      refine done_ (by kernel_rfl) ?_
                      try go_wp2_with fail
                      (try simp only [← hl7_3])
                      go_roundg k3
                      case measure => have := HK1.out; have := HK2.out; have := HK3.out; omega
                      case rel => exact ⟨(x7_3), (wrap64 (x56_3 + 1)), (by first | rfl | (simp; done) | (simp [*]; done)), H', ⟨by have := HK1.out; have := HK2.out; have := HK3.out; omega⟩, ⟨by (try simp only [hl7_2]); (try simp only [hl7_3]); (with_reducible repeat (first | apply Kd.S_alloc | apply Kd.S_drewN | apply Kd.S_drew)); exact HO_7.out⟩, ⟨by (try simp only [hl7_2]); (try simp only [hl7_3]); (with_reducible repeat (first | refine blk_drewN ?_ _ | refine blk_drew ?_ | refine blk_alloc ?_ _)); exact BK227.out⟩, ⟨by repeat (first | (with_reducible first | exact HB.out | apply below_alloc | apply pw_below_drewN | apply below_drew1 | refine below_set ?_ GE227.out | refine below_set ?_ GE241.out) | exact HB.out)⟩⟩
                    ·rw [if_neg c42] at H
                     exact absurd H (by simp)
                   ·rw [if_neg c41] at H
                    exact absurd H (by simp)
                  ·rw [if_neg c40] at H
                   exact absurd H (by simp)
                 ·rw [if_neg c39] at H
                  exact absurd H (by simp)
                ·rw [if_neg c38] at H
                 have c38b0 : decide (x56_3 < (l0_1.length : Int)) = false := decide_eq_false c38
                 clear c38
                 have H' := Aside0.mk H
                 clear H
                 go_wp2_with fail
                 (try simp only [← hl7_2, ← hl7_3])
                 go_roundg k3
                 case measure => have := HK1.out; have := HK2.out; have := HK3.out; omega
                 case rel => exact ⟨(x7_3), (wrap64 (x8_1 - 1)), (by first | rfl | (simp; done) | (simp [*]; done)), H', ⟨by have := HK1.out; have := HK2.out; have := HK3.out; omega⟩, ⟨by (try simp only [hl7_2]); (try simp only [hl7_3]); (with_reducible repeat (first | apply Kd.S_alloc | apply Kd.S_drewN | apply Kd.S_drew)); exact HO_7.out⟩, ⟨by (try simp only [hl7_2]); (try simp only [hl7_3]); (with_reducible repeat (first | refine blk_drewN ?_ _ | refine blk_drew ?_ | refine blk_alloc ?_ _)); exact BK227.out⟩, ⟨by repeat (first | (with_reducible first | exact HB.out | apply below_alloc | apply pw_below_drewN | apply below_drew1 | refine below_set ?_ GE227.out) | exact HB.out)⟩⟩
         ·rw [if_neg c14] at H
          exact absurd H (by simp)
        ·rw [if_neg c13] at H
         exact absurd H (by simp)
       ·rw [if_neg c12] at H
        exact absurd H (by simp)
      ·rw [if_neg c11] at H
       exact absurd H (by simp)
     ·rw [if_neg c10] at H
      have c10b0 : decide (0 ≤ x8_1) = false := decide_eq_false c10
      clear c10
      obtain rfl := Option.some.inj H
      go_wp2_with fail
      go_ret
      exact ⟨_, by first | rfl | (simp [errW_none, errW_some] <;> rfl) | (simp only [← hji4]; first | rfl | (simp [errW_none, errW_some] <;> rfl)) | (simp [*, errW_none, errW_some] <;> rfl), by (with_reducible repeat (first | apply Kd.S_alloc | apply Kd.S_drewN | apply Kd.S_drew)); exact HO_7.out, by repeat (first | (with_reducible first | exact HB.out | apply below_alloc | apply pw_below_drewN | apply below_drew1 | refine below_set ?_ GE227.out) | exact HB.out)⟩
  ·rw [if_neg c6] at H
   exact absurd H (by simp)
 ·rw [if_neg c5] at H
  exact absurd H (by simp)
end Go.Proofs.Ytenlcakpcbmmdaa.Q
namespace Go.Proofs.Ytenlcakpcbmmdaa
open Go Go.RowKit Go.Proofs Go.Proofs.YtenlcakpcbmmdaaW.PrintWords Go.Proofs.YtenlcakpcbmmdaaW.PrintMore Go.Proofs.Ytenlcakpcbmmdaa.Q
set_option linter.unusedVariables false
set_option linter.unusedSimpArgs false
theorem succ_wrap (m : Nat) (h : m < 1000000000) : wrap64 ((m : Int) + 1) = ((m + 1 : Nat) : Int) := by unfold wrap64; omega
theorem rdL_nat (x : List (List Int)) (i : Nat) : rd_L5 x (i : Int) = x.getD i [] := by simp [rd_L5]
theorem getD_setL (v : List (List Int)) (e i : Nat) (x : List Int) (h : e < v.length) : (v.set e x).getD i [] = if i = e then x else v.getD i [] := by
  simp only [List.getD_eq_getElem?_getD, List.getElem?_set]
  by_cases hi : e = i
  · subst hi; simp [h]
  · simp [hi, Ne.symm hi]
def capL (next acc : List Int) (t : STile) : List Int := acc.set t.f0.toNat (cap (rd acc t.f0 + rd next t.f2))
theorem capL_len (now acc : List Int) (t : STile) : (capL now acc t).length = acc.length := by simp [capL]
def capRow (c : Nat) (q : Nat → Int) : List Int := (List.range c).map fun a => cap (q a)
theorem capRow_len (c : Nat) (q : Nat → Int) : (capRow c q).length = c := by simp [capRow]
theorem capRow_get {c : Nat} {q : Nat → Int} {a : Nat} (h : a < c) : (capRow c q).getD a 0 = cap (q a) := by
  simp [capRow, List.getD_eq_getElem?_getD, List.getElem?_range h]
theorem capRow_set {c e : Nat} {q : Nat → Int} {y : Int} (he : e < c) : (capRow c q).set e (cap (q e + y)) = capRow c (fun a => q a + if a = e then y else 0) := by
  apply List.ext_getElem
  · simp [capRow]
  · intro i h1 h2
    rw [List.getElem_set]
    simp only [capRow, List.getElem_map, List.getElem_range]
    by_cases hi : e = i
    · subst hi; simp
    · rw [if_neg hi, if_neg (fun h => hi h.symm), Int.add_zero]
theorem capRow_zero (c : Nat) : capRow c (fun _ => 0) = List.replicate c 0 := by
  apply List.ext_getElem
  · simp [capRow]
  · intro i h1 h2; simp [capRow, cap]
theorem fold_capL (c : Nat) (p : Nat → Int) (hp : ∀ a, 0 ≤ p a) (L : List STile) (hL : Fine c L) : ∀ q : Nat → Int, (∀ a, 0 ≤ q a) →
    L.foldl (capL (capRow c p)) (capRow c q) = capRow c (fun a => q a + (L.map fun t => if a = t.f0.toNat then p t.f2.toNat else 0).sum) := by
  induction L with
  | nil => intro q _; simp
  | cons t L ih =>
    intro q hq
    obtain ⟨h0, h1, h2, h3⟩ := hL t (by simp)
    have e : capL (capRow c p) (capRow c q) t = capRow c (fun a => q a + if a = t.f0.toNat then p t.f2.toNat else 0) := by
      rw [capL, rd_at h0, rd_at h2, capRow_get (by omega), capRow_get (by omega), cap_add (hq _) (hp _), capRow_set (by omega)]
    rw [List.foldl_cons, e, ih (fun s hs => hL s (List.mem_cons_of_mem _ hs)) _ (fun a => by have := hq a; have := hp t.f2.toNat; split <;> omega)]
    congr 1
    funext a
    rw [List.map_cons, List.sum_cons, Int.add_assoc]
def onward (l : List STile) (word : List Int) (i : Nat) : Nat → Int := paths (layers l word i (word.length - i))
theorem onward_nn (l : List STile) (word : List Int) (i a : Nat) : 0 ≤ onward l word i a := paths_nn _ _
theorem onward_step (l : List STile) (word : List Int) (i : Nat) (h : i < word.length) (a : Nat) : onward l word i a = ((layer l word i).map fun t => if a = t.f0.toNat then onward l word (i + 1) t.f2.toNat else 0).sum := by
  rw [onward, show word.length - i = (word.length - (i + 1)) + 1 by omega, layers_succ, paths]
  rfl
def LeftOk (c : Nat) (l : List STile) (word : List Int) (i : Nat) (x : List (List Int)) : Prop := x.length = word.length + 1 ∧ ∀ j, i ≤ j → j ≤ word.length → x.getD j [] = capRow c (onward l word j)
theorem left_l2 (C : Int) (l : List STile) (word : List Int) (r : List (List Int)) (c i : Nat) (hC : C = (c : Int)) (hf : Fine c l) (hl : l.length ≤ 1000) (hwl : word.length ≤ 1000) (hi : i < word.length)
    (d : Nat) : ∀ (m : Nat) (x : List (List Int)) (acc : List Int), m + d = l.length → LeftOk c l word (i + 1) x → acc.length = c → Bd acc → x.getD i [] = acc →
    (∀ x', LeftOk c l word (i + 1) x' → x'.getD i [] = ((l.drop m).filter (pass word i)).foldl (capL (capRow c (onward l word (i + 1)))) acc → Ev (fun k => impl_Set_left_at_impl_anyColour.l0 k word x' (wrap64 ((i : Int) - 1)) C l) r) →
    Ev (fun k => impl_Set_left_at_impl_anyColour.l2 k word x (i : Int) l (l.length : Int) (m : Int) C l) r := by
  induction d with
  | zero =>
    intro m x acc hm hx ha hb hg h
    have b1 : ¬ (m : Int) < (l.length : Int) := by omega
    refine Ev.step (fun k => ?_) (h x hx (by rw [hg, List.drop_of_length_le (by omega)]; rfl))
    rw [impl_Set_left_at_impl_anyColour.l2, if_neg b1]
  | succ d ih =>
    intro m x acc hm hx ha hb hg h
    have hlt : m < l.length := by omega
    have ht := hf l[m] (List.getElem_mem hlt)
    have hd : l.drop m = l[m] :: l.drop (m + 1) := List.drop_eq_getElem_cons hlt
    have hm9 : m < 1000000000 := by omega
    have hi9 : i < 1000000000 := by omega
    have a1 : (m : Int) < (l.length : Int) := by omega
    have a2 : (0 : Int) ≤ (m : Int) := Int.natCast_nonneg m
    have a3 : (0 : Int) ≤ (i : Int) := Int.natCast_nonneg i
    have a4 : (i : Int) < (word.length : Int) := by omega
    have a5 : (i : Int) < (x.length : Int) := by have := hx.1; omega
    have a6 := ht.1
    have hxi : rd_L5 x (i : Int) = acc := by rw [rdL_nat, hg]
    have a7 : l[m].f0 < ((rd_L5 x (i : Int)).length : Int) := by rw [hxi, ha]; exact ht.2.1
    have a8 : (0 : Int) ≤ ((i + 1 : Nat) : Int) := Int.natCast_nonneg _
    have a9 : ((i + 1 : Nat) : Int) < (x.length : Int) := by have := hx.1; omega
    have hxn : rd_L5 x ((i + 1 : Nat) : Int) = capRow c (onward l word (i + 1)) := by rw [rdL_nat]; exact hx.2 (i + 1) (Nat.le_refl _) (by omega)
    have a10 := ht.2.2.1
    have a11 : l[m].f2 < ((rd_L5 x ((i + 1 : Nat) : Int)).length : Int) := by rw [hxn, capRow_len]; exact ht.2.2.2
    have hq1 : pass word i l[m] = decide (l[m].f1 = rd word (i : Int)) := by
      have h0 : ¬ word.length = 0 := by omega
      rw [pass, decide_eq_false h0, Bool.false_or]
      exact decide_eq_decide.2 ⟨Eq.symm, Eq.symm⟩
    by_cases hq : l[m].f1 = rd word (i : Int)
    · have hbn : ∀ e, 0 ≤ (capRow c (onward l word (i + 1))).getD e 0 ∧ (capRow c (onward l word (i + 1))).getD e 0 ≤ 1000000000000001 := by
        intro e
        by_cases he : e < c
        · rw [capRow_get he]; exact ⟨cap_nn (onward_nn _ _ _ _), cap_le _⟩
        · simp [List.getD_eq_getElem?_getD, List.getElem?_eq_none (show (capRow c (onward l word (i + 1))).length ≤ e by rw [capRow_len]; omega)]
      have e : acc.set l[m].f0.toNat (mn 1000000000000001 (wrap64 (rd acc l[m].f0 + rd (capRow c (onward l word (i + 1))) l[m].f2))) = capL (capRow c (onward l word (i + 1))) acc l[m] := by
        rw [capL, mn_cap', wrap_id]
        · rw [rd_at ht.1, rd_at ht.2.2.1]; have := hb l[m].f0.toNat; have := hbn l[m].f2.toNat; omega
        · rw [rd_at ht.1, rd_at ht.2.2.1]; have := hb l[m].f0.toNat; have := hbn l[m].f2.toNat; omega
      have hb' : Bd (capL (capRow c (onward l word (i + 1))) acc l[m]) := by
        intro j
        rw [capL, getD_set _ _ _ _ (by omega)]
        split
        · rw [rd_at ht.1, rd_at ht.2.2.1]; have := hb l[m].f0.toNat; have := hbn l[m].f2.toNat
          exact ⟨cap_nn (by omega), cap_le _⟩
        · exact hb j
      have hx' : LeftOk c l word (i + 1) (x.set i (capL (capRow c (onward l word (i + 1))) acc l[m])) :=
        ⟨by rw [List.length_set]; exact hx.1, fun j h1 h2 => by rw [getD_setL _ _ _ _ (by omega), if_neg (by omega)]; exact hx.2 j h1 h2⟩
      refine Ev.step (fun k => ?_) (ih (m + 1) (x.set i (capL (capRow c (onward l word (i + 1))) acc l[m])) (capL (capRow c (onward l word (i + 1))) acc l[m]) (by omega) hx' (by rw [capL_len, ha]) hb' (by rw [getD_setL _ _ _ _ (by omega), if_pos rfl]) (fun x' h1 h2 => h x' h1 (by rw [h2, hd, List.filter_cons, if_pos (by rw [hq1]; simpa using hq), List.foldl_cons])))
      rw [impl_Set_left_at_impl_anyColour.l2, if_pos a1, if_pos a2, if_pos a1, if_pos a3, if_pos a4, rdT_nat l m hlt, if_pos hq, if_pos a5, if_pos a6, if_pos a7, succ_wrap i hi9, if_pos a8, if_pos a9, if_pos a10, if_pos a11, succ_wrap m hm9, hxi, hxn, e]
      rfl
    · refine Ev.step (fun k => ?_) (ih (m + 1) x acc (by omega) hx ha hb hg (fun x' h1 h2 => h x' h1 (by rw [h2, hd, List.filter_cons, if_neg (by rw [hq1]; simpa using hq)])))
      rw [impl_Set_left_at_impl_anyColour.l2, if_pos a1, if_pos a2, if_pos a1, if_pos a3, if_pos a4, rdT_nat l m hlt, if_neg hq, succ_wrap m hm9]
def leftTab (c : Nat) (l : List STile) (word : List Int) : List (List Int) := (List.range (word.length + 1)).map fun j => capRow c (onward l word j)
theorem leftOk_tab {c : Nat} {l : List STile} {word : List Int} {x : List (List Int)} (h : LeftOk c l word 0 x) : x = leftTab c l word := by
  apply List.ext_getElem
  · rw [h.1]; simp [leftTab]
  · intro j h1 h2
    have hj : j ≤ word.length := by have := h.1; omega
    have := h.2 j (by omega) hj
    rw [List.getD_eq_getElem?_getD, List.getElem?_eq_getElem h1] at this
    simp only [Option.getD_some] at this
    rw [this]; simp [leftTab]
theorem onward_end (l : List STile) (word : List Int) (c : Nat) : capRow c (onward l word word.length) = List.replicate c 1 := by
  apply List.ext_getElem
  · simp [capRow]
  · intro i h1 h2
    simp [capRow, onward, layers, paths, cap]
theorem left_l1_end (C : Int) (l : List STile) (word : List Int) (r : List (List Int)) (c : Nat) (hC : C = (c : Int)) (hc : c ≤ 1000) (hwl : word.length ≤ 1000)
    (h : ∀ x', LeftOk c l word word.length x' → Ev (fun k => impl_Set_left_at_impl_anyColour.l0 k word x' (wrap64 ((word.length : Int) - 1)) C l) r)
    (d : Nat) : ∀ (j : Nat) (x : List (List Int)), j + d = c → x.length = word.length + 1 → x.getD word.length [] = List.replicate j 1 ++ List.replicate d 0 →
    Ev (fun k => impl_Set_left_at_impl_anyColour.l1 k word x (word.length : Int) C (j : Int) C l) r := by
  induction d with
  | zero =>
    intro j x hj hx hg
    have b1 : ¬ (j : Int) < C := by omega
    refine Ev.step (fun k => ?_) (h x ⟨hx, fun q h1 h2 => ?_⟩)
    · rw [impl_Set_left_at_impl_anyColour.l1, if_neg b1, if_pos rfl]
    · have : q = word.length := by omega
      subst this
      rw [onward_end, hg]
      have : j = c := by omega
      subst this; simp
  | succ d ih =>
    intro j x hj hx hg
    have b1 : (j : Int) < C := by omega
    have b2 : (0 : Int) ≤ (word.length : Int) := Int.natCast_nonneg _
    have b3 : (word.length : Int) < (x.length : Int) := by omega
    have b4 : (0 : Int) ≤ (j : Int) := Int.natCast_nonneg _
    have hxi : rd_L5 x (word.length : Int) = List.replicate j 1 ++ List.replicate (d + 1) 0 := by rw [rdL_nat, hg]
    have b5 : (j : Int) < ((rd_L5 x (word.length : Int)).length : Int) := by rw [hxi]; simp; omega
    have hj9 : j < 1000000000 := by omega
    have hset : (List.replicate j (1 : Int) ++ List.replicate (d + 1) 0).set j 1 = List.replicate (j + 1) 1 ++ List.replicate d 0 := by
      rw [List.set_append_right _ _ (by simp)]
      rw [List.length_replicate, Nat.sub_self, List.replicate_succ (n := d), List.set_cons_zero, List.replicate_succ' (n := j), List.append_assoc]
      rfl
    refine Ev.step (fun k => ?_) (ih (j + 1) (x.set word.length (List.replicate (j + 1) 1 ++ List.replicate d 0)) (by omega) (by simpa using hx) (by rw [getD_setL _ _ _ _ (by omega), if_pos rfl]))
    rw [impl_Set_left_at_impl_anyColour.l1, if_pos b1, if_pos rfl, impl_anyColour.f]
    simp only [Option.bind_some, if_true]
    rw [if_pos b2, if_pos b3, if_pos b4, if_pos b5, hxi, succ_wrap j hj9, Int.toNat_natCast, Int.toNat_natCast, hset]
theorem left_l1_mid (C : Int) (l : List STile) (word : List Int) (r : List (List Int)) (c i : Nat) (hC : C = (c : Int)) (hc : c ≤ 1000) (hi : i < word.length) (x : List (List Int))
    (h : Ev (fun k => impl_Set_left_at_impl_anyColour.l2 k word x (i : Int) l (l.length : Int) 0 C l) r)
    (d : Nat) : ∀ (j : Nat), j + d = c → Ev (fun k => impl_Set_left_at_impl_anyColour.l1 k word x (i : Int) C (j : Int) C l) r := by
  have b0 : ¬ (i : Int) = (word.length : Int) := by omega
  induction d with
  | zero =>
    intro j hj
    have b1 : ¬ (j : Int) < C := by omega
    refine Ev.step (fun k => ?_) h
    rw [impl_Set_left_at_impl_anyColour.l1, if_neg b1, if_neg b0]
  | succ d ih =>
    intro j hj
    have b1 : (j : Int) < C := by omega
    have hj9 : j < 1000000000 := by omega
    refine Ev.step (fun k => ?_) (ih (j + 1) (by omega))
    rw [impl_Set_left_at_impl_anyColour.l1, if_pos b1, if_neg b0, succ_wrap j hj9]
theorem pred_wrap (m : Nat) (h : m < 1000000000) : wrap64 ((m : Int) - 1) = (m : Int) - 1 := by unfold wrap64; omega
theorem left_l0 (C : Int) (l : List STile) (word : List Int) (c : Nat) (hC : C = (c : Int)) (hc : c ≤ 1000) (hf : Fine c l) (hl : l.length ≤ 1000) (hwl : word.length ≤ 1000) : ∀ (n : Nat), n ≤ word.length + 1 → ∀ (x : List (List Int)), LeftOk c l word n x →
    Ev (fun k => impl_Set_left_at_impl_anyColour.l0 k word x ((n : Int) - 1) C l) (leftTab c l word) := by
  intro n
  induction n with
  | zero =>
    intro _ x hx
    have b1 : ¬ ((0 : Nat) : Int) - 1 ≥ 0 := by omega
    refine Ev.step (fun k => ?_) (Ev.now _)
    rw [impl_Set_left_at_impl_anyColour.l0, if_neg b1, leftOk_tab hx]
  | succ n ih =>
    intro hn x hx
    have e : ((n + 1 : Nat) : Int) - 1 = (n : Int) := by omega
    rw [e]
    have b1 : (n : Int) ≥ 0 := by omega
    have b2 : (0 : Int) ≤ C := by omega
    have b3 : C.toNat ≤ 35184372088832 := by omega
    have b4 : (0 : Int) ≤ (n : Int) := by omega
    have b5 : (n : Int) < (x.length : Int) := by have h9 : x.length = word.length + 1 := hx.1; omega
    have hn9 : n < 1000000000 := by omega
    have ec : C.toNat = c := by omega
    have hlen : n < x.length := by have h9 : x.length = word.length + 1 := hx.1; omega
    have hxl : x.length = word.length + 1 := hx.1
    have hcore : Ev (fun k => impl_Set_left_at_impl_anyColour.l1 k word (x.set n (List.replicate c 0)) (n : Int) C 0 C l) (leftTab c l word) := by
      by_cases hnw : n = word.length
      · subst hnw
        refine left_l1_end C l word _ c hC hc hwl (fun x' hx' => ?_) c 0 _ (by omega) (by simpa using hxl) (by rw [getD_setL _ _ _ _ (by omega), if_pos rfl]; simp)
        rw [pred_wrap _ hn9]
        exact ih (by omega) x' hx'
      · have hnw' : n < word.length := by omega
        have hx1 : LeftOk c l word (n + 1) (x.set n (List.replicate c 0)) := ⟨by rw [List.length_set]; exact hxl, fun j h1 h2 => by rw [getD_setL _ _ _ _ hlen, if_neg (by omega)]; exact hx.2 j h1 h2⟩
        refine left_l1_mid C l word _ c n hC hc hnw' _ ?_ c 0 (by omega)
        refine left_l2 C l word _ c n hC hf hl hwl hnw' l.length 0 _ (List.replicate c 0) (by omega) hx1 (by simp) (bd_zero c) (by rw [getD_setL _ _ _ _ hlen, if_pos rfl]) (fun x' h1 h2 => ?_)
        rw [pred_wrap _ hn9]
        refine ih (by omega) x' ⟨h1.1, fun j h3 h4 => ?_⟩
        by_cases hj : j = n
        · subst hj
          rw [h2, List.drop_zero, ← capRow_zero, fold_capL c _ (fun a => onward_nn _ _ _ _) _ (fine_filter hf _) _ (fun _ => by omega)]
          congr 1
          funext a
          rw [onward_step l word j hnw' a, Int.zero_add]
          rfl
        · exact h1.2 j (by omega) h4
    refine Ev.step (fun k => ?_) hcore
    rw [impl_Set_left_at_impl_anyColour.l0, if_pos b1, if_pos b2, if_pos b3, if_pos b4, if_pos b5, ec]
    rfl
theorem left_ev (C : Int) (l : List STile) (word : List Int) (c : Nat) (hC : C = (c : Int)) (hc : c ≤ 1000) (hf : Fine c l) (hl : l.length ≤ 1000) (hwl : word.length ≤ 1000) :
    Ev (fun k => impl_Set_left_at_impl_anyColour.f k C l word) (leftTab c l word) := by
  have h := left_l0 C l word c hC hc hf hl hwl (word.length + 1) (Nat.le_refl _) (List.replicate (word.length + 1) []) ⟨by simp, fun j h1 h2 => by omega⟩
  have h9 : word.length < 1000000000 := by omega
  have b1 : (0 : Int) ≤ ((word.length + 1 : Nat) : Int) := Int.natCast_nonneg _
  have b2 : ((word.length + 1 : Nat) : Int).toNat ≤ 11728124029610 := by omega
  have e : ((word.length + 1 : Nat) : Int) - 1 = (word.length : Int) := by omega
  rw [e] at h
  refine Ev.congr (fun k => ?_) h
  rw [impl_Set_left_at_impl_anyColour.f, succ_wrap _ h9, if_pos b1, if_pos b2, Int.toNat_natCast]
end Go.Proofs.Ytenlcakpcbmmdaa
namespace Go.Proofs.Ytenlcakpcbmmdaa.Q
open Go.RowKit Go.Proofs.YtenlcakpcbmmdaaW.PrintWords Go.Proofs.YtenlcakpcbmmdaaW.PrintLast Go.Proofs.YtenlcakpcbmmdaaW.PrintMore
attribute [local go_sem] max2_int min2_int max_two min_two max_three min_three max_four min_four
set_option linter.unusedVariables false
set_option linter.unusedSimpArgs false
def impl_within.f (a0 : Int) (a1 : Int) (a2 : Int) : Option (Bool) := if a0 ≥ a1 then (some (decide (a0 ≤ a2))) else (some false)
set_option maxHeartbeats 8000000 in
set_option maxRecDepth 100000 in
theorem impl_within.calls (a0 : Int) (a1 : Int) (a2 : Int) (r : Bool) (w : World) (h : impl_within.f a0 a1 a2 = some r) :
  Calls Try.prog 56 #[.int .i64 a0, .int .i64 a1, .int .i64 a2] w fun e w' => e = .returned (.bool r) ∧ Drawn0 w w' := by
 have H : (if a0 ≥ a1 then (some (decide (a0 ≤ a2))) else (some false)) = some r := h
 clear h
 by_cases c4 : a0 ≥ a1
 ·rw [if_pos c4] at H
  have c4b0 : decide (a1 ≤ a0) = true := decide_eq_true c4
  clear c4
  obtain rfl := Option.some.inj H
  go_enter Try.func56, Try.ntmps56
  go_wp2
  go_ret
  exact ⟨by first | rfl | (simp; done) | (simp [*]; done), by repeat (first | exact Drawn0.refl _ | apply Drawn0.step)⟩
 ·rw [if_neg c4] at H
  have c4b0 : decide (a1 ≤ a0) = false := decide_eq_false c4
  clear c4
  obtain rfl := Option.some.inj H
  go_enter Try.func56, Try.ntmps56
  go_wp2
  go_ret
  exact ⟨by first | rfl | (simp; done) | (simp [*]; done), by repeat (first | exact Drawn0.refl _ | apply Drawn0.step)⟩
end Go.Proofs.Ytenlcakpcbmmdaa.Q
namespace Go.Proofs.Ytenlcakpcbmmdaa.Q
open Go.RowKit Go.Proofs.YtenlcakpcbmmdaaW.PrintWords Go.Proofs.YtenlcakpcbmmdaaW.PrintLast Go.Proofs.YtenlcakpcbmmdaaW.PrintMore
attribute [local go_sem] max2_int min2_int max_two min_two max_three min_three max_four min_four
set_option linter.unusedVariables false
set_option linter.unusedSimpArgs false
def impl_Set_isWord_1.f (a0 : Int) (a1_0 : Int) (l1_1 : List (S77)) : Option (Bool) := (impl_within.f a0 0 (wrap64 (a1_0 - 1))).bind fun t227 => (some (!t227))
set_option maxHeartbeats 8000000 in
set_option maxRecDepth 100000 in
theorem impl_Set_isWord_1.calls (a0 : Int) (g1_ : Nat) (a1_0 : Int) (A1_1 : Option Addr) (c1_1 : Nat) (l1_1 : List (S77)) (r : Bool) (w : World) (hr1_1 : Kd.C k77 w A1_1 l1_1.length l1_1) (hc1_1 : l1_1.length ≤ c1_1) (hb1_ : w.heap[g1_]? = some (.cells #[.int .i64 a1_0, .slice A1_1 l1_1.length c1_1] 30 (0, 0))) (h : impl_Set_isWord_1.f a0 a1_0 l1_1 = some r) :
  Calls Try.prog 96 #[.int .i64 a0, .pointer (some ⟨g1_, 0, none⟩)] w fun e w' => e = .returned (.bool r) ∧ Drawn0 w w' := by
 have HR1_1 := Aside0.mk hr1_1
 have HC1_1 := Aside0.mk hc1_1
 clear hr1_1 hc1_1
 have BK1 := Aside0.mk hb1_
 clear hb1_
 have H : ((impl_within.f a0 0 (wrap64 (a1_0 - 1))).bind fun t227 => (some (!t227))) = some r := h
 clear h
 replace H := Option.bind_eq_some_iff.mp H
 obtain ⟨t227, A30, H⟩ := H
 replace H : (some (!t227)) = some r := H
 have A3 := Aside0.mk A30
 clear A30
 obtain rfl := Option.some.inj H
 have hcz4_0 : w.cell? ⟨g1_, 0, none⟩ = some (.int .i64 a1_0) := (blk_cell BK1.out 0).trans rfl
 have hcz4_1 : w.cell? ⟨g1_, 1, none⟩ = some (.slice A1_1 l1_1.length c1_1) := (blk_cell BK1.out 1).trans rfl
 have hfz4_0 := blk_frozen BK1.out 0
 have hfz4_1 := blk_frozen BK1.out 1
 go_enter Try.func96, Try.ntmps96
 go_wp2_with (first | ((with_reducible refine gate_callee (f := 56) rfl ?_); refine goesL_ (some 8) rfl rfl Try.func56 (by kernel_rfl) rfl #[.int .i64 a0, .int .i64 0, .int .i64 (wrap64 (a1_0 - 1))] rfl (by (try simp only [List.map_toArray, List.map_cons, List.map_nil]); first | done | rfl | (simp only [List.length_drop, List.length_take]; rfl)) ?_; (with_reducible refine (impl_within.calls a0 0 (wrap64 (a1_0 - 1)) t227 _ A3.out).mono ?_); rintro e w' ⟨rfl, ⟨nd, rfl⟩⟩; refine ⟨_, rfl, ?_⟩))
 go_ret
 exact ⟨by first | rfl | (simp; done) | (simp [*]; done), by repeat (first | exact Drawn0.refl _ | apply Drawn0.step)⟩
end Go.Proofs.Ytenlcakpcbmmdaa.Q
namespace Go.Proofs.Ytenlcakpcbmmdaa.Q
open Go.RowKit Go.Proofs.YtenlcakpcbmmdaaW.PrintWords Go.Proofs.YtenlcakpcbmmdaaW.PrintLast Go.Proofs.YtenlcakpcbmmdaaW.PrintMore
attribute [local go_sem] max2_int min2_int max_two min_two max_three min_three max_four min_four
set_option linter.unusedVariables false
set_option linter.unusedSimpArgs false
def slices_IndexFunc_int64_int64_at_impl_Set_isWord_1.l0 : Nat → List Int → Int → Int → Int → List (S77) → Option (Int)
 | 0, _, _, _, _, _ => none
 | k + 1, x0, x7, x8, x90021000, x90021001 => if x8 < x7 then (if 0 ≤ x8 then (if x8 < (x0.length : Int) then ((impl_Set_isWord_1.f (rd x0 x8) x90021000 x90021001).bind fun t229 => (if t229 = true then (some x8) else (slices_IndexFunc_int64_int64_at_impl_Set_isWord_1.l0 k x0 x7 (wrap64 (x8 + 1)) x90021000 x90021001))) else (none)) else (none)) else (some (-1))
def slices_IndexFunc_int64_int64_at_impl_Set_isWord_1.f (k : Nat) (l0 : List Int) (a1_0_0 : Int) (l1_0_1 : List (S77)) : Option (Int) := slices_IndexFunc_int64_int64_at_impl_Set_isWord_1.l0 k l0 (l0.length : Int) 0 a1_0_0 l1_0_1
theorem slices_IndexFunc_int64_int64_at_impl_Set_isWord_1.mono_l : ∀ k, (∀ y0 y1 y2 y3 y4, LeO (slices_IndexFunc_int64_int64_at_impl_Set_isWord_1.l0 k y0 y1 y2 y3 y4) (slices_IndexFunc_int64_int64_at_impl_Set_isWord_1.l0 (k + 1) y0 y1 y2 y3 y4))
 | 0 => fun _ _ _ _ _ r h => by simp [slices_IndexFunc_int64_int64_at_impl_Set_isWord_1.l0] at h
 | k + 1 => by
  have ih0 := slices_IndexFunc_int64_int64_at_impl_Set_isWord_1.mono_l k
  ·intro y0 y1 y2 y3 y4
   unfold slices_IndexFunc_int64_int64_at_impl_Set_isWord_1.l0
   repeat' first
   | (with_reducible exact ih0 _ _ _ _ _)
   | (with_reducible exact LeO.refl _)
   | (with_reducible exact LeO.none _)
   | (with_reducible refine LeO.ite ?_ ?_)
   | (with_reducible refine LeO.bind ?_ (fun _ => ?_))
   | exact ih0 _ _ _ _ _
   | exact LeO.none _
   | refine LeO.ite ?_ ?_
   | refine LeO.bind ?_ (fun _ => ?_)
theorem slices_IndexFunc_int64_int64_at_impl_Set_isWord_1.mono : ∀ a0 a1 a2 k, LeO (slices_IndexFunc_int64_int64_at_impl_Set_isWord_1.f k a0 a1 a2) (slices_IndexFunc_int64_int64_at_impl_Set_isWord_1.f (k + 1) a0 a1 a2) := by
 intro a0 a1 a2 k
 have ih0 := slices_IndexFunc_int64_int64_at_impl_Set_isWord_1.mono_l k
 unfold slices_IndexFunc_int64_int64_at_impl_Set_isWord_1.f
 repeat' first
   | (with_reducible exact ih0 _ _ _ _ _)
   | (with_reducible exact LeO.refl _)
   | (with_reducible exact LeO.none _)
   | (with_reducible refine LeO.ite ?_ ?_)
   | (with_reducible refine LeO.bind ?_ (fun _ => ?_))
   | exact ih0 _ _ _ _ _
   | exact LeO.none _
   | refine LeO.ite ?_ ?_
   | refine LeO.bind ?_ (fun _ => ?_)
set_option maxHeartbeats 8000000 in
set_option maxRecDepth 100000 in
theorem slices_IndexFunc_int64_int64_at_impl_Set_isWord_1.calls (k : Nat) (A0 : Option Addr) (c0 : Nat) (l0 : List Int) (g1_0_ : Nat) (a1_0_0 : Int) (A1_0_1 : Option Addr) (c1_0_1 : Nat) (l1_0_1 : List (S77)) (r : Int) (w : World) (hr0 : Kd.C (Kd.int .i64) w A0 l0.length l0) (hc0 : l0.length ≤ c0) (hr1_0_1 : Kd.C k77 w A1_0_1 l1_0_1.length l1_0_1) (hc1_0_1 : l1_0_1.length ≤ c1_0_1) (hb1_0_ : w.heap[g1_0_]? = some (.cells #[.int .i64 a1_0_0, .slice A1_0_1 l1_0_1.length c1_0_1] 30 (0, 0))) (h : slices_IndexFunc_int64_int64_at_impl_Set_isWord_1.f k l0 a1_0_0 l1_0_1 = some r) :
  Calls Try.prog 113 #[.slice A0 l0.length c0, .func (.func 96) #[] #[.pointer (some ⟨g1_0_, 0, none⟩)]] w fun e w' => e = .returned (.int .i64 r) ∧ Drawn0 w w' := by
 have HR0 := Aside0.mk hr0
 have HC0 := Aside0.mk hc0
 clear hr0 hc0
 have HR1_0_1 := Aside0.mk hr1_0_1
 have HC1_0_1 := Aside0.mk hc1_0_1
 clear hr1_0_1 hc1_0_1
 have BK90020 := Aside0.mk hb1_0_
 clear hb1_0_
 have H : (slices_IndexFunc_int64_int64_at_impl_Set_isWord_1.l0 k l0 (l0.length : Int) 0 a1_0_0 l1_0_1) = some r := h
 clear h
 have H' := Aside0.mk H
 clear H
 go_enter Try.func113, Try.ntmps113
 go_wp2
 go_loopg [8] k (fun kq v8 w' => ∃ (x8_1 : Int), v8 = .int .i64 x8_1 ∧ Aside0 (slices_IndexFunc_int64_int64_at_impl_Set_isWord_1.l0 kq l0 (l0.length : Int) x8_1 a1_0_0 l1_0_1 = some r) ∧ Aside0 (kq ≤ k) ∧ Aside0 (w'.heap[g1_0_]? = some (.cells #[.int .i64 a1_0_0, (.slice A1_0_1 l1_0_1.length c1_0_1)] 30 (0, 0))) ∧ Drawn0 w w')
 case atStart => exact ⟨(0), (by first | rfl | (simp; done) | (simp [*]; done)), H', ⟨Nat.le_refl _⟩, ⟨by (with_reducible repeat (first | refine blk_drewN ?_ _ | refine blk_drew ?_ | refine blk_alloc ?_ _)); exact BK90020.out⟩, by repeat (first | exact Drawn0.refl _ | apply Drawn0.step)⟩
 case round =>
  clear H'
  try clear c1
  try clear p2
  obtain ⟨x8_1, rfl, HA, HK1, BK90020, ⟨m1, rfl⟩⟩ := hrel
  cases gk with
  | zero => exact absurd HA.out (by simp [slices_IndexFunc_int64_int64_at_impl_Set_isWord_1.l0])
  | succ k1 =>
   have H := HA.out
   clear HA
   simp only [slices_IndexFunc_int64_int64_at_impl_Set_isWord_1.l0] at H
   by_cases c3 : x8_1 < (l0.length : Int)
   ·rw [if_pos c3] at H
    have c3b0 : decide (x8_1 < (l0.length : Int)) = true := decide_eq_true c3
    clear c3
    by_cases c4 : 0 ≤ x8_1
    ·rw [if_pos c4] at H
     have c4b0 : decide (0 ≤ x8_1) = true := decide_eq_true c4
     clear c4
     by_cases c5 : x8_1 < (l0.length : Int)
     ·rw [if_pos c5] at H
      have c5b0 : decide (x8_1 < (l0.length : Int)) = true := decide_eq_true c5
      clear c5
      replace H := Option.bind_eq_some_iff.mp H
      obtain ⟨t229, A60, H⟩ := H
      replace H : (if t229 = true then (some x8_1) else (slices_IndexFunc_int64_int64_at_impl_Set_isWord_1.l0 k1 l0 (l0.length : Int) (wrap64 (x8_1 + 1)) a1_0_0 l1_0_1)) = some r := H
      have A6 := Aside0.mk A60
      clear A60
      by_cases c7 : t229 = true
      ·subst c7
       have H1 : (some x8_1) = some r := by rw [if_pos rfl] at H; exact H
       clear H
       have H := H1
       clear H1
       obtain rfl := Option.some.inj H
       have p228 : 0 ≤ (x8_1 : Int) := of_decide_eq_true (by first | (with_reducible assumption) | assumption)
       have q228 : x8_1 < (l0.length : Int) := of_decide_eq_true (by first | (with_reducible assumption) | assumption)
       obtain ⟨ad228, e228, hx228_0⟩ := Kd.at_int HR0.out x8_1 p228 q228
       cases e228
       replace p228 := eq_true p228
       replace q228 := eq_true q228
       go_wp2_with fail
       (with_reducible refine (impl_Set_isWord_1.calls (rd l0 x8_1) g1_0_ a1_0_0 A1_0_1 c1_0_1 l1_0_1 true _ ?side1_q8 ?side2_q8 ?side3_q8 A6.out).mono ?_); (case side1_q8 => repeat (first | exact HR1_0_1.out | (with_reducible refine Kd.C_alloc ?_ _) | (with_reducible refine Kd.C_drewN ?_ _) | (with_reducible refine Kd.C_drew ?_))); (case side2_q8 => exact HC1_0_1.out); (case side3_q8 => exact (by (with_reducible repeat (first | refine blk_drewN ?_ _ | refine blk_drew ?_ | refine blk_alloc ?_ _)); exact BK90020.out))
       rintro e w' ⟨rfl, ⟨nd, rfl⟩⟩
       go_wp2_with fail
       go_ret
       exact ⟨by first | rfl | (simp; done) | (simp [*]; done), by repeat (first | exact Drawn0.refl _ | apply Drawn0.step)⟩
      ·replace c7 := Bool.eq_false_iff.mpr c7
       subst c7
       have H1 : (slices_IndexFunc_int64_int64_at_impl_Set_isWord_1.l0 k1 l0 (l0.length : Int) (wrap64 (x8_1 + 1)) a1_0_0 l1_0_1) = some r := by rw [if_neg (show ¬ (false = true) by decide)] at H; exact H
       clear H
       have H := H1
       clear H1
       have H' := Aside0.mk H
       clear H
       have p228 : 0 ≤ (x8_1 : Int) := of_decide_eq_true (by first | (with_reducible assumption) | assumption)
       have q228 : x8_1 < (l0.length : Int) := of_decide_eq_true (by first | (with_reducible assumption) | assumption)
       obtain ⟨ad228, e228, hx228_0⟩ := Kd.at_int HR0.out x8_1 p228 q228
       cases e228
       replace p228 := eq_true p228
       replace q228 := eq_true q228
       go_wp2_with fail
       (with_reducible refine (impl_Set_isWord_1.calls (rd l0 x8_1) g1_0_ a1_0_0 A1_0_1 c1_0_1 l1_0_1 false _ ?side1_q9 ?side2_q9 ?side3_q9 A6.out).mono ?_); (case side1_q9 => repeat (first | exact HR1_0_1.out | (with_reducible refine Kd.C_alloc ?_ _) | (with_reducible refine Kd.C_drewN ?_ _) | (with_reducible refine Kd.C_drew ?_))); (case side2_q9 => exact HC1_0_1.out); (case side3_q9 => exact (by (with_reducible repeat (first | refine blk_drewN ?_ _ | refine blk_drew ?_ | refine blk_alloc ?_ _)); exact BK90020.out))
       rintro e w' ⟨rfl, ⟨nd, rfl⟩⟩
       go_wp2_with fail
       go_roundg k1
       case measure => have := HK1.out; omega
       case rel => exact ⟨(wrap64 (x8_1 + 1)), (by first | rfl | (simp; done) | (simp [*]; done)), H', ⟨by have := HK1.out; omega⟩, ⟨by (with_reducible repeat (first | refine blk_drewN ?_ _ | refine blk_drew ?_ | refine blk_alloc ?_ _)); exact BK90020.out⟩, by repeat (first | exact Drawn0.refl _ | apply Drawn0.step)⟩
     ·rw [if_neg c5] at H
      exact absurd H (by simp)
    ·rw [if_neg c4] at H
     exact absurd H (by simp)
   ·rw [if_neg c3] at H
    have c3b0 : decide (x8_1 < (l0.length : Int)) = false := decide_eq_false c3
    clear c3
    obtain rfl := Option.some.inj H
    go_wp2_with fail
    go_ret
    exact ⟨by first | rfl | (simp; done) | (simp [*]; done), by repeat (first | exact Drawn0.refl _ | apply Drawn0.step)⟩
end Go.Proofs.Ytenlcakpcbmmdaa.Q
namespace Go.Proofs.Ytenlcakpcbmmdaa.Q
open Go.RowKit Go.Proofs.YtenlcakpcbmmdaaW.PrintWords Go.Proofs.YtenlcakpcbmmdaaW.PrintLast Go.Proofs.YtenlcakpcbmmdaaW.PrintMore
attribute [local go_sem] max2_int min2_int max_two min_two max_three min_three max_four min_four
set_option linter.unusedVariables false
set_option linter.unusedSimpArgs false
def slices_ContainsFunc_int64_int64_at_impl_Set_isWord_1.f (k : Nat) (l0 : List Int) (a1_0_0 : Int) (l1_0_1 : List (S77)) : Option (Bool) := (slices_IndexFunc_int64_int64_at_impl_Set_isWord_1.f k l0 a1_0_0 l1_0_1).bind fun t230 => (some (decide (t230 ≥ 0)))
theorem slices_ContainsFunc_int64_int64_at_impl_Set_isWord_1.mono : ∀ a0 a1 a2 k, LeO (slices_ContainsFunc_int64_int64_at_impl_Set_isWord_1.f k a0 a1 a2) (slices_ContainsFunc_int64_int64_at_impl_Set_isWord_1.f (k + 1) a0 a1 a2) := by
 intro a0 a1 a2 k
 unfold slices_ContainsFunc_int64_int64_at_impl_Set_isWord_1.f
 repeat' first
   | (with_reducible exact slices_IndexFunc_int64_int64_at_impl_Set_isWord_1.mono _ _ _ _)
   | (with_reducible exact LeO.refl _)
   | (with_reducible exact LeO.none _)
   | (with_reducible refine LeO.ite ?_ ?_)
   | (with_reducible refine LeO.bind ?_ (fun _ => ?_))
   | exact slices_IndexFunc_int64_int64_at_impl_Set_isWord_1.mono _ _ _ _
   | exact LeO.none _
   | refine LeO.ite ?_ ?_
   | refine LeO.bind ?_ (fun _ => ?_)
set_option maxHeartbeats 8000000 in
set_option maxRecDepth 100000 in
theorem slices_ContainsFunc_int64_int64_at_impl_Set_isWord_1.calls (k : Nat) (A0 : Option Addr) (c0 : Nat) (l0 : List Int) (g1_0_ : Nat) (a1_0_0 : Int) (A1_0_1 : Option Addr) (c1_0_1 : Nat) (l1_0_1 : List (S77)) (r : Bool) (w : World) (hr0 : Kd.C (Kd.int .i64) w A0 l0.length l0) (hc0 : l0.length ≤ c0) (hr1_0_1 : Kd.C k77 w A1_0_1 l1_0_1.length l1_0_1) (hc1_0_1 : l1_0_1.length ≤ c1_0_1) (hb1_0_ : w.heap[g1_0_]? = some (.cells #[.int .i64 a1_0_0, .slice A1_0_1 l1_0_1.length c1_0_1] 30 (0, 0))) (h : slices_ContainsFunc_int64_int64_at_impl_Set_isWord_1.f k l0 a1_0_0 l1_0_1 = some r) :
  Calls Try.prog 95 #[.slice A0 l0.length c0, .func (.func 96) #[] #[.pointer (some ⟨g1_0_, 0, none⟩)]] w fun e w' => e = .returned (.bool r) ∧ Below w.heap.size w w' := by
 have HR0 := Aside0.mk hr0
 have HC0 := Aside0.mk hc0
 clear hr0 hc0
 have HR1_0_1 := Aside0.mk hr1_0_1
 have HC1_0_1 := Aside0.mk hc1_0_1
 clear hr1_0_1 hc1_0_1
 have BK90020 := Aside0.mk hb1_0_
 clear hb1_0_
 have HB := Aside0.mk (Below.refl w.heap.size w)
 have H : ((slices_IndexFunc_int64_int64_at_impl_Set_isWord_1.f k l0 a1_0_0 l1_0_1).bind fun t230 => (some (decide (t230 ≥ 0)))) = some r := h
 clear h
 replace H := Option.bind_eq_some_iff.mp H
 obtain ⟨t230, A30, H⟩ := H
 replace H : (some (decide (t230 ≥ 0))) = some r := H
 have A3 := Aside0.mk A30
 clear A30
 obtain rfl := Option.some.inj H
 go_enter Try.func95, Try.ntmps95
 go_wp2_with (first | ((with_reducible refine gate_callee (f := 113) rfl ?_); refine goesL_ (some 7) rfl rfl Try.func113 (by kernel_rfl) rfl #[.slice A0 l0.length c0, .func (.func 96) #[] #[.pointer (some ⟨g1_0_, 0, none⟩)]] rfl (by (try simp only [List.map_toArray, List.map_cons, List.map_nil]); first | done | rfl | (simp only [List.length_drop, List.length_take]; rfl)) ?_; (with_reducible refine (slices_IndexFunc_int64_int64_at_impl_Set_isWord_1.calls k _ _ l0 g1_0_ a1_0_0 A1_0_1 c1_0_1 l1_0_1 t230 _ ?side1 ?side2 ?side3 ?side4 ?side5 A3.out).mono ?_); (case side1 => repeat (first | exact HR0.out | (with_reducible refine Kd.C_alloc ?_ _) | (with_reducible refine Kd.C_drewN ?_ _) | (with_reducible refine Kd.C_drew ?_))); (case side2 => exact HC0.out); (case side3 => repeat (first | exact HR1_0_1.out | (with_reducible refine Kd.C_alloc ?_ _) | (with_reducible refine Kd.C_drewN ?_ _) | (with_reducible refine Kd.C_drew ?_))); (case side4 => exact HC1_0_1.out); (case side5 => exact (by (with_reducible repeat (first | refine blk_drewN ?_ _ | refine blk_drew ?_ | refine blk_alloc ?_ _)); exact BK90020.out)); rintro e w' ⟨rfl, ⟨nd, rfl⟩⟩; refine ⟨_, rfl, ?_⟩))
 go_ret
 exact ⟨by first | rfl | (simp [errW_none, errW_some] <;> rfl) | (simp [*, errW_none, errW_some] <;> rfl), by repeat (first | (with_reducible first | exact HB.out | apply below_alloc | apply pw_below_drewN | apply below_drew1) | exact HB.out)⟩
end Go.Proofs.Ytenlcakpcbmmdaa.Q
namespace Go.Proofs.Ytenlcakpcbmmdaa.Q
open Go.RowKit Go.Proofs.YtenlcakpcbmmdaaW.PrintWords Go.Proofs.YtenlcakpcbmmdaaW.PrintLast Go.Proofs.YtenlcakpcbmmdaaW.PrintMore
attribute [local go_sem] max2_int min2_int max_two min_two max_three min_three max_four min_four
set_option linter.unusedVariables false
set_option linter.unusedSimpArgs false
def impl_Set_isWord.f (k : Nat) (a0_0 : Int) (l0_1 : List (S77)) (l1 : List Int) : Option (Bool) := (impl_within.f (l1.length : Int) 1 20).bind fun t232 => (if t232 = true then ((slices_ContainsFunc_int64_int64_at_impl_Set_isWord_1.f k l1 a0_0 l0_1).bind fun t233 => (some (!t233))) else (some false))
theorem impl_Set_isWord.mono : ∀ a0 a1 a2 k, LeO (impl_Set_isWord.f k a0 a1 a2) (impl_Set_isWord.f (k + 1) a0 a1 a2) := by
 intro a0 a1 a2 k
 unfold impl_Set_isWord.f
 repeat' first
   | (with_reducible exact slices_ContainsFunc_int64_int64_at_impl_Set_isWord_1.mono _ _ _ _)
   | (with_reducible exact LeO.refl _)
   | (with_reducible exact LeO.none _)
   | (with_reducible refine LeO.ite ?_ ?_)
   | (with_reducible refine LeO.bind ?_ (fun _ => ?_))
   | exact slices_ContainsFunc_int64_int64_at_impl_Set_isWord_1.mono _ _ _ _
   | exact LeO.none _
   | refine LeO.ite ?_ ?_
   | refine LeO.bind ?_ (fun _ => ?_)
set_option maxHeartbeats 8000000 in
set_option maxRecDepth 100000 in
theorem impl_Set_isWord.calls (k : Nat) (a0_0 : Int) (A0_1 : Option Addr) (c0_1 : Nat) (l0_1 : List (S77)) (A1 : Option Addr) (c1 : Nat) (l1 : List Int) (r : Bool) (w : World) (hr0_1 : Kd.C k77 w A0_1 l0_1.length l0_1) (hc0_1 : l0_1.length ≤ c0_1) (hr1 : Kd.C (Kd.int .i64) w A1 l1.length l1) (hc1 : l1.length ≤ c1) (h : impl_Set_isWord.f k a0_0 l0_1 l1 = some r) :
  Calls Try.prog 65 #[.agg #[.int .i64 a0_0, .slice A0_1 l0_1.length c0_1], .slice A1 l1.length c1] w fun e w' => e = .returned (.bool r) ∧ Below w.heap.size w w' := by
 have hu30 := Try.underlying30
 have HR0_1 := Aside0.mk hr0_1
 have HC0_1 := Aside0.mk hc0_1
 clear hr0_1 hc0_1
 have HR1 := Aside0.mk hr1
 have HC1 := Aside0.mk hc1
 clear hr1 hc1
 have HB := Aside0.mk (Below.refl w.heap.size w)
 have H : ((impl_within.f (l1.length : Int) 1 20).bind fun t232 => (if t232 = true then ((slices_ContainsFunc_int64_int64_at_impl_Set_isWord_1.f k l1 a0_0 l0_1).bind fun t233 => (some (!t233))) else (some false))) = some r := h
 clear h
 replace H := Option.bind_eq_some_iff.mp H
 obtain ⟨t232, A30, H⟩ := H
 replace H : (if t232 = true then ((slices_ContainsFunc_int64_int64_at_impl_Set_isWord_1.f k l1 a0_0 l0_1).bind fun t233 => (some (!t233))) else (some false)) = some r := H
 have A3 := Aside0.mk A30
 clear A30
 by_cases c4 : t232 = true
 ·subst c4
  have H1 : ((slices_ContainsFunc_int64_int64_at_impl_Set_isWord_1.f k l1 a0_0 l0_1).bind fun t233 => (some (!t233))) = some r := by rw [if_pos rfl] at H; exact H
  clear H
  have H := H1
  clear H1
  replace H := Option.bind_eq_some_iff.mp H
  obtain ⟨t233, A50, H⟩ := H
  replace H : (some (!t233)) = some r := H
  have A5 := Aside0.mk A50
  clear A50
  obtain rfl := Option.some.inj H
  go_enter Try.func65, Try.ntmps65
  go_wp2_with (first | ((with_reducible refine gate_dst (N := 2) rfl ?_); refine box_event ?hg (N := 2) ?hd (cs := #[.int .i64 a0_0, .slice A0_1 l0_1.length c0_1]) (t := 30) ?hr ?_; (case hd => rfl); (case hg => rfl); (case hr => first | (go_simp; done) | (go_simp; rfl)); intro gb231 hg w6 hbox hb; have n0_ := Aside0.mk (below_step (by repeat (first | (with_reducible first | exact HB.out | apply below_alloc | apply pw_below_drewN | apply below_drew1) | exact HB.out)) hb); have n1_ := Aside0.mk (hbox); have n2_ := Aside0.mk ((by rw [hg]; exact (below_size (by repeat (first | (with_reducible first | exact HB.out | apply below_alloc | apply pw_below_drewN | apply below_drew1) | exact HB.out))) : w.heap.size ≤ gb231)); have n3_ := Aside0.mk ((by rw [hg]; exact (below_size (by repeat (first | (with_reducible first | exact HB.out | apply below_alloc | apply pw_below_drewN | apply below_drew1) | exact HB.out))) : w.heap.size ≤ gb231)); clear HB; have HB := n0_; have BK231 := n1_; have GW231 := n2_; have GE231 := n3_; clear n0_ n1_ n2_ n3_; clear hb hbox hg) | ((with_reducible refine gate_callee (f := 56) rfl ?_); refine goesL_ (some 7) rfl rfl Try.func56 (by kernel_rfl) rfl #[.int .i64 (l1.length : Int), .int .i64 1, .int .i64 20] rfl (by (try simp only [List.map_toArray, List.map_cons, List.map_nil]); first | done | rfl | (simp only [List.length_drop, List.length_take]; rfl)) ?_; (with_reducible refine (impl_within.calls (l1.length : Int) 1 20 true _ A3.out).mono ?_); rintro e w' ⟨rfl, ⟨nd, rfl⟩⟩; refine ⟨_, rfl, ?_⟩) | (go_at_call 95; (with_reducible refine (slices_ContainsFunc_int64_int64_at_impl_Set_isWord_1.calls k _ _ l1 gb231 a0_0 A0_1 c0_1 l0_1 t233 _ ?side1 ?side2 ?side3 ?side4 ?side5 A5.out).mono ?_); (case side1 => repeat (first | exact (Kd.C_below HR1.out (by repeat (first | (with_reducible first | exact HB.out | apply below_alloc | apply pw_below_drewN | apply below_drew1 | refine below_set ?_ GE231.out) | exact HB.out))) | (with_reducible refine Kd.C_alloc ?_ _) | (with_reducible refine Kd.C_drewN ?_ _) | (with_reducible refine Kd.C_drew ?_))); (case side2 => exact HC1.out); (case side3 => repeat (first | exact (Kd.C_below HR0_1.out (by repeat (first | (with_reducible first | exact HB.out | apply below_alloc | apply pw_below_drewN | apply below_drew1 | refine below_set ?_ GE231.out) | exact HB.out))) | (with_reducible refine Kd.C_alloc ?_ _) | (with_reducible refine Kd.C_drewN ?_ _) | (with_reducible refine Kd.C_drew ?_))); (case side4 => exact HC0_1.out); (case side5 => exact (by (with_reducible repeat (first | refine blk_drewN ?_ _ | refine blk_drew ?_ | refine blk_alloc ?_ _)); exact BK231.out)); rintro e w7 ⟨rfl, hb⟩; have n0_ := Aside0.mk (blk_below (g := gb231) (o := .cells #[.int .i64 a0_0, .slice A0_1 l0_1.length c0_1] 30 (0, 0)) (by (with_reducible repeat (first | refine blk_drewN ?_ _ | refine blk_drew ?_ | refine blk_alloc ?_ _)); exact BK231.out) hb); have n1_ := Aside0.mk (below_step (by repeat (first | (with_reducible first | exact HB.out | apply below_alloc | apply pw_below_drewN | apply below_drew1 | refine below_set ?_ GE231.out) | exact HB.out)) hb); clear BK231; clear HB; have BK231 := n0_; have HB := n1_; clear n0_ n1_; (try clear hb); (try clear hb2); (try clear hk); (try clear hi)))
  go_ret
  exact ⟨by first | rfl | (simp [errW_none, errW_some] <;> rfl) | (simp [*, errW_none, errW_some] <;> rfl), by repeat (first | (with_reducible first | exact HB.out | apply below_alloc | apply pw_below_drewN | apply below_drew1 | refine below_set ?_ GE231.out) | exact HB.out)⟩
 ·replace c4 := Bool.eq_false_iff.mpr c4
  subst c4
  have H1 : (some false) = some r := by rw [if_neg (show ¬ (false = true) by decide)] at H; exact H
  clear H
  have H := H1
  clear H1
  obtain rfl := Option.some.inj H
  go_enter Try.func65, Try.ntmps65
  go_wp2_with (first | ((with_reducible refine gate_dst (N := 2) rfl ?_); refine box_event ?hg (N := 2) ?hd (cs := #[.int .i64 a0_0, .slice A0_1 l0_1.length c0_1]) (t := 30) ?hr ?_; (case hd => rfl); (case hg => rfl); (case hr => first | (go_simp; done) | (go_simp; rfl)); intro gb231 hg w8 hbox hb; have n0_ := Aside0.mk (below_step (by repeat (first | (with_reducible first | exact HB.out | apply below_alloc | apply pw_below_drewN | apply below_drew1) | exact HB.out)) hb); have n1_ := Aside0.mk (hbox); have n2_ := Aside0.mk ((by rw [hg]; exact (below_size (by repeat (first | (with_reducible first | exact HB.out | apply below_alloc | apply pw_below_drewN | apply below_drew1) | exact HB.out))) : w.heap.size ≤ gb231)); have n3_ := Aside0.mk ((by rw [hg]; exact (below_size (by repeat (first | (with_reducible first | exact HB.out | apply below_alloc | apply pw_below_drewN | apply below_drew1) | exact HB.out))) : w.heap.size ≤ gb231)); clear HB; have HB := n0_; have BK231 := n1_; have GW231 := n2_; have GE231 := n3_; clear n0_ n1_ n2_ n3_; clear hb hbox hg) | ((with_reducible refine gate_callee (f := 56) rfl ?_); refine goesL_ (some 7) rfl rfl Try.func56 (by kernel_rfl) rfl #[.int .i64 (l1.length : Int), .int .i64 1, .int .i64 20] rfl (by (try simp only [List.map_toArray, List.map_cons, List.map_nil]); first | done | rfl | (simp only [List.length_drop, List.length_take]; rfl)) ?_; (with_reducible refine (impl_within.calls (l1.length : Int) 1 20 false _ A3.out).mono ?_); rintro e w' ⟨rfl, ⟨nd, rfl⟩⟩; refine ⟨_, rfl, ?_⟩))
  go_ret
  exact ⟨by first | rfl | (simp [errW_none, errW_some] <;> rfl) | (simp [*, errW_none, errW_some] <;> rfl), by repeat (first | (with_reducible first | exact HB.out | apply below_alloc | apply pw_below_drewN | apply below_drew1 | refine below_set ?_ GE231.out) | exact HB.out)⟩
end Go.Proofs.Ytenlcakpcbmmdaa.Q
namespace Go.Proofs.Ytenlcakpcbmmdaa.Q
open Go.RowKit Go.Proofs.YtenlcakpcbmmdaaW.PrintWords Go.Proofs.YtenlcakpcbmmdaaW.PrintLast Go.Proofs.YtenlcakpcbmmdaaW.PrintMore
attribute [local go_sem] max2_int min2_int max_two min_two max_three min_three max_four min_four
set_option linter.unusedVariables false
set_option linter.unusedSimpArgs false
def spec_l01In.f (a0 : Int) (a1 : Int) (a2 : Int) : Option (Bool) := if a0 ≥ a1 then (some (decide (a0 ≤ a2))) else (some false)
set_option maxHeartbeats 8000000 in
set_option maxRecDepth 100000 in
theorem spec_l01In.calls (a0 : Int) (a1 : Int) (a2 : Int) (r : Bool) (w : World) (h : spec_l01In.f a0 a1 a2 = some r) :
  Calls Try.prog 90 #[.int .i64 a0, .int .i64 a1, .int .i64 a2] w fun e w' => e = .returned (.bool r) ∧ Drawn0 w w' := by
 have H : (if a0 ≥ a1 then (some (decide (a0 ≤ a2))) else (some false)) = some r := h
 clear h
 by_cases c4 : a0 ≥ a1
 ·rw [if_pos c4] at H
  have c4b0 : decide (a1 ≤ a0) = true := decide_eq_true c4
  clear c4
  obtain rfl := Option.some.inj H
  go_enter Try.func90, Try.ntmps90
  go_wp2
  go_ret
  exact ⟨by first | rfl | (simp; done) | (simp [*]; done), by repeat (first | exact Drawn0.refl _ | apply Drawn0.step)⟩
 ·rw [if_neg c4] at H
  have c4b0 : decide (a1 ≤ a0) = false := decide_eq_false c4
  clear c4
  obtain rfl := Option.some.inj H
  go_enter Try.func90, Try.ntmps90
  go_wp2
  go_ret
  exact ⟨by first | rfl | (simp; done) | (simp [*]; done), by repeat (first | exact Drawn0.refl _ | apply Drawn0.step)⟩
end Go.Proofs.Ytenlcakpcbmmdaa.Q
namespace Go.Proofs.Ytenlcakpcbmmdaa.Q
open Go.RowKit Go.Proofs.YtenlcakpcbmmdaaW.PrintWords Go.Proofs.YtenlcakpcbmmdaaW.PrintLast Go.Proofs.YtenlcakpcbmmdaaW.PrintMore
attribute [local go_sem] max2_int min2_int max_two min_two max_three min_three max_four min_four
set_option linter.unusedVariables false
set_option linter.unusedSimpArgs false
def spec_l01Word.l0 : Nat → List Int → Int → Int → List (S77) → Option (Bool)
 | 0, _, _, _, _ => none
 | k + 1, x1, x5, x211000, x211001 => if x5 < (x1.length : Int) then (if 0 ≤ x5 then ((spec_l01In.f (rd x1 x5) 0 (wrap64 (x211000 - 1))).bind fun t212 => (if t212 = true then (spec_l01Word.l0 k x1 (wrap64 (x5 + 1)) x211000 x211001) else (some false))) else (none)) else (some true)
def spec_l01Word.f (k : Nat) (a0_0 : Int) (l0_1 : List (S77)) (l1 : List Int) : Option (Bool) := spec_l01Word.l0 k l1 0 a0_0 l0_1
theorem spec_l01Word.mono_l : ∀ k, (∀ y0 y1 y2 y3, LeO (spec_l01Word.l0 k y0 y1 y2 y3) (spec_l01Word.l0 (k + 1) y0 y1 y2 y3))
 | 0 => fun _ _ _ _ r h => by simp [spec_l01Word.l0] at h
 | k + 1 => by
  have ih0 := spec_l01Word.mono_l k
  ·intro y0 y1 y2 y3
   unfold spec_l01Word.l0
   repeat' first
   | (with_reducible exact ih0 _ _ _ _)
   | (with_reducible exact LeO.refl _)
   | (with_reducible exact LeO.none _)
   | (with_reducible refine LeO.ite ?_ ?_)
   | (with_reducible refine LeO.bind ?_ (fun _ => ?_))
   | exact ih0 _ _ _ _
   | exact LeO.none _
   | refine LeO.ite ?_ ?_
   | refine LeO.bind ?_ (fun _ => ?_)
theorem spec_l01Word.mono : ∀ a0 a1 a2 k, LeO (spec_l01Word.f k a0 a1 a2) (spec_l01Word.f (k + 1) a0 a1 a2) := by
 intro a0 a1 a2 k
 have ih0 := spec_l01Word.mono_l k
 unfold spec_l01Word.f
 repeat' first
   | (with_reducible exact ih0 _ _ _ _)
   | (with_reducible exact LeO.refl _)
   | (with_reducible exact LeO.none _)
   | (with_reducible refine LeO.ite ?_ ?_)
   | (with_reducible refine LeO.bind ?_ (fun _ => ?_))
   | exact ih0 _ _ _ _
   | exact LeO.none _
   | refine LeO.ite ?_ ?_
   | refine LeO.bind ?_ (fun _ => ?_)
set_option maxHeartbeats 8000000 in
set_option maxRecDepth 100000 in
theorem spec_l01Word.calls (k : Nat) (a0_0 : Int) (A0_1 : Option Addr) (c0_1 : Nat) (l0_1 : List (S77)) (A1 : Option Addr) (c1 : Nat) (l1 : List Int) (r : Bool) (w : World) (hr0_1 : Kd.C k77 w A0_1 l0_1.length l0_1) (hc0_1 : l0_1.length ≤ c0_1) (hr1 : Kd.C (Kd.int .i64) w A1 l1.length l1) (hc1 : l1.length ≤ c1) (h : spec_l01Word.f k a0_0 l0_1 l1 = some r) :
  Calls Try.prog 94 #[.agg #[.int .i64 a0_0, .slice A0_1 l0_1.length c0_1], .slice A1 l1.length c1] w fun e w' => e = .returned (.bool r) ∧ Below w.heap.size w w' := by
 have hu30 := Try.underlying30
 have HR0_1 := Aside0.mk hr0_1
 have HC0_1 := Aside0.mk hc0_1
 clear hr0_1 hc0_1
 have HR1 := Aside0.mk hr1
 have HC1 := Aside0.mk hc1
 clear hr1 hc1
 have HB := Aside0.mk (Below.refl w.heap.size w)
 have H : (spec_l01Word.l0 k l1 0 a0_0 l0_1) = some r := h
 clear h
 have H' := Aside0.mk H
 clear H
 go_enter Try.func94, Try.ntmps94
 go_wp2_with (first | ((with_reducible refine gate_dst (N := 2) rfl ?_); refine box_event ?hg (N := 2) ?hd (cs := #[.int .i64 a0_0, .slice A0_1 l0_1.length c0_1]) (t := 30) ?hr ?_; (case hd => rfl); (case hg => rfl); (case hr => first | (go_simp; done) | (go_simp; rfl)); intro gb210 hg w3 hbox hb; have n0_ := Aside0.mk (below_step (by repeat (first | (with_reducible first | exact HB.out | apply below_alloc | apply pw_below_drewN | apply below_drew1) | exact HB.out)) hb); have n1_ := Aside0.mk (hbox); have n2_ := Aside0.mk ((by rw [hg]; exact (below_size (by repeat (first | (with_reducible first | exact HB.out | apply below_alloc | apply pw_below_drewN | apply below_drew1) | exact HB.out))) : w.heap.size ≤ gb210)); have n3_ := Aside0.mk ((by rw [hg]; exact (below_size (by repeat (first | (with_reducible first | exact HB.out | apply below_alloc | apply pw_below_drewN | apply below_drew1) | exact HB.out))) : w.heap.size ≤ gb210)); clear HB; have HB := n0_; have BK210 := n1_; have GW210 := n2_; have GE210 := n3_; clear n0_ n1_ n2_ n3_; clear hb hbox hg))
 repeat (go_quiet (first | ((with_reducible refine gate_dst (N := 2) rfl ?_); refine box_event ?hg (N := 2) ?hd (cs := #[.int .i64 a0_0, .slice A0_1 l0_1.length c0_1]) (t := 30) ?hr ?_; (case hd => rfl); (case hg => rfl); (case hr => first | (go_simp; done) | (go_simp; rfl)); intro gb210 hg w3 hbox hb; have n0_ := Aside0.mk (below_step (by repeat (first | (with_reducible first | exact HB.out | apply below_alloc | apply pw_below_drewN | apply below_drew1) | exact HB.out)) hb); have n1_ := Aside0.mk (hbox); have n2_ := Aside0.mk ((by rw [hg]; exact (below_size (by repeat (first | (with_reducible first | exact HB.out | apply below_alloc | apply pw_below_drewN | apply below_drew1) | exact HB.out))) : w.heap.size ≤ gb210)); have n3_ := Aside0.mk ((by rw [hg]; exact (below_size (by repeat (first | (with_reducible first | exact HB.out | apply below_alloc | apply pw_below_drewN | apply below_drew1) | exact HB.out))) : w.heap.size ≤ gb210)); clear HB; have HB := n0_; have BK210 := n1_; have GW210 := n2_; have GE210 := n3_; clear n0_ n1_ n2_ n3_; clear hb hbox hg)); try go_wp2_with (first | ((with_reducible refine gate_dst (N := 2) rfl ?_); refine box_event ?hg (N := 2) ?hd (cs := #[.int .i64 a0_0, .slice A0_1 l0_1.length c0_1]) (t := 30) ?hr ?_; (case hd => rfl); (case hg => rfl); (case hr => first | (go_simp; done) | (go_simp; rfl)); intro gb210 hg w3 hbox hb; have n0_ := Aside0.mk (below_step (by repeat (first | (with_reducible first | exact HB.out | apply below_alloc | apply pw_below_drewN | apply below_drew1) | exact HB.out)) hb); have n1_ := Aside0.mk (hbox); have n2_ := Aside0.mk ((by rw [hg]; exact (below_size (by repeat (first | (with_reducible first | exact HB.out | apply below_alloc | apply pw_below_drewN | apply below_drew1) | exact HB.out))) : w.heap.size ≤ gb210)); have n3_ := Aside0.mk ((by rw [hg]; exact (below_size (by repeat (first | (with_reducible first | exact HB.out | apply below_alloc | apply pw_below_drewN | apply below_drew1) | exact HB.out))) : w.heap.size ≤ gb210)); clear HB; have HB := n0_; have BK210 := n1_; have GW210 := n2_; have GE210 := n3_; clear n0_ n1_ n2_ n3_; clear hb hbox hg)))
 go_loopg [5] k (fun kq v5 w' => ∃ (x5_1 : Int), v5 = .int .i64 x5_1 ∧ Aside0 (spec_l01Word.l0 kq l1 x5_1 a0_0 l0_1 = some r) ∧ Aside0 (kq ≤ k) ∧ Aside0 (w'.heap[gb210]? = some (.cells #[.int .i64 a0_0, (.slice A0_1 l0_1.length c0_1)] 30 (0, 0))) ∧ Aside0 (Below w.heap.size w w'))
 case atStart => exact ⟨(0), (by first | rfl | (simp; done) | (simp [*]; done)), H', ⟨Nat.le_refl _⟩, ⟨by (with_reducible repeat (first | refine blk_drewN ?_ _ | refine blk_drew ?_ | refine blk_alloc ?_ _)); exact BK210.out⟩, ⟨by repeat (first | (with_reducible first | exact HB.out | apply below_alloc | apply pw_below_drewN | apply below_drew1 | refine below_set ?_ GE210.out) | exact HB.out)⟩⟩
 case round =>
  clear H'
  try clear c1
  try clear p2
  obtain ⟨x5_1, rfl, HA, HK1, BK210, HB⟩ := hrel
  cases gk with
  | zero => exact absurd HA.out (by simp [spec_l01Word.l0])
  | succ k1 =>
   have H := HA.out
   clear HA
   simp only [spec_l01Word.l0] at H
   by_cases c4 : x5_1 < (l1.length : Int)
   ·rw [if_pos c4] at H
    have c4b0 : decide (x5_1 < (l1.length : Int)) = true := decide_eq_true c4
    clear c4
    by_cases c5 : 0 ≤ x5_1
    ·rw [if_pos c5] at H
     have c5b0 : decide (0 ≤ x5_1) = true := decide_eq_true c5
     clear c5
     replace H := Option.bind_eq_some_iff.mp H
     obtain ⟨t212, A60, H⟩ := H
     replace H : (if t212 = true then (spec_l01Word.l0 k1 l1 (wrap64 (x5_1 + 1)) a0_0 l0_1) else (some false)) = some r := H
     have A6 := Aside0.mk A60
     clear A60
     by_cases c7 : t212 = true
     ·subst c7
      have H1 : (spec_l01Word.l0 k1 l1 (wrap64 (x5_1 + 1)) a0_0 l0_1) = some r := by rw [if_pos rfl] at H; exact H
      clear H
      have H := H1
      clear H1
      have H' := Aside0.mk H
      clear H
      have p211 : 0 ≤ (x5_1 : Int) := of_decide_eq_true (by first | (with_reducible assumption) | assumption)
      have q211 : x5_1 < (l1.length : Int) := of_decide_eq_true (by first | (with_reducible assumption) | assumption)
      obtain ⟨ad211, e211, hx211_0⟩ := Kd.at_int HR1.out x5_1 p211 q211
      cases e211
      replace hx211_0 := (HB.out.cell (World.block_lt_of_cell? w _ hx211_0)).trans hx211_0
      replace p211 := eq_true p211
      replace q211 := eq_true q211
      have hcz8_0 : wr.cell? ⟨gb210, 0, none⟩ = some (.int .i64 a0_0) := (blk_cell BK210.out 0).trans rfl
      have hcz8_1 : wr.cell? ⟨gb210, 1, none⟩ = some (.slice A0_1 l0_1.length c0_1) := (blk_cell BK210.out 1).trans rfl
      have hfz8_0 := blk_frozen BK210.out 0
      have hfz8_1 := blk_frozen BK210.out 1
      go_wp2_with (first | (go_at_call 90; (with_reducible refine (spec_l01In.calls (rd l1 x5_1) 0 (wrap64 (a0_0 - 1)) true _ A6.out).mono ?_); rintro e w' ⟨rfl, ⟨nd, rfl⟩⟩; (try first | exact ⟨rfl, _, World.drewN_drewN _ _ _⟩ | exact ⟨rfl, _, Eq.trans (World.drewN_drewN _ _ _) (congrArg (World.drewN _) (Nat.add_assoc _ _ _))⟩)))
      repeat (go_quiet (first | (go_at_call 90; (with_reducible refine (spec_l01In.calls (rd l1 x5_1) 0 (wrap64 (a0_0 - 1)) true _ A6.out).mono ?_); rintro e w' ⟨rfl, ⟨nd, rfl⟩⟩; (try first | exact ⟨rfl, _, World.drewN_drewN _ _ _⟩ | exact ⟨rfl, _, Eq.trans (World.drewN_drewN _ _ _) (congrArg (World.drewN _) (Nat.add_assoc _ _ _))⟩))); try go_wp2_with (first | (go_at_call 90; (with_reducible refine (spec_l01In.calls (rd l1 x5_1) 0 (wrap64 (a0_0 - 1)) true _ A6.out).mono ?_); rintro e w' ⟨rfl, ⟨nd, rfl⟩⟩; (try first | exact ⟨rfl, _, World.drewN_drewN _ _ _⟩ | exact ⟨rfl, _, Eq.trans (World.drewN_drewN _ _ _) (congrArg (World.drewN _) (Nat.add_assoc _ _ _))⟩))))
      go_roundg k1
      case measure => have := HK1.out; omega
      case rel => exact ⟨(wrap64 (x5_1 + 1)), (by first | rfl | (simp; done) | (simp [*]; done)), H', ⟨by have := HK1.out; omega⟩, ⟨by (with_reducible repeat (first | refine blk_drewN ?_ _ | refine blk_drew ?_ | refine blk_alloc ?_ _)); exact BK210.out⟩, ⟨by repeat (first | (with_reducible first | exact HB.out | apply below_alloc | apply pw_below_drewN | apply below_drew1 | refine below_set ?_ GE210.out) | exact HB.out)⟩⟩
     ·replace c7 := Bool.eq_false_iff.mpr c7
      subst c7
      have H1 : (some false) = some r := by rw [if_neg (show ¬ (false = true) by decide)] at H; exact H
      clear H
      have H := H1
      clear H1
      obtain rfl := Option.some.inj H
      have p211 : 0 ≤ (x5_1 : Int) := of_decide_eq_true (by first | (with_reducible assumption) | assumption)
      have q211 : x5_1 < (l1.length : Int) := of_decide_eq_true (by first | (with_reducible assumption) | assumption)
      obtain ⟨ad211, e211, hx211_0⟩ := Kd.at_int HR1.out x5_1 p211 q211
      cases e211
      replace hx211_0 := (HB.out.cell (World.block_lt_of_cell? w _ hx211_0)).trans hx211_0
      replace p211 := eq_true p211
      replace q211 := eq_true q211
      have hcz9_0 : wr.cell? ⟨gb210, 0, none⟩ = some (.int .i64 a0_0) := (blk_cell BK210.out 0).trans rfl
      have hcz9_1 : wr.cell? ⟨gb210, 1, none⟩ = some (.slice A0_1 l0_1.length c0_1) := (blk_cell BK210.out 1).trans rfl
      have hfz9_0 := blk_frozen BK210.out 0
      have hfz9_1 := blk_frozen BK210.out 1
      go_wp2_with (first | (go_at_call 90; (with_reducible refine (spec_l01In.calls (rd l1 x5_1) 0 (wrap64 (a0_0 - 1)) false _ A6.out).mono ?_); rintro e w' ⟨rfl, ⟨nd, rfl⟩⟩; (try first | exact ⟨rfl, _, World.drewN_drewN _ _ _⟩ | exact ⟨rfl, _, Eq.trans (World.drewN_drewN _ _ _) (congrArg (World.drewN _) (Nat.add_assoc _ _ _))⟩)))
      repeat (go_quiet (first | (go_at_call 90; (with_reducible refine (spec_l01In.calls (rd l1 x5_1) 0 (wrap64 (a0_0 - 1)) false _ A6.out).mono ?_); rintro e w' ⟨rfl, ⟨nd, rfl⟩⟩; (try first | exact ⟨rfl, _, World.drewN_drewN _ _ _⟩ | exact ⟨rfl, _, Eq.trans (World.drewN_drewN _ _ _) (congrArg (World.drewN _) (Nat.add_assoc _ _ _))⟩))); try go_wp2_with (first | (go_at_call 90; (with_reducible refine (spec_l01In.calls (rd l1 x5_1) 0 (wrap64 (a0_0 - 1)) false _ A6.out).mono ?_); rintro e w' ⟨rfl, ⟨nd, rfl⟩⟩; (try first | exact ⟨rfl, _, World.drewN_drewN _ _ _⟩ | exact ⟨rfl, _, Eq.trans (World.drewN_drewN _ _ _) (congrArg (World.drewN _) (Nat.add_assoc _ _ _))⟩))))
      go_ret
      exact ⟨by first | rfl | (simp [errW_none, errW_some] <;> rfl) | (simp [*, errW_none, errW_some] <;> rfl), by repeat (first | (with_reducible first | exact HB.out | apply below_alloc | apply pw_below_drewN | apply below_drew1 | refine below_set ?_ GE210.out) | exact HB.out)⟩
    ·rw [if_neg c5] at H
     exact absurd H (by simp)
   ·rw [if_neg c4] at H
    have c4b0 : decide (x5_1 < (l1.length : Int)) = false := decide_eq_false c4
    clear c4
    obtain rfl := Option.some.inj H
    go_wp2
    repeat (go_quiet (fail); try go_wp2)
    go_ret
    exact ⟨by first | rfl | (simp [errW_none, errW_some] <;> rfl) | (simp [*, errW_none, errW_some] <;> rfl), by repeat (first | (with_reducible first | exact HB.out | apply below_alloc | apply pw_below_drewN | apply below_drew1 | refine below_set ?_ GE210.out) | exact HB.out)⟩
end Go.Proofs.Ytenlcakpcbmmdaa.Q
namespace Go.Proofs.Ytenlcakpcbmmdaa
open Go Go.RowKit Go.Proofs Go.Proofs.YtenlcakpcbmmdaaW.PrintWords Go.Proofs.YtenlcakpcbmmdaaW.PrintMore Go.Proofs.Ytenlcakpcbmmdaa.Q
set_option linter.unusedVariables false
set_option linter.unusedSimpArgs false
theorem next_wrap (m : Nat) (h : m < 100000000000000) : wrap64 ((m : Int) + 1) = ((m + 1 : Nat) : Int) := by unfold wrap64; omega
def wordB (C : Int) (word : List Int) : Bool := word.all fun x => inB x 0 (C - 1)
theorem specIn_f (n lo hi : Int) : spec_l01In.f n lo hi = some (inB n lo hi) := by
  unfold spec_l01In.f inB
  by_cases h : n ≥ lo
  · rw [if_pos h]; simp [h]
  · rw [if_neg h]; simp at h ⊢; omega
theorem within_f (n lo hi : Int) : impl_within.f n lo hi = some (inB n lo hi) := by
  unfold impl_within.f inB
  by_cases h : n ≥ lo
  · rw [if_pos h]; simp [h]
  · rw [if_neg h]; simp at h ⊢; omega
theorem specWord_ev (C : Int) (l : List STile) (word : List Int) (hC : -9000000000000000000 ≤ C ∧ C ≤ 9000000000000000000) (hw : word.length ≤ 35184372088832) : Ev (fun k => spec_l01Word.f k C l word) (wordB C word) := by
  have hc1 : wrap64 (C - 1) = C - 1 := wrap_id (by omega) (by omega)
  have go : ∀ d i, i + d = word.length → Ev (fun k => spec_l01Word.l0 k word (i : Int) C l) (wordB C (word.drop i)) := by
    intro d
    induction d with
    | zero =>
      intro i hi
      have b1 : ¬ (i : Int) < (word.length : Int) := by omega
      refine Ev.step (fun k => ?_) (Ev.now _)
      rw [spec_l01Word.l0, if_neg b1, List.drop_of_length_le (by omega)]; rfl
    | succ d ih =>
      intro i hi
      have b1 : (i : Int) < (word.length : Int) := by omega
      have b2 : (0 : Int) ≤ (i : Int) := Int.natCast_nonneg i
      have hi9 : i < 100000000000000 := by omega
      have hd := drop_rd word i (by omega)
      cases hq : inB (rd word (i : Int)) 0 (C - 1)
      · have e : wordB C (word.drop i) = false := by rw [hd]; simp [wordB, hq]
        refine Ev.step (fun k => ?_) (Ev.now _)
        rw [spec_l01Word.l0, if_pos b1, if_pos b2, specIn_f, hc1, hq, e]; rfl
      · have e : wordB C (word.drop i) = wordB C (word.drop (i + 1)) := by rw [hd]; simp [wordB, hq]
        rw [e]
        refine Ev.step (fun k => ?_) (ih (i + 1) (by omega))
        rw [spec_l01Word.l0, if_pos b1, if_pos b2, specIn_f, hc1, hq, next_wrap i hi9]; rfl
  exact go word.length 0 (by omega)
theorem implIdx_ev (C : Int) (l : List STile) (word : List Int) (hC : -9000000000000000000 ≤ C ∧ C ≤ 9000000000000000000) (hw : word.length ≤ 35184372088832) :
    ∃ j : Int, Ev (fun k => slices_IndexFunc_int64_int64_at_impl_Set_isWord_1.f k word C l) j ∧ (decide (j ≥ 0) = !wordB C word) := by
  have hc1 : wrap64 (C - 1) = C - 1 := wrap_id (by omega) (by omega)
  have go : ∀ d i, i + d = word.length → ∃ j : Int, Ev (fun k => slices_IndexFunc_int64_int64_at_impl_Set_isWord_1.l0 k word (word.length : Int) (i : Int) C l) j ∧ (decide (j ≥ 0) = !wordB C (word.drop i)) := by
    intro d
    induction d with
    | zero =>
      intro i hi
      have b1 : ¬ (i : Int) < (word.length : Int) := by omega
      refine ⟨-1, Ev.step (fun k => ?_) (Ev.now _), ?_⟩
      · rw [slices_IndexFunc_int64_int64_at_impl_Set_isWord_1.l0, if_neg b1]
      · rw [List.drop_of_length_le (by omega)]; simp [wordB]
    | succ d ih =>
      intro i hi
      have b1 : (i : Int) < (word.length : Int) := by omega
      have b2 : (0 : Int) ≤ (i : Int) := Int.natCast_nonneg i
      have hi9 : i < 100000000000000 := by omega
      have hd := drop_rd word i (by omega)
      cases hq : inB (rd word (i : Int)) 0 (C - 1)
      · refine ⟨(i : Int), Ev.step (fun k => ?_) (Ev.now _), ?_⟩
        · rw [slices_IndexFunc_int64_int64_at_impl_Set_isWord_1.l0, if_pos b1, if_pos b2, if_pos b1, impl_Set_isWord_1.f, within_f, hc1, hq]; rfl
        · rw [hd]; simp [wordB, hq]
      · obtain ⟨j, hj, h2⟩ := ih (i + 1) (by omega)
        refine ⟨j, Ev.step (fun k => ?_) hj, ?_⟩
        · rw [slices_IndexFunc_int64_int64_at_impl_Set_isWord_1.l0, if_pos b1, if_pos b2, if_pos b1, impl_Set_isWord_1.f, within_f, hc1, hq, next_wrap i hi9]; rfl
        · rw [h2, hd]; simp [wordB, hq]
  exact go word.length 0 (by omega)
def isWordB (C : Int) (word : List Int) : Bool := inB (word.length : Int) 1 20 && wordB C word
theorem implWord_ev (C : Int) (l : List STile) (word : List Int) (hC : -9000000000000000000 ≤ C ∧ C ≤ 9000000000000000000) (hw : word.length ≤ 35184372088832) : Ev (fun k => impl_Set_isWord.f k C l word) (isWordB C word) := by
  cases hq : inB (word.length : Int) 1 20
  · refine Ev.congr (fun k => ?_) (Ev.now _)
    rw [impl_Set_isWord.f, within_f, hq]
    simp [isWordB, hq]
  · obtain ⟨j, hj, h2⟩ := implIdx_ev C l word hC hw
    refine Ev.congr (f := fun k => (slices_IndexFunc_int64_int64_at_impl_Set_isWord_1.f k word C l).bind fun t => some (!(decide (t ≥ 0)))) (fun k => ?_) (Ev.bind hj ?_)
    · rw [impl_Set_isWord.f, within_f, hq, slices_ContainsFunc_int64_int64_at_impl_Set_isWord_1.f]
      cases slices_IndexFunc_int64_int64_at_impl_Set_isWord_1.f k word C l <;> simp
    · rw [h2]
      simp only [Bool.not_not]
      rw [show isWordB C word = wordB C word by simp [isWordB, hq]]
      exact Ev.now _
end Go.Proofs.Ytenlcakpcbmmdaa
namespace Go.Proofs.Ytenlcakpcbmmdaa
open Go Go.RowKit Go.Proofs
set_option linter.unusedVariables false
set_option linter.unusedSimpArgs false
set_option maxHeartbeats 400000 in
theorem l01In_any (n lo hi : Int) (w : World) :
    Calls Try.prog 90 #[.int .i64 n, .int .i64 lo, .int .i64 hi] w fun e w' => e = .returned (.bool (inB n lo hi)) ∧ w = w' := by
  go_enter Try.func90, Try.ntmps90
  go_wp2
  all_goals (go_ret; exact ⟨ret_bool (by simp [inB, *] <;> omega), rfl⟩)
set_option maxHeartbeats 400000 in
theorem within_any (n lo hi : Int) (w : World) :
    Calls Try.prog 56 #[.int .i64 n, .int .i64 lo, .int .i64 hi] w fun e w' => e = .returned (.bool (inB n lo hi)) ∧ w = w' := by
  go_enter Try.func56, Try.ntmps56
  go_wp2
  all_goals (go_ret; exact ⟨ret_bool (by simp [inB, *] <;> omega), rfl⟩)
set_option maxHeartbeats 400000 in
theorem l01Tile_any (n : Int) (t : T4) (w : World) :
    Calls Try.prog 101 #[.int .i64 n, .agg t.arr] w fun e w' => e = .returned (.bool (tileB t (wrap64 (n-1)))) ∧ Below w.heap.size w w' := by
  go_enter Try.func101, Try.ntmps101
  go_wp2
  go_loop [5] (fun i => ∃ k : Nat, k ≤ 4 ∧ i = .int .i64 k ∧ ∀ j, j < k → inB (t.get j) 0 (wrap64 (n-1)) = true) (fun i => 4 - (intOf i).toNat)
  case atStart => exact ⟨0, by omega, rfl, fun j h => by omega⟩
  case round =>
    obtain ⟨k, hk, rfl, hall⟩ := hrel
    have HA := Lib.hid hall
    clear hall
    by_cases hlt : k < 4
    · have hcell := t.cell k hlt
      cases hb : inB (t.get k) 0 (wrap64 (n-1))
      · have HB := Lib.hid hb; clear hb
        go_wp2_with (go_at_call 90; refine (l01In_any _ _ _ _).mono ?_; rintro e w' ⟨rfl, rfl⟩; rw [HB.out])
        go_ret
        exact ⟨ret_bool (tileB_false hlt HB.out), by simpa using (Below.refl _ _).alloc (Nat.le_refl _) _⟩
      · have HB := Lib.hid hb; clear hb
        go_wp2_with (go_at_call 90; refine (l01In_any _ _ _ _).mono ?_; rintro e w' ⟨rfl, rfl⟩; rw [HB.out])
        go_round
        case rel => exact ⟨k + 1, by omega, by go_num, fun j hj => by
          by_cases e : j = k
          · subst e; exact HB.out
          · exact HA.out j (by omega)⟩
        case measure => simp [intOf]; omega
    · go_wp2
      go_ret
      exact ⟨ret_bool (tileB_true hk hlt HA.out), by simpa using (Below.refl _ _).alloc (Nat.le_refl _) _⟩
set_option maxHeartbeats 400000 in
theorem l01Before_any (t u : T4) (w : World) :
    Calls Try.prog 102 #[.agg t.arr, .agg u.arr] w fun e w' => e = .returned (.bool (ltT t u)) ∧ Below w.heap.size w w' := by
  go_enter Try.func102, Try.ntmps102
  go_wp2
  refine name2 ?_
  intro W1 b1 b2 hz hb0
  have HB0 := Lib.hid hb0; have HZ := Lib.hid hz; clear hb0 hz
  go_loopw [5] (fun i wr => Below W1.heap.size W1 wr ∧ ∃ k : Nat, k ≤ 4 ∧ i = .int .i64 k ∧ ∀ j, j < k → t.get j = u.get j) (fun i _ => 4 - (intOf i).toNat)
  case atStart => exact ⟨Below.refl _ _, 0, by omega, rfl, fun j h => by omega⟩
  case round =>
    obtain ⟨hB, k, hk, rfl, hall⟩ := hrel
    have HB := Lib.hid hB; have HA := Lib.hid hall; clear hB hall
    have HE := Lib.hid (HB0.out.trans (HB.out.mono (by rw [HZ.out]; omega)))
    by_cases hlt : k < 4
    · have hI : (k : Int) < 4 := by omega
      have c1 := (b1.below HB.out b1.lt).cell (t.cell k hlt)
      have c2 := (b2.below HB.out b2.lt).cell (u.cell k hlt)
      have l1 := (b1.below HB.out b1.lt).lt
      have l2 := (b2.below HB.out b2.lt).lt
      by_cases hne : t.get k = u.get k
      · have HN := Lib.hid hne; clear hne
        have hn' : (t.get k != u.get k) = false := by simp [HN.out]
        go_wp2
        refine wp_region_gro (by kernel_rfl) (by kernel_rfl) ?_
        repeat (first | go_big_quiet_step (fail) | quiet_step (fail))
        refine wpQuiet_nil ?_
        intro w1 hB1
        have HB1 := Lib.hid hB1; clear hB1
        go_wp2
        go_roundw
        case rel => exact ⟨HB.out.trans (HB1.out.mono HB.out.size), k + 1, by omega, by go_num, fun j hj => by
            by_cases e : j = k
            · subst e; exact HN.out
            · exact HA.out j (by omega)⟩
        case measure => simp [intOf]; omega
      · have HN := Lib.hid hne; clear hne
        have hn' : (t.get k != u.get k) = true := by simpa using HN.out
        go_wp2
        refine wp_region_gro (by kernel_rfl) (by kernel_rfl) ?_
        repeat (first | go_big_quiet_step (fail) | quiet_step (fail))
        refine wpQuiet_nil ?_
        intro w1 hB1
        have c1' := cell_to hB1 c1
        have c2' := cell_to hB1 c2
        have l1' := lt_to hB1 l1
        have l2' := lt_to hB1 l2
        have HB1 := Lib.hid hB1; clear hB1
        go_wp2
        refine wp_region_gro (by kernel_rfl) (by kernel_rfl) ?_
        repeat (first | go_big_quiet_step (fail) | quiet_step (fail))
        refine wpQuiet_nil ?_
        intro w2 hB2
        have HB2 := Lib.hid hB2; clear hB2
        go_wp2
        go_ret
        exact ⟨ret_bool (ltT_at hlt HA.out HN.out), HE.out.trans ((HB1.out.trans (HB2.out.mono HB1.out.size)).mono HE.out.size)⟩
    · go_wp2
      go_ret
      exact ⟨ret_bool (by rw [eq_of_get hk hlt HA.out, ltT_self]), HE.out⟩
set_option maxHeartbeats 400000 in
theorem eqTile_any (t u : T4) (w : World) :
    Calls Try.prog 93 #[.agg t.arr, .agg u.arr] w fun e w' => e = .returned (.bool (decide (t = u))) ∧ Below w.heap.size w w' := by
  go_enter Try.func93, Try.ntmps93
  go_wp2
  refine name2 ?_
  intro W1 b1 b2 hz hb0
  have HB0 := Lib.hid hb0; have HZ := Lib.hid hz; clear hb0 hz
  go_loopw [5] (fun i wr => Below W1.heap.size W1 wr ∧ ∃ k : Nat, k ≤ 4 ∧ i = .int .i64 k ∧ ∀ j, j < k → t.get j = u.get j) (fun i _ => 4 - (intOf i).toNat)
  case atStart => exact ⟨Below.refl _ _, 0, by omega, rfl, fun j h => by omega⟩
  case round =>
    obtain ⟨hB, k, hk, rfl, hall⟩ := hrel
    have HB := Lib.hid hB; have HA := Lib.hid hall; clear hB hall
    have HE := Lib.hid (HB0.out.trans (HB.out.mono (by rw [HZ.out]; omega)))
    by_cases hlt : k < 4
    · have hI : (k : Int) < 4 := by omega
      have c1 := (b1.below HB.out b1.lt).cell (t.cell k hlt)
      have c2 := (b2.below HB.out b2.lt).cell (u.cell k hlt)
      have l1 := (b1.below HB.out b1.lt).lt
      have l2 := (b2.below HB.out b2.lt).lt
      by_cases hne : t.get k = u.get k
      · have HN := Lib.hid hne; clear hne
        have hn' : (t.get k != u.get k) = false := by simp [HN.out]
        go_wp2
        refine wp_region_gro (by kernel_rfl) (by kernel_rfl) ?_
        repeat (first | go_big_quiet_step (fail) | quiet_step (fail))
        refine wpQuiet_nil ?_
        intro w1 hB1
        have HB1 := Lib.hid hB1; clear hB1
        go_wp2
        go_roundw
        case rel => exact ⟨HB.out.trans (HB1.out.mono HB.out.size), k + 1, by omega, by go_num, fun j hj => by
            by_cases e : j = k
            · subst e; exact HN.out
            · exact HA.out j (by omega)⟩
        case measure => simp [intOf]; omega
      · have HN := Lib.hid hne; clear hne
        have hn' : (t.get k != u.get k) = true := by simpa using HN.out
        go_wp2
        refine wp_region_gro (by kernel_rfl) (by kernel_rfl) ?_
        repeat (first | go_big_quiet_step (fail) | quiet_step (fail))
        refine wpQuiet_nil ?_
        intro w1 hB1
        have HB1 := Lib.hid hB1; clear hB1
        go_wp2
        go_ret
        exact ⟨ret_bool (by have : t ≠ u := fun e => HN.out (by rw [e])
                            simp [this]), HE.out.trans (HB1.out.mono HE.out.size)⟩
    · go_wp2
      go_ret
      exact ⟨ret_bool (by simp [eq_of_get hk hlt HA.out]), HE.out⟩
set_option maxHeartbeats 400000 in
theorem isNaN_any (x : Int) (w : World) : Calls Try.prog 127 #[.int .i64 x] w fun e w' => e = .returned (.bool false) ∧ w = w' := by
  have h : (x != x) = false := by simp
  go_enter Try.func127, Try.ntmps127
  go_wp2
  go_ret
  exact ⟨ret_bool (by simp), rfl⟩
set_option maxHeartbeats 400000 in
theorem cmpCompare_any (x y : Int) (w : World) : Calls Try.prog 123 #[.int .i64 x, .int .i64 y] w fun e w' => e = .returned (.int .i64 (cmpI x y)) ∧ w = w' := by
  by_cases h1 : x < y
  · go_enter Try.func123, Try.ntmps123
    go_wp2_with (go_at_call 127; refine (isNaN_any _ _).mono ?_; rintro e w' ⟨rfl, rfl⟩)
    go_ret
    exact ⟨ret_int (by simp [cmpI, h1]), rfl⟩
  · by_cases h2 : y < x
    · go_enter Try.func123, Try.ntmps123
      go_wp2_with (go_at_call 127; refine (isNaN_any _ _).mono ?_; rintro e w' ⟨rfl, rfl⟩)
      go_ret
      exact ⟨ret_int (by simp [cmpI, h1, h2]), rfl⟩
    · go_enter Try.func123, Try.ntmps123
      go_wp2_with (go_at_call 127; refine (isNaN_any _ _).mono ?_; rintro e w' ⟨rfl, rfl⟩)
      go_ret
      exact ⟨ret_int (by unfold cmpI; rw [if_neg (by omega), if_neg (by omega)]), rfl⟩
set_option maxHeartbeats 1000000 in
theorem slicesCompare_any (A A' : Option Addr) (xs ys : List Int) (n m c c' : Nat) (w : World) (hn : n = xs.length) (hm : m = ys.length) (hA : RI w A xs) (hA' : RI w A' ys) (hx : xs.length ≤ 35184372088832) (hy : ys.length ≤ 35184372088832) :
    Calls Try.prog 119 #[.slice A n c, .slice A' m c'] w fun e w' => e = .returned (.int .i64 (cmpL xs ys)) ∧ w = w' := by
  subst hn hm
  have HA := Lib.hid hA; have HA' := Lib.hid hA'; clear hA hA'
  go_enter Try.func119, Try.ntmps119
  go_wp2
  go_loop [11] (fun i => ∃ k : Nat, k ≤ xs.length ∧ k ≤ ys.length ∧ i = .int .i64 k ∧ ∀ j, j < k → ik xs j = ik ys j) (fun i => xs.length - (intOf i).toNat)
  case atStart => exact ⟨0, by omega, by omega, rfl, fun j h => by omega⟩
  case round =>
    obtain ⟨k, hk, hk', rfl, hall⟩ := hrel
    have HALL := Lib.hid hall
    clear hall
    by_cases hlt : k < xs.length
    · obtain ⟨b, o, rfl, hb, h0⟩ := HA.out k hlt
      by_cases hlt' : k < ys.length
      · obtain ⟨b', o', rfl, hb', h0'⟩ := HA'.out k hlt'
        by_cases hc : cmpI (ik xs k) (ik ys k) = 0
        · have HC := Lib.hid hc; clear hc
          go_wp2_with (go_at_call 123; refine (cmpCompare_any _ _ _).mono ?_; rintro e w' ⟨rfl, rfl⟩; rw [HC.out])
          go_round
          case rel => exact ⟨k + 1, by omega, by omega, by go_num, fun j hj => by
            by_cases e : j = k
            · subst e; exact cmpI_zero HC.out
            · exact HALL.out j (by omega)⟩
          case measure => simp [intOf]; omega
        · have HC := Lib.hid hc; clear hc
          have hc1 : (cmpI (ik xs k) (ik ys k) != 0) = true := by simpa using HC.out
          go_wp2_with (go_at_call 123; refine (cmpCompare_any _ _ _).mono ?_; rintro e w' ⟨rfl, rfl⟩)
          go_ret
          exact ⟨ret_int (cmpL_at hlt hlt' HALL.out HC.out), rfl⟩
      · go_wp2
        go_ret
        exact ⟨ret_int (cmpL_more (by omega) fun j hj => HALL.out j (by omega)), rfl⟩
    · by_cases hlt' : xs.length < ys.length
      · go_wp2
        go_ret
        exact ⟨ret_int (by rw [← cmpL_end (by omega) fun j hj => HALL.out j (by omega), if_pos hlt']), rfl⟩
      · go_wp2
        go_ret
        exact ⟨ret_int (by rw [← cmpL_end (by omega) fun j hj => HALL.out j (by omega), if_neg hlt']), rfl⟩
theorem tile_reads {w : World} {t : T4} {b : Nat} {E : TypeId} (h : BK w b t.arr E) : RI w (some ⟨b, 0, none⟩) t.list := by
  intro k hk
  refine ⟨b, 0, rfl, h.lt, ?_⟩
  rw [Nat.zero_add]
  refine h.cell ?_
  have hk4 : k < 4 := by simpa [T4.list] using hk
  rw [t.cell k hk4]
  match k, hk4 with
  | 0, _ => rfl
  | 1, _ => rfl
  | 2, _ => rfl
  | 3, _ => rfl
set_option maxHeartbeats 1000000 in
theorem compare_any (t u : T4) (w : World) :
    Calls Try.prog 105 #[.agg t.arr, .agg u.arr] w fun e w' => e = .returned (.int .i64 (cmpL t.list u.list)) ∧ Below w.heap.size w w' := by
  go_enter Try.func105, Try.ntmps105
  go_wp2
  refine name2 ?_
  intro W1 b1 b2 hz hb0
  have HB0 := Lib.hid hb0; have HZ := Lib.hid hz; clear hb0 hz
  refine wp_region_gro (by kernel_rfl) (by kernel_rfl) ?_
  repeat (first | go_big_quiet_step (((go_at_call 119; exact quiet_call0 (slicesCompare_any _ _ t.list u.list _ _ _ _ _ rfl rfl (tile_reads (b1.below (gro_below _ _) b1.lt)) (tile_reads (b2.below (gro_below _ _) b2.lt)) (by simp [T4.list]) (by simp [T4.list]))))) | quiet_step (((go_at_call 119; exact quiet_call0 (slicesCompare_any _ _ t.list u.list _ _ _ _ _ rfl rfl (tile_reads (b1.below (gro_below _ _) b1.lt)) (tile_reads (b2.below (gro_below _ _) b2.lt)) (by simp [T4.list]) (by simp [T4.list]))))))
  refine wpQuiet_nil ?_
  intro w1 hB1
  have HB1 := Lib.hid hB1; clear hB1
  go_wp2
  go_ret
  exact ⟨rfl, below_to HB0.out HB1.out⟩
end Go.Proofs.Ytenlcakpcbmmdaa
namespace Go.Proofs.Ytenlcakpcbmmdaa
open Go Go.RowKit Go.Proofs
set_option linter.unusedVariables false
set_option linter.unusedSimpArgs false
set_option maxHeartbeats 400000 in
theorem szTileS_any (A : Option Addr) (n c : Nat) (left : Int) (w : World) (hn : n ≤ 35184372088832) (h0 : 0 ≤ left) (hl : left ≤ 1048576) :
    Calls Try.prog 49 #[.slice A n c, .int .i64 left] w fun e w' => e = .returned (.int .i64 (if left < n then -1 else left - n)) ∧ w = w' := by
  by_cases h : (n : Int) ≤ left
  · have h' : ¬ left - n < 0 := by omega
    go_enter Try.func49, Try.ntmps49
    go_wp2
    go_ret
    exact ⟨rfl, rfl⟩
  · have h' : left - n < 0 := by omega
    go_enter Try.func49, Try.ntmps49
    go_wp2
    go_ret
    exact ⟨rfl, rfl⟩
set_option maxHeartbeats 400000 in
theorem szSet_any (C : Int) (A : Option Addr) (n c : Nat) (left : Int) (w : World) (hn : n ≤ 35184372088832) (h0 : 0 ≤ left) (hl : left ≤ 1048576) :
    Calls Try.prog 12 #[.agg #[.int .i64 C, .slice A n c], .int .i64 left] w fun e w' => e = .returned (.int .i64 (if left < n then -1 else left - n)) ∧ Below w.heap.size w w' := by
  by_cases h : (n : Int) ≤ left
  · have h' : ¬ left - n < 0 := by omega
    go_enter Try.func12, Try.ntmps12
    go_wp2_with fail
    refine (szTileS_any _ _ _ _ _ hn h0 hl).mono ?_
    rintro e w' ⟨rfl, rfl⟩
    rw [if_neg (show ¬ left < (n : Int) by omega)]
    go_wp2
    go_ret
    exact ⟨rfl, by simpa using (Below.refl _ _).alloc (Nat.le_refl _) _⟩
  · have h' : left - n < 0 := by omega
    go_enter Try.func12, Try.ntmps12
    go_wp2_with fail
    refine (szTileS_any _ _ _ _ _ hn h0 hl).mono ?_
    rintro e w' ⟨rfl, rfl⟩
    rw [if_pos (show left < (n : Int) by omega)]
    go_wp2
    go_ret
    exact ⟨rfl, by simpa using (Below.refl _ _).alloc (Nat.le_refl _) _⟩
set_option maxHeartbeats 400000 in
theorem toTile_any (t : T4) (w : World) :
    Calls Try.prog 92 #[.agg t.arr] w fun e w' => e = .returned (.agg t.arr) ∧ Below w.heap.size w w' := by
  go_enter Try.func92, Try.ntmps92
  go_wp2
  refine name3 ?_
  intro W1 b1 b2 b3 hz hb0
  have HB0 := Lib.hid hb0; have HZ := Lib.hid hz; clear hb0 hz
  go_loopw [4] (fun i wr => Below (w.heap.size + 2) W1 wr ∧ ∃ k : Nat, k ≤ 4 ∧ i = .int .i64 k ∧ ∃ C, BK wr (w.heap.size + 2) C 77 ∧ C.size = 4 ∧ ∀ j, j < k → C[j]? = some (.int .i64 (t.get j))) (fun i _ => 4 - (intOf i).toNat)
  case atStart => exact ⟨Below.refl _ _, 0, by omega, rfl, _, b3, rfl, fun j h => by omega⟩
  case round =>
    obtain ⟨hB, k, hk, rfl, C, b3', hsz, hall⟩ := hrel
    have HB := Lib.hid hB; have HA := Lib.hid hall; have HS := Lib.hid hsz; clear hB hall hsz
    by_cases hlt : k < 4
    · have hI : (k : Int) < 4 := by omega
      have c1 := (b1.below HB.out (by omega)).cell (t.cell k hlt)
      obtain ⟨x, hx⟩ : ∃ x, C[k]? = some x := ⟨_, Array.getElem?_eq_getElem (by rw [HS.out]; exact hlt)⟩
      have c3 := b3'.cell hx
      have f3 := b3'.frozen k
      go_wp2
      go_roundw
      case rel => exact ⟨HB.out.setCell (by simp) _, k + 1, by omega, by go_num, _, b3'.set k _, by rw [Array.size_setIfInBounds, HS.out], fun j hj => by
          rw [Array.getElem?_setIfInBounds, HS.out]
          by_cases e : k = j
          · subst e; rw [if_pos rfl, if_pos hlt]
          · rw [if_neg e]; exact HA.out j (by omega)⟩
      case measure => simp [intOf]; omega
    · have e4 : k = 4 := by omega
      have a0 := b3'.cell (HA.out 0 (by omega)); have a1 := b3'.cell (HA.out 1 (by omega)); have a2 := b3'.cell (HA.out 2 (by omega)); have a3 := b3'.cell (HA.out 3 (by omega))
      have b2' := b2.below HB.out (by omega)
      have z0 := b2'.cell (k := 0) rfl; have z1 := b2'.cell (k := 1) rfl; have z2 := b2'.cell (k := 2) rfl; have z3 := b2'.cell (k := 3) rfl
      have f0 := b2'.frozen 0; have f1 := b2'.frozen 1; have f2 := b2'.frozen 2; have f3 := b2'.frozen 3
      have HE := Lib.hid e4; clear e4
      go_wp2
      refine bodyPost_ret (v := .agg t.arr) ?_ rfl ⟨rfl, ?_⟩
      · simp [results, Try.results92, go_sem, *, T4.arr]
      · exact ((((HB0.out.trans (HB.out.mono (by omega))).setCell (by simp) _).setCell (by simp) _).setCell (by simp) _).setCell (by simp) _
theorem info77 : (Try.prog.info? 77).map (fun i => (i.zero, i.size, i.bytes)) = some (some (.agg #[.int .i64 0, .int .i64 0, .int .i64 0, .int .i64 0]), 4, 32) := by kernel_rfl
set_option maxHeartbeats 1000000 in
theorem toTileS_any (A : Option Addr) (ts : List T4) (c : Nat) (w : World) (hA : RT w A ts) (hl : ts.length ≤ 1048576) :
    Calls Try.prog 53 #[.slice A ts.length c] w fun e w' => ∃ v, e = .returned v ∧ OT w' w.heap.size 77 v ts ∧ Below w.heap.size w w' := by
  have hmk := make_row (P := Try.prog) 28 77 _ 4 32 Try.underlying28 info77 rfl (by decide) ts.length (by omega)
  have HA := Lib.hid hA; clear hA
  go_enter Try.func53, Try.ntmps53
  go_wp2
  refine name1 ?_
  intro W1 b1 hz hb0
  have HB0 := Lib.hid hb0; have HZ := Lib.hid hz; clear hb0 hz
  go_loopw [4] (fun i wr => Below w.heap.size w wr ∧ ∃ k : Nat, k ≤ ts.length ∧ i = .int .i64 k ∧ ∃ C, BK wr w.heap.size C 77 ∧ C.size = ts.length * 4 ∧ TilesIn C ts k) (fun i _ => ts.length - (intOf i).toNat)
  case atStart => exact ⟨HB0.out, 0, by omega, rfl, _, b1, made_size _ _, fun j h => absurd h (by omega)⟩
  case round =>
    obtain ⟨hB, k, hk, rfl, C, b3, hsz, hall⟩ := hrel
    have hT := HA.out.below hB
    have HB := Lib.hid hB; have HC := Lib.hid hall; have HS := Lib.hid hsz; clear hB hall hsz
    by_cases hlt : k < ts.length
    · obtain ⟨b, o, rfl, hb, h0, h1, h2, h3⟩ := hT k hlt
      clear hT
      go_wp2_with fail
      refine (toTile_any (tk ts k) _).mono ?_
      rintro e w1 ⟨rfl, hB1⟩
      have b3' := b3.below hB1 b3.lt
      have get (j : Nat) (hj : j < 4) : ∃ x, w1.cell? ⟨w.heap.size, k * 4 + j, none⟩ = some x := ⟨_, b3'.cell (Array.getElem?_eq_getElem (by rw [HS.out]; omega))⟩
      obtain ⟨x0, c0⟩ := get 0 (by omega); obtain ⟨x1, c1⟩ := get 1 (by omega); obtain ⟨x2, c2⟩ := get 2 (by omega); obtain ⟨x3, c3⟩ := get 3 (by omega)
      have f0 := b3'.frozen (k * 4); have f1 := b3'.frozen (k * 4 + 1); have f2 := b3'.frozen (k * 4 + 2); have f3 := b3'.frozen (k * 4 + 3)
      have HB1 := Lib.hid hB1; clear hB1 get
      simp only [Nat.add_zero] at c0
      simp only [T4.arr]
      go_wp2
      go_roundw
      case rel => exact ⟨below_set4 (HB.out.trans (HB1.out.mono HB.out.size)) (Nat.le_refl _) _ _ _ _ _, k + 1, by omega, by go_num, _, b3'.setT _ _, by rw [setT_size, HS.out], HC.out.step (by rw [HS.out]; omega)⟩
      case measure => simp [intOf]; omega
    · go_wp2
      go_ret
      exact ⟨_, rfl, OT.of_block b3 (Nat.le_refl _) HS.out (Nat.le_refl _) (by omega) fun k' h' => HC.out k' (by omega), HB.out⟩
set_option maxHeartbeats 1000000 in
theorem toSet_any (C : Int) (A : Option Addr) (ts : List T4) (n c : Nat) (w : World) (hn : n = ts.length) (hA : RT w A ts) (hl : ts.length ≤ 1048576) :
    Calls Try.prog 14 #[.agg #[.int .i64 C, .slice A n c]] w fun e w' => ∃ v, e = .returned (.agg #[.int .i64 C, v]) ∧ OT w' w.heap.size 77 v ts ∧ Below w.heap.size w w' := by
  subst hn
  have HA := Lib.hid hA; clear hA
  go_enter Try.func14, Try.ntmps14
  go_wp2_with fail
  refine namec3 ?_
  intro W1 b1 b2 b3 hz hb0
  refine (toTileS_any A ts c W1 (HA.out.below hb0) hl).mono ?_
  rintro e w1 ⟨v, rfl, hO, hB1⟩
  have b2' := b2.below hB1 b2.lt; have b3' := b3.below hB1 b3.lt
  have HB0 := Lib.hid hb0; have HZ := Lib.hid hz; have HB1 := Lib.hid hB1; have HO := Lib.hid hO; clear hb0 hz hB1 hO
  obtain ⟨A', c', rfl, -, -⟩ := HO.out.reads
  have a0 := b3'.cell (k := 0) rfl; have a1 := b3'.cell (k := 1) rfl
  have z0 := b2'.cell (k := 0) rfl; have z1 := b2'.cell (k := 1) rfl
  have f0 := b2'.frozen 0; have f1 := b2'.frozen 1; have g1 := b3'.frozen 1
  go_wp2
  refine bodyPost_ret (v := .agg #[.int .i64 C, .slice A' ts.length c']) ?_ rfl ⟨_, rfl, ?_, ?_⟩
  · simp [results, Try.results14, go_sem, z0, z1, f0, f1]
  · have hz := HZ.out
    exact own_base (ownsRow_setCell_below (ownsRow_setCell_below (ownsRow_setCell_below HO.out (by simp; omega) _) (by simp; omega) _) (by simp; omega) _) (by omega)
  · exact (((HB0.out.trans (HB1.out.mono HB0.out.size)).setCell (by simp; omega) _).setCell (by simp) _).setCell (by simp) _
set_option maxHeartbeats 1000000 in
theorem eqTileS_any (A A' : Option Addr) (ts us : List T4) (n m c c' : Nat) (w : World) (hn : n = ts.length) (hm : m = us.length) (hA : RT w A ts) (hA' : RT w A' us) (hl : ts.length ≤ 35184372088832) (hl' : us.length ≤ 35184372088832) :
    Calls Try.prog 59 #[.slice A n c, .slice A' m c'] w fun e w' => e = .returned (.bool (decide (ts = us))) ∧ Below w.heap.size w w' := by
  have HA := Lib.hid hA; have HA' := Lib.hid hA'; clear hA hA'
  by_cases hlen : n = m
  · have HL := Lib.hid (show ts.length = us.length by omega); have HN := Lib.hid hn; have HM := Lib.hid hlen
    have h1 : ((n : Int) != m) = false := by simp [hlen]
    have hn0 : n ≤ 35184372088832 := by omega
    clear hlen hn hm
    go_enter Try.func59, Try.ntmps59
    go_wp2
    go_loopw [5] (fun i wr => Below w.heap.size w wr ∧ ∃ k : Nat, k ≤ n ∧ i = .int .i64 k ∧ ∀ j, j < k → tk ts j = tk us j) (fun i _ => n - (intOf i).toNat)
    case atStart => exact ⟨Below.refl _ _, 0, by omega, rfl, fun j h => absurd h (by omega)⟩
    case round =>
      obtain ⟨hB, k, hk, rfl, hall⟩ := hrel
      have hT := HA.out.below hB
      have hT' := HA'.out.below hB
      have HB := Lib.hid hB; have HALL := Lib.hid hall; clear hB hall
      by_cases hlt : k < n
      · obtain ⟨b, o, rfl, hb, h0, h1, h2, h3⟩ := hT k (by have := HN.out; omega)
        obtain ⟨b', o', rfl, hb', h0', h1', h2', h3'⟩ := hT' k (by have := HN.out; have := HL.out; omega)
        have i1 : (k : Int) < n := by omega
        have i2 : (k : Int) < m := by have := HM.out; omega
        clear hT hT'
        by_cases he : tk ts k = tk us k
        · have HE := Lib.hid (show decide (tk ts k = tk us k) = true by simpa using he); clear he
          go_wp2
          refine wp_region_gro (by kernel_rfl) (by kernel_rfl) ?_
          repeat (first | go_big_quiet_step (((go_at_call 93; exact quiet_call (by have h := eqTile_any (tk ts k) (tk us k) (gro wr ‹GP›); rw [HE.out] at h; exact h)))) | quiet_step (((go_at_call 93; exact quiet_call (by have h := eqTile_any (tk ts k) (tk us k) (gro wr ‹GP›); rw [HE.out] at h; exact h)))))
          refine wpQuiet_nil ?_
          intro w1 hB1
          have HB1 := Lib.hid hB1; clear hB1
          go_wp2
          go_roundw
          case rel => exact ⟨HB.out.trans (HB1.out.mono HB.out.size), k + 1, by omega, by go_num, fun j hj => by
            by_cases e : j = k
            · subst e; exact of_decide_eq_true HE.out
            · exact HALL.out j (by omega)⟩
          case measure => simp [intOf]; omega
        · have HE := Lib.hid (show decide (tk ts k = tk us k) = false by simpa using he); clear he
          go_wp2
          refine wp_region_gro (by kernel_rfl) (by kernel_rfl) ?_
          repeat (first | go_big_quiet_step (((go_at_call 93; exact quiet_call (by have h := eqTile_any (tk ts k) (tk us k) (gro wr ‹GP›); rw [HE.out] at h; exact h)))) | quiet_step (((go_at_call 93; exact quiet_call (by have h := eqTile_any (tk ts k) (tk us k) (gro wr ‹GP›); rw [HE.out] at h; exact h)))))
          refine wpQuiet_nil ?_
          intro w1 hB1
          have HB1 := Lib.hid hB1; clear hB1
          go_wp2
          go_ret
          exact ⟨ret_bool (by have : ts ≠ us := fun e => of_decide_eq_false HE.out (by rw [e])
                              simp [this]), HB.out.trans (HB1.out.mono HB.out.size)⟩
      · go_wp2
        go_ret
        exact ⟨ret_bool (by have : ts = us := eq_of_tk HL.out fun j hj => HALL.out j (by have := HN.out; omega)
                            simp [this]), HB.out⟩
  · have h1 : ((n : Int) != m) = true := by simp; omega
    have HL := Lib.hid (show ts.length ≠ us.length by omega); clear hlen hn hm
    go_enter Try.func59, Try.ntmps59
    go_wp2
    go_ret
    exact ⟨ret_bool (by have : ts ≠ us := fun e => HL.out (by rw [e])
                        simp [this]), Below.refl _ _⟩
set_option maxHeartbeats 1000000 in
theorem eqSet_any (C D : Int) (A A' : Option Addr) (ts us : List T4) (n m c c' : Nat) (w : World) (hn : n = ts.length) (hm : m = us.length) (hA : RT w A ts) (hA' : RT w A' us) (hl : ts.length ≤ 35184372088832) (hl' : us.length ≤ 35184372088832) :
    Calls Try.prog 16 #[.agg #[.int .i64 C, .slice A n c], .agg #[.int .i64 D, .slice A' m c']] w fun e w' => e = .returned (.bool (decide (C = D) && decide (ts = us))) ∧ Below w.heap.size w w' := by
  have HA := Lib.hid hA; have HA' := Lib.hid hA'; clear hA hA'
  by_cases hC : C = D
  · have HC := Lib.hid hC; clear hC
    have h1 : (C != D) = false := by simp [HC.out]
    have HN := Lib.hid hn; have HM := Lib.hid hm; clear hn hm
    cases hb : decide (ts = us)
    all_goals
      have HT := Lib.hid hb; clear hb
      go_enter Try.func16, Try.ntmps16
      go_wp2_with fail
      refine namec2 ?_
      intro W1 b1 b2 hz hb0
      refine (eqTileS_any A A' ts us n m c c' W1 HN.out HM.out (HA.out.below hb0) (HA'.out.below hb0) hl hl').mono ?_
      rintro e w1 ⟨rfl, hB1⟩
      rw [HT.out]
      have HB0 := Lib.hid hb0; have HB1 := Lib.hid hB1; clear hb0 hB1 hz b1 b2
      go_wp2
      go_ret
      exact ⟨ret_bool (by simp [HC.out]), below_to HB0.out HB1.out⟩
  · have HC := Lib.hid hC; clear hC
    have h1 : (C != D) = true := by simpa using HC.out
    clear hn hm
    go_enter Try.func16, Try.ntmps16
    go_wp2
    go_ret
    exact ⟨ret_bool (by simp [HC.out]), ((Below.refl _ _).alloc (Nat.le_refl _) _).alloc (by simp) _⟩
end Go.Proofs.Ytenlcakpcbmmdaa
namespace Go.Proofs.Ytenlcakpcbmmdaa
open Go Go.RowKit Go.Proofs
set_option linter.unusedVariables false
set_option linter.unusedSimpArgs false
theorem isS_of {c : Int} {ts : List T4} (h1 : inB c 1 6 = true) (h2 : ts.length ≤ 16) (h3 : OkS c ts) : isS c ts = true := isS_iff.2 ⟨inB_iff.1 h1, h2, h3⟩
theorem isS_c {c : Int} {ts : List T4} (h1 : inB c 1 6 = false) : isS c ts = false := by simp [isS, h1]
theorem isS_len {c : Int} {ts : List T4} (h1 : 16 < ts.length) : isS c ts = false := by
  have : decide (ts.length ≤ 16) = false := by simp; omega
  simp [isS, this]
theorem isS_ok {c : Int} {ts : List T4} (h : ¬ OkS c ts) : isS c ts = false := by
  have : okB c ts = false := by rw [← Bool.not_eq_true, okB_iff]; exact h
  simp [isS, this]
set_option maxHeartbeats 2000000 in
theorem l01Is_any (C : Int) (A : Option Addr) (ts : List T4) (n c : Nat) (w : World) (hn : n = ts.length) (hA : RT w A ts) (hl : n ≤ 35184372088832) :
    Calls Try.prog 74 #[.agg #[.int .i64 C, .slice A n c]] w fun e w' => e = .returned (.bool (isS C ts)) ∧ Below w.heap.size w w' := by
  have HA := Lib.hid hA; have HN := Lib.hid hn; clear hA hn
  cases hC : inB C 1 6
  · have HC := Lib.hid hC; clear hC
    go_enter Try.func74, Try.ntmps74
    go_wp2_with (go_at_call 90; refine (l01In_any _ _ _ _).mono ?_; rintro e w' ⟨rfl, rfl⟩; rw [HC.out])
    go_ret
    exact ⟨ret_bool (isS_c HC.out).symm, by simpa using (Below.refl _ _).alloc (Nat.le_refl _) _⟩
  · have HC := Lib.hid hC; clear hC
    obtain ⟨hc1, hc2⟩ := inB_iff.1 HC.out
    by_cases h16 : n ≤ 16
    · go_enter Try.func74, Try.ntmps74
      go_wp2_with (go_at_call 90; refine (l01In_any _ _ _ _).mono ?_; rintro e w' ⟨rfl, rfl⟩; rw [HC.out])
      refine name1 ?_
      intro W1 b1 hz hb0
      have HB0 := Lib.hid hb0; have HZ := Lib.hid hz; clear hb0 hz
      go_loopw [3] (fun i wr => Below W1.heap.size W1 wr ∧ ∃ k : Nat, k ≤ n ∧ i = .int .i64 k ∧ ∀ j, j < k → tileB (tk ts j) (C - 1) = true ∧ (0 < j → ltT (tk ts (j - 1)) (tk ts j) = true)) (fun i _ => n - (intOf i).toNat)
      case atStart => exact ⟨Below.refl _ _, 0, by omega, rfl, fun j h => absurd h (by omega)⟩
      case round =>
        obtain ⟨hB, k, hk, rfl, hall⟩ := hrel
        have b1' := b1.below hB b1.lt
        have HE := Lib.hid (below_to HB0.out hB)
        have hT := HA.out.below HE.out
        have HB := Lib.hid hB; have HALL := Lib.hid hall; clear hB hall
        have a0 : wr.cell? ⟨w.heap.size, 0, none⟩ = some (.int .i64 C) := b1'.cell rfl
        have a1 : wr.cell? ⟨w.heap.size, 1, none⟩ = some (.slice A n c) := b1'.cell rfl
        have l1 := b1'.lt
        have hw1 : wrap64 (C - 1) = C - 1 := by unfold wrap64; omega
        by_cases hlt : k < n
        · have i1 : (k : Int) < n := by omega
          have HK := Lib.hid (show k < ts.length by have := HN.out; omega)
          cases ht : tileB (tk ts k) (C - 1)
          · have HT := Lib.hid (show tileB (tk ts k) (wrap64 (C - 1)) = false by rw [hw1]; exact ht); clear ht hw1
            obtain ⟨b, o, rfl, hb, h0, h1, h2, h3⟩ := hT k HK.out
            clear hT
            go_wp2_with fail
            refine wp_region_gro (by kernel_rfl) (by kernel_rfl) ?_
            repeat (first | go_big_quiet_step (((go_at_call 101; exact quiet_call (by have h := l01Tile_any C (tk ts k) (gro wr ‹GP›); rw [HT.out] at h; exact h)))) | quiet_step (((go_at_call 101; exact quiet_call (by have h := l01Tile_any C (tk ts k) (gro wr ‹GP›); rw [HT.out] at h; exact h)))))
            refine wpQuiet_nil ?_
            intro w1 hB1
            have HB1 := Lib.hid hB1; clear hB1
            go_wp2
            go_ret
            exact ⟨ret_bool (isS_ok fun h => by have := (h k HK.out).1; have h2 := HT.out; rw [show wrap64 (C - 1) = C - 1 by unfold wrap64; omega] at h2; rw [h2] at this; cases this).symm, below_to HE.out HB1.out⟩
          · have HT := Lib.hid (show tileB (tk ts k) (wrap64 (C - 1)) = true by rw [hw1]; exact ht)
            have HT2 := Lib.hid ht
            clear ht hw1
            cases k with
            | zero =>
              obtain ⟨b, o, rfl, hb, h0, h1, h2, h3⟩ := hT 0 HK.out
              simp only [Nat.zero_mul, Nat.add_zero] at h0 h1 h2 h3
              clear hT
              go_wp2_with fail
              refine wp_region_gro (by kernel_rfl) (by kernel_rfl) ?_
              repeat (first | go_big_quiet_step (((go_at_call 101; exact quiet_call (by have h := l01Tile_any C (tk ts 0) (gro wr ‹GP›); rw [HT.out] at h; exact h)))) | quiet_step (((go_at_call 101; exact quiet_call (by have h := l01Tile_any C (tk ts 0) (gro wr ‹GP›); rw [HT.out] at h; exact h)))))
              refine wpQuiet_nil ?_
              intro w1 hB1
              have HB1 := Lib.hid hB1; clear hB1
              go_wp2
              go_roundw
              case rel => exact ⟨below_to HB.out HB1.out, 0 + 1, by omega, by go_num, fun j hj => by
                  obtain rfl : j = 0 := by omega
                  exact ⟨HT2.out, fun h => absurd h (by omega)⟩⟩
              case measure => simp [intOf]; omega
            | succ k =>
              obtain ⟨b, o, hA', hb, h0, h1, h2, h3⟩ := hT (k + 1) HK.out
              obtain ⟨b', o', hA'', hb', h0', h1', h2', h3'⟩ := hT k (by have := HK.out; omega)
              subst hA'
              obtain ⟨rfl, rfl⟩ : b = b' ∧ o = o' := by injection hA'' with e; injection e with e1 e2; exact ⟨e1, e2⟩
              clear hT hA''
              have i0 : (k : Int) < n := by omega
              cases hlT : ltT (tk ts k) (tk ts (k + 1))
              · have HL := Lib.hid hlT; clear hlT
                go_wp2_with fail
                refine wp_region_gro (by kernel_rfl) (by kernel_rfl) ?_
                repeat (first | go_big_quiet_step (((first | (go_at_call 101; exact quiet_call (by have h := l01Tile_any C (tk ts (k + 1)) (gro wr ‹GP›); rw [HT.out] at h; exact h)) | (go_at_call 102; exact quiet_call (by have h := l01Before_any (tk ts k) (tk ts (k + 1)) (gro wr ‹GP›); rw [HL.out] at h; exact h))))) | quiet_step (((first | (go_at_call 101; exact quiet_call (by have h := l01Tile_any C (tk ts (k + 1)) (gro wr ‹GP›); rw [HT.out] at h; exact h)) | (go_at_call 102; exact quiet_call (by have h := l01Before_any (tk ts k) (tk ts (k + 1)) (gro wr ‹GP›); rw [HL.out] at h; exact h))))))
                refine wpQuiet_nil ?_
                intro w1 hB1
                have HB1 := Lib.hid hB1; clear hB1
                go_wp2
                go_ret
                exact ⟨ret_bool (isS_ok fun h => by have := (h (k + 1) HK.out).2 (by omega); rw [Nat.add_sub_cancel, HL.out] at this; cases this).symm, below_to HE.out HB1.out⟩
              · have HL := Lib.hid hlT; clear hlT
                go_wp2_with fail
                refine wp_region_gro (by kernel_rfl) (by kernel_rfl) ?_
                repeat (first | go_big_quiet_step (((first | (go_at_call 101; exact quiet_call (by have h := l01Tile_any C (tk ts (k + 1)) (gro wr ‹GP›); rw [HT.out] at h; exact h)) | (go_at_call 102; exact quiet_call (by have h := l01Before_any (tk ts k) (tk ts (k + 1)) (gro wr ‹GP›); rw [HL.out] at h; exact h))))) | quiet_step (((first | (go_at_call 101; exact quiet_call (by have h := l01Tile_any C (tk ts (k + 1)) (gro wr ‹GP›); rw [HT.out] at h; exact h)) | (go_at_call 102; exact quiet_call (by have h := l01Before_any (tk ts k) (tk ts (k + 1)) (gro wr ‹GP›); rw [HL.out] at h; exact h))))))
                refine wpQuiet_nil ?_
                intro w1 hB1
                have HB1 := Lib.hid hB1; clear hB1
                go_wp2
                go_roundw
                case rel => exact ⟨below_to HB.out HB1.out, k + 1 + 1, by omega, by go_num, fun j hj => by
                    by_cases e : j = k + 1
                    · subst e; exact ⟨HT2.out, fun _ => by rw [Nat.add_sub_cancel]; exact HL.out⟩
                    · exact HALL.out j (by omega)⟩
                case measure => simp [intOf]; omega
        · go_wp2_with fail
          go_ret
          exact ⟨ret_bool (isS_of HC.out (by have := HN.out; omega) fun j hj => HALL.out j (by have := HN.out; omega)).symm, HE.out⟩
    · go_enter Try.func74, Try.ntmps74
      go_wp2_with (go_at_call 90; refine (l01In_any _ _ _ _).mono ?_; rintro e w' ⟨rfl, rfl⟩; rw [HC.out])
      go_ret
      exact ⟨ret_bool (isS_len (by have := HN.out; omega)).symm, by simpa using (Below.refl _ _).alloc (Nat.le_refl _) _⟩
set_option maxHeartbeats 400000 in
theorem isTile1_any (x c : Int) (B : Nat) (w : World) (hc : w.cell? ⟨B, 0, none⟩ = some (.int .i64 c)) :
    Calls Try.prog 118 #[.int .i64 x, .pointer (some ⟨B, 0, none⟩)] w fun e w' => e = .returned (.bool (!inB x 0 (wrap64 (c-1)))) ∧ w = w' := by
  go_enter Try.func118, Try.ntmps118
  go_wp2_with (go_at_call 56; refine (within_any _ _ _ _).mono ?_; rintro e w' ⟨rfl, rfl⟩)
  all_goals go_ret
  all_goals exact ⟨rfl, rfl⟩
def PredI (P : Program) (g : FuncId) (cap : Array Value) (p : Int → Bool) (w : World) : Prop :=
  ∀ (W : World) (x : Int), Below w.heap.size w W → Calls P g (#[.int .i64 x] ++ cap) W fun e w' => e = .returned (.bool (p x)) ∧ Below W.heap.size W w'
def idxL {α : Type} (p : α → Bool) (xs : List α) : Int := match xs.findIdx? p with | some i => i | none => -1
theorem idxL_at {α : Type} {p : α → Bool} {xs : List α} {k : Nat} (hk : k < xs.length) (h : ∀ j (hj : j < xs.length), j < k → p xs[j] = false) (hp : p xs[k] = true) : (k : Int) = idxL p xs := by
  have : xs.findIdx? p = some k := by
    rw [List.findIdx?_eq_some_iff_getElem]
    exact ⟨hk, hp, fun j hj => by simp [h j (by omega) hj]⟩
  simp [idxL, this]
theorem idxL_none {α : Type} {p : α → Bool} {xs : List α} (h : ∀ j (hj : j < xs.length), p xs[j] = false) : (-1 : Int) = idxL p xs := by
  have : xs.findIdx? p = none := by
    rw [List.findIdx?_eq_none_iff]
    intro x hx
    obtain ⟨j, hj, rfl⟩ := List.getElem_of_mem hx
    exact h j hj
  simp [idxL, this]
theorem idxL_any {α : Type} {p : α → Bool} {xs : List α} : decide (0 ≤ idxL p xs) = xs.any p := by
  unfold idxL
  cases h : xs.findIdx? p with
  | none =>
    rw [List.findIdx?_eq_none_iff] at h
    have : xs.any p = false := by rw [List.any_eq_false]; simpa using h
    simp [this]
  | some i =>
    rw [List.findIdx?_eq_some_iff_getElem] at h
    have : xs.any p = true := List.any_eq_true.2 ⟨_, List.getElem_mem h.1, h.2.1⟩
    simp [this]
theorem ik_get {xs : List Int} {k : Nat} (h : k < xs.length) : xs[k] = ik xs k := by simp [ik, h]
end Go.Proofs.Ytenlcakpcbmmdaa
namespace Go.Proofs.Ytenlcakpcbmmdaa
open Go Go.RowKit Go.Proofs
set_option linter.unusedVariables false
set_option linter.unusedSimpArgs false
set_option maxHeartbeats 1000000 in
theorem IndexFuncI_any (A : Option Addr) (xs : List Int) (n c : Nat) (g : FuncId) (cap : Array Value) (p : Int → Bool) (w : World) (hn : n = xs.length) (hA : RI w A xs) (hl : n ≤ 35184372088832)
    (eg : ∀ args w, (callFunc g args).run Try.prog w = .ok (.enter g args) w) (hp : PredI Try.prog g cap p w) :
    Calls Try.prog 113 #[.slice A n c, .func (.func g) #[] cap] w fun e w' => e = .returned (.int .i64 (idxL p xs)) ∧ Below w.heap.size w w' := by
  have HA := Lib.hid hA; have HN := Lib.hid hn; have HP := Lib.hid hp; clear hA hn hp
  go_enter Try.func113, Try.ntmps113
  go_wp2_with fail
  go_loopw [8] (fun i wr => Below w.heap.size w wr ∧ ∃ k : Nat, k ≤ n ∧ i = .int .i64 k ∧ ∀ j (hj : j < xs.length), j < k → p xs[j] = false) (fun i _ => n - (intOf i).toNat)
  case atStart => exact ⟨Below.refl _ _, 0, by omega, rfl, fun j _ h => absurd h (by omega)⟩
  case round =>
    obtain ⟨hB, k, hk, rfl, hall⟩ := hrel
    have hT := HA.out.below hB
    have HB := Lib.hid hB; have HALL := Lib.hid hall; clear hB hall
    by_cases hlt : k < n
    · have i1 : (k : Int) < n := by omega
      have HK := Lib.hid (show k < xs.length by have := HN.out; omega)
      obtain ⟨b, o, rfl, hb, h0⟩ := hT k HK.out
      clear hT
      cases hpk : p (ik xs k)
      · have HX := Lib.hid hpk; clear hpk
        go_wp2_with fail
        refine (HP.out wr (ik xs k) HB.out).mono ?_
        rintro e w1 ⟨rfl, hB1⟩
        rw [HX.out]
        have HB1 := Lib.hid hB1; clear hB1
        go_wp2_with fail
        go_roundw
        case rel => exact ⟨below_to HB.out HB1.out, k + 1, by omega, by go_num, fun j hj hj' => by
            by_cases e : j = k
            · subst e; rw [ik_get]; exact HX.out
            · exact HALL.out j hj (by omega)⟩
        case measure => simp [intOf]; omega
      · have HX := Lib.hid hpk; clear hpk
        go_wp2_with fail
        refine (HP.out wr (ik xs k) HB.out).mono ?_
        rintro e w1 ⟨rfl, hB1⟩
        rw [HX.out]
        have HB1 := Lib.hid hB1; clear hB1
        go_wp2_with fail
        go_ret
        exact ⟨ret_int (idxL_at HK.out HALL.out (by rw [ik_get]; exact HX.out)), below_to HB.out HB1.out⟩
    · go_wp2_with fail
      go_ret
      exact ⟨ret_int (idxL_none fun j hj => HALL.out j hj (by have := HN.out; omega)), HB.out⟩
set_option maxHeartbeats 1000000 in
theorem ContainsFuncI_any (A : Option Addr) (xs : List Int) (n c : Nat) (g : FuncId) (cap : Array Value) (p : Int → Bool) (w : World) (hn : n = xs.length) (hA : RI w A xs) (hl : n ≤ 35184372088832)
    (eg : ∀ args w, (callFunc g args).run Try.prog w = .ok (.enter g args) w) (hp : PredI Try.prog g cap p w) :
    Calls Try.prog 95 #[.slice A n c, .func (.func g) #[] cap] w fun e w' => e = .returned (.bool (xs.any p)) ∧ Below w.heap.size w w' := by
  have EG := Lib.hid eg; clear eg
  have HA := Lib.hid hA; have HN := Lib.hid hn; have HP := Lib.hid hp; clear hA hn hp
  go_enter Try.func95, Try.ntmps95
  go_wp2_with fail
  refine (IndexFuncI_any A xs n c g cap p w HN.out HA.out hl EG.out HP.out).mono ?_
  rintro e w1 ⟨rfl, hB1⟩
  have HB1 := Lib.hid hB1; clear hB1
  go_wp2_with fail
  go_ret
  exact ⟨ret_bool idxL_any, HB1.out⟩
theorem any_tile {t : T4} {hi : Int} : (!t.list.any fun x => !inB x 0 hi) = tileB t hi := by
  simp [T4.list, tileB, Bool.not_or, Bool.and_assoc]
theorem isTile_any (t : T4) (c : Int) (w : World) :
    Calls Try.prog 104 #[.agg t.arr, .int .i64 c] w fun e w' => e = .returned (.bool (tileB t (wrap64 (c-1)))) ∧ Below w.heap.size w w' := by
  go_enter Try.func104, Try.ntmps104
  go_wp2_with fail
  refine namec2 ?_
  intro W1 b1 b2 hz hb0
  refine (ContainsFuncI_any _ t.list 4 4 118 #[.pointer (some ⟨w.heap.size + 1, 0, none⟩)] (fun x => !inB x 0 (wrap64 (c - 1))) W1 rfl (tile_reads b1) (by omega) (enters_of Try.func118 (by kernel_rfl) rfl) ?_).mono ?_
  · intro W x hW
    refine (isTile1_any x c _ W (cell_to hW (b2.cell rfl))).mono ?_
    rintro e w' ⟨rfl, rfl⟩
    exact ⟨rfl, Below.refl _ _⟩
  rintro e w1 ⟨rfl, hB1⟩
  have HB0 := Lib.hid hb0; have HB1 := Lib.hid hB1; clear hb0 hB1 hz b1 b2
  go_wp2_with fail
  go_ret
  exact ⟨ret_bool any_tile, below_to HB0.out HB1.out⟩
theorem wrap_m1 (c : Int) (h : inB c 1 6 = true) : wrap64 (c - 1) = c - 1 := by
  obtain ⟨h1, h2⟩ := inB_iff.1 h
  unfold wrap64; omega
def OkW (c : Int) (ts : List T4) (k : Nat) : Prop := ∀ j, j < k → tileB (tk ts j) (wrap64 (c - 1)) = true ∧ (0 < j → ltT (tk ts (j - 1)) (tk ts j) = true)
theorem isS_notOk {c : Int} {ts : List T4} {k : Nat} (hk : k < ts.length) (h : tileB (tk ts k) (wrap64 (c - 1)) = false ∨ (0 < k ∧ ltT (tk ts (k - 1)) (tk ts k) = false)) : isS c ts = false := by
  by_cases hc : inB c 1 6 = true
  · refine isS_ok fun ho => ?_
    obtain ⟨h1, h2⟩ := ho k hk
    rw [wrap_m1 c hc] at h
    rcases h with h | ⟨h0, h⟩
    · rw [h] at h1; cases h1
    · rw [h2 h0] at h; cases h
  · exact isS_c (by simpa using hc)
theorem isS_end {c : Int} {ts : List T4} (h : OkW c ts ts.length) : (inB c 1 6 && decide (ts.length ≤ 16)) = isS c ts := by
  by_cases hc : inB c 1 6 = true
  · have : okB c ts = true := (okB_iff c ts).2 fun k hk => by have := h k hk; rwa [wrap_m1 c hc] at this
    simp [isS, this]
  · simp [isS, hc]
set_option maxHeartbeats 2000000 in
theorem IsSet_any (C : Int) (A : Option Addr) (ts : List T4) (n c : Nat) (w : World) (hn : n = ts.length) (hA : RT w A ts) (hl : n ≤ 35184372088832) :
    Calls Try.prog 76 #[.agg #[.int .i64 C, .slice A n c]] w fun e w' => e = .returned (.bool (isS C ts)) ∧ Below w.heap.size w w' := by
  have HA := Lib.hid hA; have HN := Lib.hid hn; clear hA hn
  go_enter Try.func76, Try.ntmps76
  go_wp2_with fail
  refine name1 ?_
  intro W1 b1 hz hb0
  have HB0 := Lib.hid hb0; have HZ := Lib.hid hz; clear hb0 hz
  go_loopw [8] (fun i wr => Below W1.heap.size W1 wr ∧ ∃ k : Nat, k ≤ n ∧ i = .int .i64 k ∧ OkW C ts k) (fun i _ => n - (intOf i).toNat)
  case atStart => exact ⟨Below.refl _ _, 0, by omega, rfl, fun j h => absurd h (by omega)⟩
  case round =>
    obtain ⟨hB, k, hk, rfl, hall⟩ := hrel
    have b1' := b1.below hB b1.lt
    have HE := Lib.hid (below_to HB0.out hB)
    have hT := HA.out.below HE.out
    have HB := Lib.hid hB; have HALL := Lib.hid hall; clear hB hall
    have a0 : wr.cell? ⟨w.heap.size, 0, none⟩ = some (.int .i64 C) := b1'.cell rfl
    have a1 : wr.cell? ⟨w.heap.size, 1, none⟩ = some (.slice A n c) := b1'.cell rfl
    have l1 := b1'.lt
    by_cases hlt : k < n
    · have i1 : (k : Int) < n := by omega
      have HK := Lib.hid (show k < ts.length by have := HN.out; omega)
      cases ht : tileB (tk ts k) (wrap64 (C - 1))
      · have HT := Lib.hid ht; clear ht
        obtain ⟨b, o, hA', hb, h0, h1, h2, h3⟩ := hT k HK.out
        subst hA'
        clear hT
        go_wp2_with fail
        refine name1 ?_
        intro W2 b2 hz2 hb2
        have A0 := cell_to hb2 a0; have A1 := cell_to hb2 a1; have L1 := lt_to hb2 l1; have L2 := lt_to hb2 hb
        have H0 := cell_to hb2 h0; have H1 := cell_to hb2 h1; have H2 := cell_to hb2 h2; have H3 := cell_to hb2 h3
        have c0 : W2.cell? ⟨wr.heap.size, 0, none⟩ = some (.int .i64 ((tk ts k).get 0)) := b2.cell rfl
        have c1 : W2.cell? ⟨wr.heap.size, 1, none⟩ = some (.int .i64 ((tk ts k).get 1)) := b2.cell rfl
        have c2 : W2.cell? ⟨wr.heap.size, 2, none⟩ = some (.int .i64 ((tk ts k).get 2)) := b2.cell rfl
        have c3 : W2.cell? ⟨wr.heap.size, 3, none⟩ = some (.int .i64 ((tk ts k).get 3)) := b2.cell rfl
        have L3 := b2.lt
        have HE2 := Lib.hid (below_to HE.out hb2); have HB2 := Lib.hid (below_to HB.out hb2)
        clear hb2 hz2 b2 a0 a1 l1 h0 h1 h2 h3 hb
        refine wp_region_gro (by kernel_rfl) (by kernel_rfl) ?_
        repeat (first | go_big_quiet_step (((go_at_call 104; exact quiet_call (by have h := isTile_any (tk ts k) C (gro W2 ‹GP›); rw [HT.out] at h; exact h)))) | quiet_step (((go_at_call 104; exact quiet_call (by have h := isTile_any (tk ts k) C (gro W2 ‹GP›); rw [HT.out] at h; exact h)))))
        refine wpQuiet_nil ?_
        intro w1 hB1
        have HB1 := Lib.hid hB1; clear hB1
        go_wp2_with fail
        go_ret
        exact ⟨ret_bool (isS_notOk HK.out (.inl HT.out)).symm, below_to HE2.out HB1.out⟩
      · have HT := Lib.hid ht; clear ht
        cases k with
        | zero =>
          obtain ⟨b, o, hA', hb, h0, h1, h2, h3⟩ := hT 0 HK.out
          simp only [Nat.zero_mul, Nat.add_zero] at h0 h1 h2 h3
          subst hA'
          clear hT
          go_wp2_with fail
          refine name1 ?_
          intro W2 b2 hz2 hb2
          have A0 := cell_to hb2 a0; have A1 := cell_to hb2 a1; have L1 := lt_to hb2 l1; have L2 := lt_to hb2 hb
          have H0 := cell_to hb2 h0; have H1 := cell_to hb2 h1; have H2 := cell_to hb2 h2; have H3 := cell_to hb2 h3
          have c0 : W2.cell? ⟨wr.heap.size, 0, none⟩ = some (.int .i64 ((tk ts 0).get 0)) := b2.cell rfl
          have c1 : W2.cell? ⟨wr.heap.size, 1, none⟩ = some (.int .i64 ((tk ts 0).get 1)) := b2.cell rfl
          have c2 : W2.cell? ⟨wr.heap.size, 2, none⟩ = some (.int .i64 ((tk ts 0).get 2)) := b2.cell rfl
          have c3 : W2.cell? ⟨wr.heap.size, 3, none⟩ = some (.int .i64 ((tk ts 0).get 3)) := b2.cell rfl
          have L3 := b2.lt
          have HE2 := Lib.hid (below_to HE.out hb2); have HB2 := Lib.hid (below_to HB.out hb2)
          clear hb2 hz2 b2 a0 a1 l1 h0 h1 h2 h3 hb
          refine wp_region_gro (by kernel_rfl) (by kernel_rfl) ?_
          repeat (first | go_big_quiet_step (((go_at_call 104; exact quiet_call (by have h := isTile_any (tk ts 0) C (gro W2 ‹GP›); rw [HT.out] at h; exact h)))) | quiet_step (((go_at_call 104; exact quiet_call (by have h := isTile_any (tk ts 0) C (gro W2 ‹GP›); rw [HT.out] at h; exact h)))))
          refine wpQuiet_nil ?_
          intro w1 hB1
          have HB1 := Lib.hid hB1; clear hB1
          go_wp2_with fail
          go_roundw
          case rel => exact ⟨below_to HB2.out HB1.out, 0 + 1, by omega, by go_num, fun j hj => by
              obtain rfl : j = 0 := by omega
              exact ⟨HT.out, fun h => absurd h (by omega)⟩⟩
          case measure => simp [intOf]; omega
        | succ k =>
          obtain ⟨b, o, hA', hb, h0, h1, h2, h3⟩ := hT (k + 1) HK.out
          obtain ⟨b', o', hA'', hb', h0', h1', h2', h3'⟩ := hT k (by have := HK.out; omega)
          subst hA'
          obtain ⟨rfl, rfl⟩ : b = b' ∧ o = o' := by injection hA'' with e; injection e with e1 e2; exact ⟨e1, e2⟩
          clear hT hA'' hb'
          have i0 : (k : Int) < n := by omega
          cases hlT : ltT (tk ts k) (tk ts (k + 1))
          · have HL := Lib.hid hlT
            have hge : 0 ≤ cmpL (tk ts k).list (tk ts (k + 1)).list := by
              have : ¬ cmpL (tk ts k).list (tk ts (k + 1)).list < 0 := fun h => by rw [cmp_lt.1 h] at hlT; cases hlT
              omega
            clear hlT
            go_wp2_with fail
            refine name1 ?_
            intro W2 b2 hz2 hb2
            have A0 := cell_to hb2 a0; have A1 := cell_to hb2 a1; have L1 := lt_to hb2 l1; have L2 := lt_to hb2 hb
            have H0' := cell_to hb2 h0'; have H1' := cell_to hb2 h1'; have H2' := cell_to hb2 h2'; have H3' := cell_to hb2 h3'
            have H0 := cell_to hb2 h0; have H1 := cell_to hb2 h1; have H2 := cell_to hb2 h2; have H3 := cell_to hb2 h3
            have c0 : W2.cell? ⟨wr.heap.size, 0, none⟩ = some (.int .i64 ((tk ts (k + 1)).get 0)) := b2.cell rfl
            have c1 : W2.cell? ⟨wr.heap.size, 1, none⟩ = some (.int .i64 ((tk ts (k + 1)).get 1)) := b2.cell rfl
            have c2 : W2.cell? ⟨wr.heap.size, 2, none⟩ = some (.int .i64 ((tk ts (k + 1)).get 2)) := b2.cell rfl
            have c3 : W2.cell? ⟨wr.heap.size, 3, none⟩ = some (.int .i64 ((tk ts (k + 1)).get 3)) := b2.cell rfl
            have L3 := b2.lt
            have HE2 := Lib.hid (below_to HE.out hb2); have HB2 := Lib.hid (below_to HB.out hb2)
            clear hb2 hz2 b2 a0 a1 l1 h0 h1 h2 h3 hb h0' h1' h2' h3'
            refine wp_region_gro (by kernel_rfl) (by kernel_rfl) ?_
            repeat (first | go_big_quiet_step (((first | (go_at_call 104; exact quiet_call (by have h := isTile_any (tk ts (k + 1)) C (gro W2 ‹GP›); rw [HT.out] at h; exact h)) | (go_at_call 105; exact quiet_call (by have h := compare_any (tk ts k) (tk ts (k + 1)) (gro W2 ‹GP›); exact h))))) | quiet_step (((first | (go_at_call 104; exact quiet_call (by have h := isTile_any (tk ts (k + 1)) C (gro W2 ‹GP›); rw [HT.out] at h; exact h)) | (go_at_call 105; exact quiet_call (by have h := compare_any (tk ts k) (tk ts (k + 1)) (gro W2 ‹GP›); exact h))))))
            refine wpQuiet_nil ?_
            intro w1 hB1
            have HB1 := Lib.hid hB1; clear hB1
            go_wp2_with fail
            go_ret
            exact ⟨ret_bool (isS_notOk HK.out (.inr ⟨by omega, by rw [Nat.add_sub_cancel]; exact HL.out⟩)).symm, below_to HE2.out HB1.out⟩
          · have HL := Lib.hid hlT
            have hge : cmpL (tk ts k).list (tk ts (k + 1)).list < 0 := cmp_lt.2 hlT
            clear hlT
            go_wp2_with fail
            refine name1 ?_
            intro W2 b2 hz2 hb2
            have A0 := cell_to hb2 a0; have A1 := cell_to hb2 a1; have L1 := lt_to hb2 l1; have L2 := lt_to hb2 hb
            have H0' := cell_to hb2 h0'; have H1' := cell_to hb2 h1'; have H2' := cell_to hb2 h2'; have H3' := cell_to hb2 h3'
            have H0 := cell_to hb2 h0; have H1 := cell_to hb2 h1; have H2 := cell_to hb2 h2; have H3 := cell_to hb2 h3
            have c0 : W2.cell? ⟨wr.heap.size, 0, none⟩ = some (.int .i64 ((tk ts (k + 1)).get 0)) := b2.cell rfl
            have c1 : W2.cell? ⟨wr.heap.size, 1, none⟩ = some (.int .i64 ((tk ts (k + 1)).get 1)) := b2.cell rfl
            have c2 : W2.cell? ⟨wr.heap.size, 2, none⟩ = some (.int .i64 ((tk ts (k + 1)).get 2)) := b2.cell rfl
            have c3 : W2.cell? ⟨wr.heap.size, 3, none⟩ = some (.int .i64 ((tk ts (k + 1)).get 3)) := b2.cell rfl
            have L3 := b2.lt
            have HE2 := Lib.hid (below_to HE.out hb2); have HB2 := Lib.hid (below_to HB.out hb2)
            clear hb2 hz2 b2 a0 a1 l1 h0 h1 h2 h3 hb h0' h1' h2' h3'
            refine wp_region_gro (by kernel_rfl) (by kernel_rfl) ?_
            repeat (first | go_big_quiet_step (((first | (go_at_call 104; exact quiet_call (by have h := isTile_any (tk ts (k + 1)) C (gro W2 ‹GP›); rw [HT.out] at h; exact h)) | (go_at_call 105; exact quiet_call (by have h := compare_any (tk ts k) (tk ts (k + 1)) (gro W2 ‹GP›); exact h))))) | quiet_step (((first | (go_at_call 104; exact quiet_call (by have h := isTile_any (tk ts (k + 1)) C (gro W2 ‹GP›); rw [HT.out] at h; exact h)) | (go_at_call 105; exact quiet_call (by have h := compare_any (tk ts k) (tk ts (k + 1)) (gro W2 ‹GP›); exact h))))))
            refine wpQuiet_nil ?_
            intro w1 hB1
            have HB1 := Lib.hid hB1; clear hB1
            go_wp2_with fail
            go_roundw
            case rel => exact ⟨below_to HB2.out HB1.out, k + 1 + 1, by omega, by go_num, fun j hj => by
                by_cases e : j = k + 1
                · subst e; exact ⟨HT.out, fun _ => by rw [Nat.add_sub_cancel]; exact HL.out⟩
                · exact HALL.out j (by omega)⟩
            case measure => simp [intOf]; omega
    · have HK := Lib.hid (show k = ts.length by have := HN.out; omega)
      cases hC : inB C 1 6
      · have HC := Lib.hid hC; clear hC
        go_wp2_with fail
        refine (within_any _ _ _ _).mono ?_
        rintro e w' ⟨rfl, rfl⟩
        rw [HC.out]
        go_wp2_with fail
        go_ret
        exact ⟨ret_bool (isS_c HC.out).symm, HE.out⟩
      · have HC := Lib.hid hC; clear hC
        have HF := Lib.hid (isS_end (c := C) (ts := ts) (by rw [← HK.out]; exact HALL.out))
        by_cases h16 : n ≤ 16
        all_goals
          go_wp2_with fail
          refine (within_any _ _ _ _).mono ?_
          rintro e w' ⟨rfl, rfl⟩
          rw [HC.out]
          go_wp2_with fail
          go_ret
          refine ⟨ret_bool ?_, HE.out⟩
          rw [← HF.out, HC.out, ← HN.out]
          simp; omega
end Go.Proofs.Ytenlcakpcbmmdaa
namespace Go.Proofs.Ytenlcakpcbmmdaa.Q
open Go Go.RowKit Go.Proofs Go.Proofs.YtenlcakpcbmmdaaW.PrintWords Go.Proofs.Ytenlcakpcbmmdaa
set_option linter.unusedVariables false
set_option linter.unusedSimpArgs false
def inLim (n : Nat) : Bool := decide (n ≤ 35184372088832)
def spec_l01Tile.f (a0 a1_0 a1_1 a1_2 a1_3 : Int) : Option Bool := some (tileB ⟨a1_0, a1_1, a1_2, a1_3⟩ (wrap64 (a0 - 1)))
theorem spec_l01Tile.calls (a0 a1_0 a1_1 a1_2 a1_3 : Int) (r : Bool) (w : World) (h : spec_l01Tile.f a0 a1_0 a1_1 a1_2 a1_3 = some r) :
    Calls Try.prog 101 #[.int .i64 a0, .agg #[.int .i64 a1_0, .int .i64 a1_1, .int .i64 a1_2, .int .i64 a1_3]] w fun e w' => e = .returned (.bool r) ∧ Below w.heap.size w w' := by
  obtain rfl := Option.some.inj h
  exact l01Tile_any a0 ⟨a1_0, a1_1, a1_2, a1_3⟩ w
def spec_l01Before.f (a0_0 a0_1 a0_2 a0_3 a1_0 a1_1 a1_2 a1_3 : Int) : Option Bool := some (ltT ⟨a0_0, a0_1, a0_2, a0_3⟩ ⟨a1_0, a1_1, a1_2, a1_3⟩)
theorem spec_l01Before.calls (a0_0 a0_1 a0_2 a0_3 a1_0 a1_1 a1_2 a1_3 : Int) (r : Bool) (w : World) (h : spec_l01Before.f a0_0 a0_1 a0_2 a0_3 a1_0 a1_1 a1_2 a1_3 = some r) :
    Calls Try.prog 102 #[.agg #[.int .i64 a0_0, .int .i64 a0_1, .int .i64 a0_2, .int .i64 a0_3], .agg #[.int .i64 a1_0, .int .i64 a1_1, .int .i64 a1_2, .int .i64 a1_3]] w fun e w' => e = .returned (.bool r) ∧ Below w.heap.size w w' := by
  obtain rfl := Option.some.inj h
  exact l01Before_any ⟨a0_0, a0_1, a0_2, a0_3⟩ ⟨a1_0, a1_1, a1_2, a1_3⟩ w
def spec_l01Is.f (a0_0 : Int) (l0_1 : List STile) : Option Bool := if inLim l0_1.length = true then some (isS a0_0 (l0_1.map toT)) else none
theorem spec_l01Is.calls (a0_0 : Int) (A0_1 : Option Addr) (c0_1 : Nat) (l0_1 : List STile) (r : Bool) (w : World) (hr0_1 : Kd.C k77 w A0_1 l0_1.length l0_1) (hc0_1 : l0_1.length ≤ c0_1) (h : spec_l01Is.f a0_0 l0_1 = some r) :
    Calls Try.prog 74 #[.agg #[.int .i64 a0_0, .slice A0_1 l0_1.length c0_1]] w fun e w' => e = .returned (.bool r) ∧ Below w.heap.size w w' := by
  unfold spec_l01Is.f at h
  split at h
  · rename_i hl
    obtain rfl := Option.some.inj h
    exact l01Is_any a0_0 A0_1 (l0_1.map toT) _ c0_1 w (by simp) (rt_of_C hr0_1) (by simpa [inLim] using hl)
  · cases h
def impl_isTile.f (a0_0 a0_1 a0_2 a0_3 a1 : Int) : Option Bool := some (tileB ⟨a0_0, a0_1, a0_2, a0_3⟩ (wrap64 (a1 - 1)))
theorem impl_isTile.calls (a0_0 a0_1 a0_2 a0_3 a1 : Int) (r : Bool) (w : World) (h : impl_isTile.f a0_0 a0_1 a0_2 a0_3 a1 = some r) :
    Calls Try.prog 104 #[.agg #[.int .i64 a0_0, .int .i64 a0_1, .int .i64 a0_2, .int .i64 a0_3], .int .i64 a1] w fun e w' => e = .returned (.bool r) ∧ Below w.heap.size w w' := by
  obtain rfl := Option.some.inj h
  exact isTile_any ⟨a0_0, a0_1, a0_2, a0_3⟩ a1 w
def impl_IsSet.f (a0_0 : Int) (l0_1 : List STile) : Option Bool := if inLim l0_1.length = true then some (isS a0_0 (l0_1.map toT)) else none
theorem impl_IsSet.calls (a0_0 : Int) (A0_1 : Option Addr) (c0_1 : Nat) (l0_1 : List STile) (r : Bool) (w : World) (hr0_1 : Kd.C k77 w A0_1 l0_1.length l0_1) (hc0_1 : l0_1.length ≤ c0_1) (h : impl_IsSet.f a0_0 l0_1 = some r) :
    Calls Try.prog 76 #[.agg #[.int .i64 a0_0, .slice A0_1 l0_1.length c0_1]] w fun e w' => e = .returned (.bool r) ∧ Below w.heap.size w w' := by
  unfold impl_IsSet.f at h
  split at h
  · rename_i hl
    obtain rfl := Option.some.inj h
    exact IsSet_any a0_0 A0_1 (l0_1.map toT) _ c0_1 w (by simp) (rt_of_C hr0_1) (by simpa [inLim] using hl)
  · cases h
end Go.Proofs.Ytenlcakpcbmmdaa.Q
namespace Go.Proofs.Ytenlcakpcbmmdaa.Q
open Go.RowKit Go.Proofs.YtenlcakpcbmmdaaW.PrintWords Go.Proofs.YtenlcakpcbmmdaaW.PrintLast Go.Proofs.YtenlcakpcbmmdaaW.PrintMore
attribute [local go_sem] max2_int min2_int max_two min_two max_three min_three max_four min_four
set_option linter.unusedVariables false
set_option linter.unusedSimpArgs false
def spec_l02Code.f (k : Nat) (a0_0 : Int) (l0_1 : List (S77)) (l1 : List Int) : Option (Int) := (spec_l01Is.f a0_0 l0_1).bind fun t214 => (if t214 = true then (if (l1.length : Int) < 1 then (some 2) else (if (l1.length : Int) > 20 then (some 2) else ((spec_l01Word.f k a0_0 l0_1 l1).bind fun t215 => (if t215 = true then (some 0) else (some 2))))) else (some 1))
theorem spec_l02Code.mono : ∀ a0 a1 a2 k, LeO (spec_l02Code.f k a0 a1 a2) (spec_l02Code.f (k + 1) a0 a1 a2) := by
 intro a0 a1 a2 k
 unfold spec_l02Code.f
 repeat' first
   | (with_reducible exact spec_l01Word.mono _ _ _ _)
   | (with_reducible exact LeO.refl _)
   | (with_reducible exact LeO.none _)
   | (with_reducible refine LeO.ite ?_ ?_)
   | (with_reducible refine LeO.bind ?_ (fun _ => ?_))
   | exact spec_l01Word.mono _ _ _ _
   | exact LeO.none _
   | refine LeO.ite ?_ ?_
   | refine LeO.bind ?_ (fun _ => ?_)
set_option maxHeartbeats 8000000 in
set_option maxRecDepth 100000 in
theorem spec_l02Code.calls (k : Nat) (a0_0 : Int) (A0_1 : Option Addr) (c0_1 : Nat) (l0_1 : List (S77)) (A1 : Option Addr) (c1 : Nat) (l1 : List Int) (r : Int) (w : World) (hr0_1 : Kd.C k77 w A0_1 l0_1.length l0_1) (hc0_1 : l0_1.length ≤ c0_1) (hr1 : Kd.C (Kd.int .i64) w A1 l1.length l1) (hc1 : l1.length ≤ c1) (h : spec_l02Code.f k a0_0 l0_1 l1 = some r) :
  Calls Try.prog 63 #[.agg #[.int .i64 a0_0, .slice A0_1 l0_1.length c0_1], .slice A1 l1.length c1] w fun e w' => e = .returned (.int .i64 r) ∧ Below w.heap.size w w' := by
 have hu30 := Try.underlying30
 have HR0_1 := Aside0.mk hr0_1
 have HC0_1 := Aside0.mk hc0_1
 clear hr0_1 hc0_1
 have HR1 := Aside0.mk hr1
 have HC1 := Aside0.mk hc1
 clear hr1 hc1
 have HB := Aside0.mk (Below.refl w.heap.size w)
 have H : ((spec_l01Is.f a0_0 l0_1).bind fun t214 => (if t214 = true then (if (l1.length : Int) < 1 then (some 2) else (if (l1.length : Int) > 20 then (some 2) else ((spec_l01Word.f k a0_0 l0_1 l1).bind fun t215 => (if t215 = true then (some 0) else (some 2))))) else (some 1))) = some r := h
 clear h
 replace H := Option.bind_eq_some_iff.mp H
 obtain ⟨t214, A30, H⟩ := H
 replace H : (if t214 = true then (if (l1.length : Int) < 1 then (some 2) else (if (l1.length : Int) > 20 then (some 2) else ((spec_l01Word.f k a0_0 l0_1 l1).bind fun t215 => (if t215 = true then (some 0) else (some 2))))) else (some 1)) = some r := H
 have A3 := Aside0.mk A30
 clear A30
 by_cases c4 : t214 = true
 ·subst c4
  have H1 : (if (l1.length : Int) < 1 then (some 2) else (if (l1.length : Int) > 20 then (some 2) else ((spec_l01Word.f k a0_0 l0_1 l1).bind fun t215 => (if t215 = true then (some 0) else (some 2))))) = some r := by rw [if_pos rfl] at H; exact H
  clear H
  have H := H1
  clear H1
  by_cases c5 : (l1.length : Int) < 1
  ·rw [if_pos c5] at H
   have c5b0 : decide ((l1.length : Int) < 1) = true := decide_eq_true c5
   have c5b1 : decide (l1.length < 1) = true := decide_eq_true (by omega)
   clear c5
   obtain rfl := Option.some.inj H
   go_enter Try.func63, Try.ntmps63
   go_wp2_with (first | ((with_reducible refine gate_dst (N := 2) rfl ?_); (try (refine gate_guard (by rfl) ?_; dsimp only)); refine box_event ?hg (N := 2) ?hd (cs := #[.int .i64 a0_0, .slice A0_1 l0_1.length c0_1]) (t := 30) ?hr ?_; (case hd => rfl); (case hg => rfl); (case hr => first | (go_simp; done) | (go_simp; rfl)); intro gb213 hg w6 hbox hb; have n0_ := Aside0.mk (below_step (by repeat (first | (with_reducible first | exact HB.out | apply below_alloc | apply pw_below_drewN | apply below_drew1) | exact HB.out)) hb); have n1_ := Aside0.mk (hbox); have n2_ := Aside0.mk ((by rw [hg]; exact (below_size (by repeat (first | (with_reducible first | exact HB.out | apply below_alloc | apply pw_below_drewN | apply below_drew1) | exact HB.out))) : w.heap.size ≤ gb213)); have n3_ := Aside0.mk ((by rw [hg]; exact (below_size (by repeat (first | (with_reducible first | exact HB.out | apply below_alloc | apply pw_below_drewN | apply below_drew1) | exact HB.out))) : w.heap.size ≤ gb213)); clear HB; have HB := n0_; have BK213 := n1_; have GW213 := n2_; have GE213 := n3_; clear n0_ n1_ n2_ n3_; clear hb hbox hg; have hcz7_0 : w6.cell? ⟨gb213, 0, none⟩ = some (.int .i64 a0_0) := (blk_cell BK213.out 0).trans rfl; have hcz7_1 : w6.cell? ⟨gb213, 1, none⟩ = some (.slice A0_1 l0_1.length c0_1) := (blk_cell BK213.out 1).trans rfl; have hfz7_0 := blk_frozen BK213.out 0; have hfz7_1 := blk_frozen BK213.out 1) | ((with_reducible refine gate_callee (f := 74) rfl ?_); refine goesL_ (some 7) rfl rfl Try.func74 (by kernel_rfl) rfl #[.agg #[.int .i64 a0_0, .slice A0_1 l0_1.length c0_1]] rfl (by (try simp only [List.map_toArray, List.map_cons, List.map_nil]); first | done | rfl | (simp only [List.length_drop, List.length_take]; rfl)) ?_; (with_reducible refine (spec_l01Is.calls a0_0 _ _ l0_1 true _ ?side1 ?side2 A3.out).mono ?_); (case side1 => repeat (first | exact (Kd.C_below HR0_1.out HB.out) | (with_reducible refine Kd.C_alloc ?_ _) | (with_reducible refine Kd.C_drewN ?_ _) | (with_reducible refine Kd.C_drew ?_))); (case side2 => exact HC0_1.out); rintro e w8 ⟨rfl, hb⟩; refine ⟨_, rfl, ?_⟩; have n0_ := Aside0.mk (blk_below (g := gb213) (o := .cells #[.int .i64 a0_0, .slice A0_1 l0_1.length c0_1] 30 (0, 0)) (by (with_reducible repeat (first | refine blk_drewN ?_ _ | refine blk_drew ?_ | refine blk_alloc ?_ _)); exact BK213.out) hb); have n1_ := Aside0.mk (below_step (by repeat (first | (with_reducible first | exact HB.out | apply below_alloc | apply pw_below_drewN | apply below_drew1 | refine below_set ?_ GE213.out) | exact HB.out)) hb); clear BK213; clear HB; have BK213 := n0_; have HB := n1_; clear n0_ n1_; (try clear hb); (try clear hb2); (try clear hk); (try clear hi)))
   go_ret
   exact ⟨by first | rfl | (simp [errW_none, errW_some] <;> rfl) | (simp [*, errW_none, errW_some] <;> rfl), by repeat (first | (with_reducible first | exact HB.out | apply below_alloc | apply pw_below_drewN | apply below_drew1 | refine below_set ?_ GE213.out) | exact HB.out)⟩
  ·rw [if_neg c5] at H
   have c5b0 : decide ((l1.length : Int) < 1) = false := decide_eq_false c5
   have c5b1 : decide (l1.length < 1) = false := decide_eq_false (by omega)
   clear c5
   by_cases c9 : (l1.length : Int) > 20
   ·rw [if_pos c9] at H
    have c9b0 : decide (20 < (l1.length : Int)) = true := decide_eq_true c9
    have c9b1 : decide (20 < l1.length) = true := decide_eq_true (by omega)
    clear c9
    obtain rfl := Option.some.inj H
    go_enter Try.func63, Try.ntmps63
    go_wp2_with (first | ((with_reducible refine gate_dst (N := 2) rfl ?_); (try (refine gate_guard (by rfl) ?_; dsimp only)); refine box_event ?hg (N := 2) ?hd (cs := #[.int .i64 a0_0, .slice A0_1 l0_1.length c0_1]) (t := 30) ?hr ?_; (case hd => rfl); (case hg => rfl); (case hr => first | (go_simp; done) | (go_simp; rfl)); intro gb213 hg w10 hbox hb; have n0_ := Aside0.mk (below_step (by repeat (first | (with_reducible first | exact HB.out | apply below_alloc | apply pw_below_drewN | apply below_drew1) | exact HB.out)) hb); have n1_ := Aside0.mk (hbox); have n2_ := Aside0.mk ((by rw [hg]; exact (below_size (by repeat (first | (with_reducible first | exact HB.out | apply below_alloc | apply pw_below_drewN | apply below_drew1) | exact HB.out))) : w.heap.size ≤ gb213)); have n3_ := Aside0.mk ((by rw [hg]; exact (below_size (by repeat (first | (with_reducible first | exact HB.out | apply below_alloc | apply pw_below_drewN | apply below_drew1) | exact HB.out))) : w.heap.size ≤ gb213)); clear HB; have HB := n0_; have BK213 := n1_; have GW213 := n2_; have GE213 := n3_; clear n0_ n1_ n2_ n3_; clear hb hbox hg; have hcz11_0 : w10.cell? ⟨gb213, 0, none⟩ = some (.int .i64 a0_0) := (blk_cell BK213.out 0).trans rfl; have hcz11_1 : w10.cell? ⟨gb213, 1, none⟩ = some (.slice A0_1 l0_1.length c0_1) := (blk_cell BK213.out 1).trans rfl; have hfz11_0 := blk_frozen BK213.out 0; have hfz11_1 := blk_frozen BK213.out 1) | ((with_reducible refine gate_callee (f := 74) rfl ?_); refine goesL_ (some 7) rfl rfl Try.func74 (by kernel_rfl) rfl #[.agg #[.int .i64 a0_0, .slice A0_1 l0_1.length c0_1]] rfl (by (try simp only [List.map_toArray, List.map_cons, List.map_nil]); first | done | rfl | (simp only [List.length_drop, List.length_take]; rfl)) ?_; (with_reducible refine (spec_l01Is.calls a0_0 _ _ l0_1 true _ ?side1 ?side2 A3.out).mono ?_); (case side1 => repeat (first | exact (Kd.C_below HR0_1.out HB.out) | (with_reducible refine Kd.C_alloc ?_ _) | (with_reducible refine Kd.C_drewN ?_ _) | (with_reducible refine Kd.C_drew ?_))); (case side2 => exact HC0_1.out); rintro e w12 ⟨rfl, hb⟩; refine ⟨_, rfl, ?_⟩; have n0_ := Aside0.mk (blk_below (g := gb213) (o := .cells #[.int .i64 a0_0, .slice A0_1 l0_1.length c0_1] 30 (0, 0)) (by (with_reducible repeat (first | refine blk_drewN ?_ _ | refine blk_drew ?_ | refine blk_alloc ?_ _)); exact BK213.out) hb); have n1_ := Aside0.mk (below_step (by repeat (first | (with_reducible first | exact HB.out | apply below_alloc | apply pw_below_drewN | apply below_drew1 | refine below_set ?_ GE213.out) | exact HB.out)) hb); clear BK213; clear HB; have BK213 := n0_; have HB := n1_; clear n0_ n1_; (try clear hb); (try clear hb2); (try clear hk); (try clear hi)))
    go_ret
    exact ⟨by first | rfl | (simp [errW_none, errW_some] <;> rfl) | (simp [*, errW_none, errW_some] <;> rfl), by repeat (first | (with_reducible first | exact HB.out | apply below_alloc | apply pw_below_drewN | apply below_drew1 | refine below_set ?_ GE213.out) | exact HB.out)⟩
   ·rw [if_neg c9] at H
    have c9b0 : decide (20 < (l1.length : Int)) = false := decide_eq_false c9
    have c9b1 : decide (20 < l1.length) = false := decide_eq_false (by omega)
    clear c9
    replace H := Option.bind_eq_some_iff.mp H
    obtain ⟨t215, A130, H⟩ := H
    replace H : (if t215 = true then (some 0) else (some 2)) = some r := H
    have A13 := Aside0.mk A130
    clear A130
    by_cases c14 : t215 = true
    ·subst c14
     have H1 : (some 0) = some r := by rw [if_pos rfl] at H; exact H
     clear H
     have H := H1
     clear H1
     obtain rfl := Option.some.inj H
     go_enter Try.func63, Try.ntmps63
     go_wp2_with (first | ((with_reducible refine gate_dst (N := 2) rfl ?_); (try (refine gate_guard (by rfl) ?_; dsimp only)); refine box_event ?hg (N := 2) ?hd (cs := #[.int .i64 a0_0, .slice A0_1 l0_1.length c0_1]) (t := 30) ?hr ?_; (case hd => rfl); (case hg => rfl); (case hr => first | (go_simp; done) | (go_simp; rfl)); intro gb213 hg w15 hbox hb; have n0_ := Aside0.mk (below_step (by repeat (first | (with_reducible first | exact HB.out | apply below_alloc | apply pw_below_drewN | apply below_drew1) | exact HB.out)) hb); have n1_ := Aside0.mk (hbox); have n2_ := Aside0.mk ((by rw [hg]; exact (below_size (by repeat (first | (with_reducible first | exact HB.out | apply below_alloc | apply pw_below_drewN | apply below_drew1) | exact HB.out))) : w.heap.size ≤ gb213)); have n3_ := Aside0.mk ((by rw [hg]; exact (below_size (by repeat (first | (with_reducible first | exact HB.out | apply below_alloc | apply pw_below_drewN | apply below_drew1) | exact HB.out))) : w.heap.size ≤ gb213)); clear HB; have HB := n0_; have BK213 := n1_; have GW213 := n2_; have GE213 := n3_; clear n0_ n1_ n2_ n3_; clear hb hbox hg; have hcz16_0 : w15.cell? ⟨gb213, 0, none⟩ = some (.int .i64 a0_0) := (blk_cell BK213.out 0).trans rfl; have hcz16_1 : w15.cell? ⟨gb213, 1, none⟩ = some (.slice A0_1 l0_1.length c0_1) := (blk_cell BK213.out 1).trans rfl; have hfz16_0 := blk_frozen BK213.out 0; have hfz16_1 := blk_frozen BK213.out 1) | ((with_reducible refine gate_callee (f := 74) rfl ?_); refine goesL_ (some 7) rfl rfl Try.func74 (by kernel_rfl) rfl #[.agg #[.int .i64 a0_0, .slice A0_1 l0_1.length c0_1]] rfl (by (try simp only [List.map_toArray, List.map_cons, List.map_nil]); first | done | rfl | (simp only [List.length_drop, List.length_take]; rfl)) ?_; (with_reducible refine (spec_l01Is.calls a0_0 _ _ l0_1 true _ ?side1 ?side2 A3.out).mono ?_); (case side1 => repeat (first | exact (Kd.C_below HR0_1.out HB.out) | (with_reducible refine Kd.C_alloc ?_ _) | (with_reducible refine Kd.C_drewN ?_ _) | (with_reducible refine Kd.C_drew ?_))); (case side2 => exact HC0_1.out); rintro e w17 ⟨rfl, hb⟩; refine ⟨_, rfl, ?_⟩; have n0_ := Aside0.mk (blk_below (g := gb213) (o := .cells #[.int .i64 a0_0, .slice A0_1 l0_1.length c0_1] 30 (0, 0)) (by (with_reducible repeat (first | refine blk_drewN ?_ _ | refine blk_drew ?_ | refine blk_alloc ?_ _)); exact BK213.out) hb); have n1_ := Aside0.mk (below_step (by repeat (first | (with_reducible first | exact HB.out | apply below_alloc | apply pw_below_drewN | apply below_drew1 | refine below_set ?_ GE213.out) | exact HB.out)) hb); clear BK213; clear HB; have BK213 := n0_; have HB := n1_; clear n0_ n1_; (try clear hb); (try clear hb2); (try clear hk); (try clear hi); have hcz18_0 : w17.cell? ⟨gb213, 0, none⟩ = some (.int .i64 a0_0) := (blk_cell BK213.out 0).trans rfl; have hcz18_1 : w17.cell? ⟨gb213, 1, none⟩ = some (.slice A0_1 l0_1.length c0_1) := (blk_cell BK213.out 1).trans rfl; have hfz18_0 := blk_frozen BK213.out 0; have hfz18_1 := blk_frozen BK213.out 1) | (go_at_call 94; (with_reducible refine (spec_l01Word.calls k a0_0 _ _ l0_1 _ _ l1 true _ ?side1 ?side2 ?side3 ?side4 A13.out).mono ?_); (case side1 => repeat (first | exact (Kd.C_below HR0_1.out HB.out) | (with_reducible refine Kd.C_alloc ?_ _) | (with_reducible refine Kd.C_drewN ?_ _) | (with_reducible refine Kd.C_drew ?_))); (case side2 => exact HC0_1.out); (case side3 => repeat (first | exact (Kd.C_below HR1.out HB.out) | (with_reducible refine Kd.C_alloc ?_ _) | (with_reducible refine Kd.C_drewN ?_ _) | (with_reducible refine Kd.C_drew ?_))); (case side4 => exact HC1.out); rintro e w19 ⟨rfl, hb⟩; have n0_ := Aside0.mk (blk_below (g := gb213) (o := .cells #[.int .i64 a0_0, .slice A0_1 l0_1.length c0_1] 30 (0, 0)) (by (with_reducible repeat (first | refine blk_drewN ?_ _ | refine blk_drew ?_ | refine blk_alloc ?_ _)); exact BK213.out) hb); have n1_ := Aside0.mk (below_step (by repeat (first | (with_reducible first | exact HB.out | apply below_alloc | apply pw_below_drewN | apply below_drew1 | refine below_set ?_ GE213.out) | exact HB.out)) hb); clear BK213; clear HB; have BK213 := n0_; have HB := n1_; clear n0_ n1_; (try clear hb); (try clear hb2); (try clear hk); (try clear hi)))
     go_ret
     exact ⟨by first | rfl | (simp [errW_none, errW_some] <;> rfl) | (simp [*, errW_none, errW_some] <;> rfl), by repeat (first | (with_reducible first | exact HB.out | apply below_alloc | apply pw_below_drewN | apply below_drew1 | refine below_set ?_ GE213.out) | exact HB.out)⟩
    ·replace c14 := Bool.eq_false_iff.mpr c14
     subst c14
     have H1 : (some 2) = some r := by rw [if_neg (show ¬ (false = true) by decide)] at H; exact H
     clear H
     have H := H1
     clear H1
     obtain rfl := Option.some.inj H
     go_enter Try.func63, Try.ntmps63
     go_wp2_with (first | ((with_reducible refine gate_dst (N := 2) rfl ?_); (try (refine gate_guard (by rfl) ?_; dsimp only)); refine box_event ?hg (N := 2) ?hd (cs := #[.int .i64 a0_0, .slice A0_1 l0_1.length c0_1]) (t := 30) ?hr ?_; (case hd => rfl); (case hg => rfl); (case hr => first | (go_simp; done) | (go_simp; rfl)); intro gb213 hg w20 hbox hb; have n0_ := Aside0.mk (below_step (by repeat (first | (with_reducible first | exact HB.out | apply below_alloc | apply pw_below_drewN | apply below_drew1) | exact HB.out)) hb); have n1_ := Aside0.mk (hbox); have n2_ := Aside0.mk ((by rw [hg]; exact (below_size (by repeat (first | (with_reducible first | exact HB.out | apply below_alloc | apply pw_below_drewN | apply below_drew1) | exact HB.out))) : w.heap.size ≤ gb213)); have n3_ := Aside0.mk ((by rw [hg]; exact (below_size (by repeat (first | (with_reducible first | exact HB.out | apply below_alloc | apply pw_below_drewN | apply below_drew1) | exact HB.out))) : w.heap.size ≤ gb213)); clear HB; have HB := n0_; have BK213 := n1_; have GW213 := n2_; have GE213 := n3_; clear n0_ n1_ n2_ n3_; clear hb hbox hg; have hcz21_0 : w20.cell? ⟨gb213, 0, none⟩ = some (.int .i64 a0_0) := (blk_cell BK213.out 0).trans rfl; have hcz21_1 : w20.cell? ⟨gb213, 1, none⟩ = some (.slice A0_1 l0_1.length c0_1) := (blk_cell BK213.out 1).trans rfl; have hfz21_0 := blk_frozen BK213.out 0; have hfz21_1 := blk_frozen BK213.out 1) | ((with_reducible refine gate_callee (f := 74) rfl ?_); refine goesL_ (some 7) rfl rfl Try.func74 (by kernel_rfl) rfl #[.agg #[.int .i64 a0_0, .slice A0_1 l0_1.length c0_1]] rfl (by (try simp only [List.map_toArray, List.map_cons, List.map_nil]); first | done | rfl | (simp only [List.length_drop, List.length_take]; rfl)) ?_; (with_reducible refine (spec_l01Is.calls a0_0 _ _ l0_1 true _ ?side1 ?side2 A3.out).mono ?_); (case side1 => repeat (first | exact (Kd.C_below HR0_1.out HB.out) | (with_reducible refine Kd.C_alloc ?_ _) | (with_reducible refine Kd.C_drewN ?_ _) | (with_reducible refine Kd.C_drew ?_))); (case side2 => exact HC0_1.out); rintro e w22 ⟨rfl, hb⟩; refine ⟨_, rfl, ?_⟩; have n0_ := Aside0.mk (blk_below (g := gb213) (o := .cells #[.int .i64 a0_0, .slice A0_1 l0_1.length c0_1] 30 (0, 0)) (by (with_reducible repeat (first | refine blk_drewN ?_ _ | refine blk_drew ?_ | refine blk_alloc ?_ _)); exact BK213.out) hb); have n1_ := Aside0.mk (below_step (by repeat (first | (with_reducible first | exact HB.out | apply below_alloc | apply pw_below_drewN | apply below_drew1 | refine below_set ?_ GE213.out) | exact HB.out)) hb); clear BK213; clear HB; have BK213 := n0_; have HB := n1_; clear n0_ n1_; (try clear hb); (try clear hb2); (try clear hk); (try clear hi); have hcz23_0 : w22.cell? ⟨gb213, 0, none⟩ = some (.int .i64 a0_0) := (blk_cell BK213.out 0).trans rfl; have hcz23_1 : w22.cell? ⟨gb213, 1, none⟩ = some (.slice A0_1 l0_1.length c0_1) := (blk_cell BK213.out 1).trans rfl; have hfz23_0 := blk_frozen BK213.out 0; have hfz23_1 := blk_frozen BK213.out 1) | (go_at_call 94; (with_reducible refine (spec_l01Word.calls k a0_0 _ _ l0_1 _ _ l1 false _ ?side1 ?side2 ?side3 ?side4 A13.out).mono ?_); (case side1 => repeat (first | exact (Kd.C_below HR0_1.out HB.out) | (with_reducible refine Kd.C_alloc ?_ _) | (with_reducible refine Kd.C_drewN ?_ _) | (with_reducible refine Kd.C_drew ?_))); (case side2 => exact HC0_1.out); (case side3 => repeat (first | exact (Kd.C_below HR1.out HB.out) | (with_reducible refine Kd.C_alloc ?_ _) | (with_reducible refine Kd.C_drewN ?_ _) | (with_reducible refine Kd.C_drew ?_))); (case side4 => exact HC1.out); rintro e w24 ⟨rfl, hb⟩; have n0_ := Aside0.mk (blk_below (g := gb213) (o := .cells #[.int .i64 a0_0, .slice A0_1 l0_1.length c0_1] 30 (0, 0)) (by (with_reducible repeat (first | refine blk_drewN ?_ _ | refine blk_drew ?_ | refine blk_alloc ?_ _)); exact BK213.out) hb); have n1_ := Aside0.mk (below_step (by repeat (first | (with_reducible first | exact HB.out | apply below_alloc | apply pw_below_drewN | apply below_drew1 | refine below_set ?_ GE213.out) | exact HB.out)) hb); clear BK213; clear HB; have BK213 := n0_; have HB := n1_; clear n0_ n1_; (try clear hb); (try clear hb2); (try clear hk); (try clear hi)))
     go_ret
     exact ⟨by first | rfl | (simp [errW_none, errW_some] <;> rfl) | (simp [*, errW_none, errW_some] <;> rfl), by repeat (first | (with_reducible first | exact HB.out | apply below_alloc | apply pw_below_drewN | apply below_drew1 | refine below_set ?_ GE213.out) | exact HB.out)⟩
 ·replace c4 := Bool.eq_false_iff.mpr c4
  subst c4
  have H1 : (some 1) = some r := by rw [if_neg (show ¬ (false = true) by decide)] at H; exact H
  clear H
  have H := H1
  clear H1
  obtain rfl := Option.some.inj H
  go_enter Try.func63, Try.ntmps63
  go_wp2_with (first | ((with_reducible refine gate_dst (N := 2) rfl ?_); (try (refine gate_guard (by rfl) ?_; dsimp only)); refine box_event ?hg (N := 2) ?hd (cs := #[.int .i64 a0_0, .slice A0_1 l0_1.length c0_1]) (t := 30) ?hr ?_; (case hd => rfl); (case hg => rfl); (case hr => first | (go_simp; done) | (go_simp; rfl)); intro gb213 hg w25 hbox hb; have n0_ := Aside0.mk (below_step (by repeat (first | (with_reducible first | exact HB.out | apply below_alloc | apply pw_below_drewN | apply below_drew1) | exact HB.out)) hb); have n1_ := Aside0.mk (hbox); have n2_ := Aside0.mk ((by rw [hg]; exact (below_size (by repeat (first | (with_reducible first | exact HB.out | apply below_alloc | apply pw_below_drewN | apply below_drew1) | exact HB.out))) : w.heap.size ≤ gb213)); have n3_ := Aside0.mk ((by rw [hg]; exact (below_size (by repeat (first | (with_reducible first | exact HB.out | apply below_alloc | apply pw_below_drewN | apply below_drew1) | exact HB.out))) : w.heap.size ≤ gb213)); clear HB; have HB := n0_; have BK213 := n1_; have GW213 := n2_; have GE213 := n3_; clear n0_ n1_ n2_ n3_; clear hb hbox hg; have hcz26_0 : w25.cell? ⟨gb213, 0, none⟩ = some (.int .i64 a0_0) := (blk_cell BK213.out 0).trans rfl; have hcz26_1 : w25.cell? ⟨gb213, 1, none⟩ = some (.slice A0_1 l0_1.length c0_1) := (blk_cell BK213.out 1).trans rfl; have hfz26_0 := blk_frozen BK213.out 0; have hfz26_1 := blk_frozen BK213.out 1) | ((with_reducible refine gate_callee (f := 74) rfl ?_); refine goesL_ (some 7) rfl rfl Try.func74 (by kernel_rfl) rfl #[.agg #[.int .i64 a0_0, .slice A0_1 l0_1.length c0_1]] rfl (by (try simp only [List.map_toArray, List.map_cons, List.map_nil]); first | done | rfl | (simp only [List.length_drop, List.length_take]; rfl)) ?_; (with_reducible refine (spec_l01Is.calls a0_0 _ _ l0_1 false _ ?side1 ?side2 A3.out).mono ?_); (case side1 => repeat (first | exact (Kd.C_below HR0_1.out HB.out) | (with_reducible refine Kd.C_alloc ?_ _) | (with_reducible refine Kd.C_drewN ?_ _) | (with_reducible refine Kd.C_drew ?_))); (case side2 => exact HC0_1.out); rintro e w27 ⟨rfl, hb⟩; refine ⟨_, rfl, ?_⟩; have n0_ := Aside0.mk (blk_below (g := gb213) (o := .cells #[.int .i64 a0_0, .slice A0_1 l0_1.length c0_1] 30 (0, 0)) (by (with_reducible repeat (first | refine blk_drewN ?_ _ | refine blk_drew ?_ | refine blk_alloc ?_ _)); exact BK213.out) hb); have n1_ := Aside0.mk (below_step (by repeat (first | (with_reducible first | exact HB.out | apply below_alloc | apply pw_below_drewN | apply below_drew1 | refine below_set ?_ GE213.out) | exact HB.out)) hb); clear BK213; clear HB; have BK213 := n0_; have HB := n1_; clear n0_ n1_; (try clear hb); (try clear hb2); (try clear hk); (try clear hi)))
  go_ret
  exact ⟨by first | rfl | (simp [errW_none, errW_some] <;> rfl) | (simp [*, errW_none, errW_some] <;> rfl), by repeat (first | (with_reducible first | exact HB.out | apply below_alloc | apply pw_below_drewN | apply below_drew1 | refine below_set ?_ GE213.out) | exact HB.out)⟩
end Go.Proofs.Ytenlcakpcbmmdaa.Q
namespace Go.Proofs.Ytenlcakpcbmmdaa
open Go Go.RowKit Go.Proofs Go.Proofs.YtenlcakpcbmmdaaW.PrintWords Go.Proofs.YtenlcakpcbmmdaaW.PrintMore Go.Proofs.Ytenlcakpcbmmdaa.Q
set_option linter.unusedVariables false
set_option linter.unusedSimpArgs false
def codeW (s f : Bool) : Int := if s then if f then 0 else 2 else 1
theorem specCode_ev (C : Int) (l : List STile) (word : List Int) (hl : l.length ≤ 35184372088832) (hw : word.length ≤ 35184372088832) :
    Ev (fun k => spec_l02Code.f k C l word) (codeW (isS C (l.map toT)) (isWordB C word)) := by
  have hin : inLim l.length = true := by simpa [inLim] using hl
  cases hs : isS C (l.map toT)
  · refine Ev.congr (fun k => ?_) (Ev.now _)
    rw [spec_l02Code.f, spec_l01Is.f, if_pos hin, hs]; rfl
  · obtain ⟨hC, hlen, -⟩ := isS_fine hs
    by_cases h1 : (word.length : Int) < 1
    · have e : isWordB C word = false := by
        have : inB (word.length : Int) 1 20 = false := by rw [← Bool.not_eq_true, inB_iff]; omega
        simp [isWordB, this]
      refine Ev.congr (fun k => ?_) (Ev.now _)
      rw [spec_l02Code.f, spec_l01Is.f, if_pos hin, hs]
      simp only [Option.bind_some, if_true]
      rw [if_pos h1, e]; rfl
    · by_cases h2 : (word.length : Int) > 20
      · have e : isWordB C word = false := by
          have : inB (word.length : Int) 1 20 = false := by rw [← Bool.not_eq_true, inB_iff]; omega
          simp [isWordB, this]
        refine Ev.congr (fun k => ?_) (Ev.now _)
        rw [spec_l02Code.f, spec_l01Is.f, if_pos hin, hs]
        simp only [Option.bind_some, if_true]
        rw [if_neg h1, if_pos h2, e]; rfl
      · have e : isWordB C word = wordB C word := by
          have : inB (word.length : Int) 1 20 = true := by rw [inB_iff]; omega
          simp [isWordB, this]
        have hword := specWord_ev C l word ⟨by omega, by omega⟩ hw
        refine Ev.congr (f := fun k => (spec_l01Word.f k C l word).bind fun t => if t = true then some 0 else some 2) (fun k => ?_) (Ev.bind hword ?_)
        · rw [spec_l02Code.f, spec_l01Is.f, if_pos hin, hs]
          simp only [Option.bind_some, if_true]
          rw [if_neg h1, if_neg h2]
        · rw [e]
          refine Ev.congr (fun k => ?_) (Ev.now _)
          cases wordB C word <;> rfl
end Go.Proofs.Ytenlcakpcbmmdaa

/-
  Parts of the proof, in their order: QImplProductOfSets, PProd.
-/
import Derived.Test.YtnjmgmdpkogocaaPk17
import Derived.Test.YtnjmgmdpkogocaaPk19
import Derived.Test.YtnjmgmdpkogocaaPk18
namespace Go.Proofs.Ytnjmgmdpkogocaa.Q
open Go.RowKit Go.Proofs.YtnjmgmdpkogocaaW.PrintWords Go.Proofs.YtnjmgmdpkogocaaW.PrintLast Go.Proofs.YtnjmgmdpkogocaaW.PrintMore
attribute [local go_sem] max2_int min2_int max_two min_two max_three min_three max_four min_four
set_option linter.unusedVariables false
set_option linter.unusedSimpArgs false
mutual
def impl_ProductOfSets.l0 : Nat → List (S45) → List (S45) → Int → Int → Int → List (S45) → Int → List (S45) → Option (Int × (List (S45)) × Int)
 | 0, _, _, _, _, _, _, _, _ => none
 | k + 1, x6, x21, x22, x23, x1178000, x1178001, x1179000, x1179001 => if x23 < x22 then (if 0 ≤ x23 then (if x23 < (x21.length : Int) then (impl_ProductOfSets.l1 k x6 x21 x22 x23 x1179001 (x1179001.length : Int) 0 x1178000 x1178001 x1179000 x1179001 ((rd_T45 x21 x23).f0) ((rd_T45 x21 x23).f1) ((rd_T45 x21 x23).f2) ((rd_T45 x21 x23).f3)) else (none)) else (none)) else ((impl_limited.f (wrap64 (x1178000 * x1179000)) x6).bind fun bt1187 => (some (bt1187.1, bt1187.2.1, bt1187.2.2)))
def impl_ProductOfSets.l1 : Nat → List (S45) → List (S45) → Int → Int → List (S45) → Int → Int → Int → List (S45) → Int → List (S45) → Int → Int → Int → Int → Option (Int × (List (S45)) × Int)
 | 0, _, _, _, _, _, _, _, _, _, _, _, _, _, _, _ => none
 | k + 1, x6, x21, x22, x23, x28, x29, x30, x1178000, x1178001, x1179000, x1179001, x1194000, x1194001, x1194002, x1194003 => if x30 < x29 then (if 0 ≤ x30 then (if x30 < (x28.length : Int) then (impl_ProductOfSets.l2 k x6 x21 x22 x23 x28 x29 x30 0 x1178000 x1178001 x1179000 x1179001 x1194000 x1194001 x1194002 x1194003 ((rd_T45 x28 x30).f0) ((rd_T45 x28 x30).f1) ((rd_T45 x28 x30).f2) ((rd_T45 x28 x30).f3) 0 0 0 0) else (none)) else (none)) else (impl_ProductOfSets.l0 k x6 x21 x22 (wrap64 (x23 + 1)) x1178000 x1178001 x1179000 x1179001)
def impl_ProductOfSets.l2 : Nat → List (S45) → List (S45) → Int → Int → List (S45) → Int → Int → Int → Int → List (S45) → Int → List (S45) → Int → Int → Int → Int → Int → Int → Int → Int → Int → Int → Int → Int → Option (Int × (List (S45)) × Int)
 | 0, _, _, _, _, _, _, _, _, _, _, _, _, _, _, _, _, _, _, _, _, _, _, _, _ => none
 | k + 1, x6, x21, x22, x23, x28, x29, x30, x35, x1178000, x1178001, x1179000, x1179001, x1194000, x1194001, x1194002, x1194003, x1196000, x1196001, x1196002, x1196003, x1197000, x1197001, x1197002, x1197003 => if x35 < 4 then (if x35 = 0 then (impl_ProductOfSets.l2 k x6 x21 x22 x23 x28 x29 x30 (wrap64 (x35 + 1)) x1178000 x1178001 x1179000 x1179001 x1194000 x1194001 x1194002 x1194003 x1196000 x1196001 x1196002 x1196003 (wrap64 ((wrap64 (x1194000 * x1179000)) + x1196000)) x1197001 x1197002 x1197003) else (if x35 = 1 then (impl_ProductOfSets.l2 k x6 x21 x22 x23 x28 x29 x30 (wrap64 (x35 + 1)) x1178000 x1178001 x1179000 x1179001 x1194000 x1194001 x1194002 x1194003 x1196000 x1196001 x1196002 x1196003 x1197000 (wrap64 ((wrap64 (x1194001 * x1179000)) + x1196001)) x1197002 x1197003) else (if x35 = 2 then (impl_ProductOfSets.l2 k x6 x21 x22 x23 x28 x29 x30 (wrap64 (x35 + 1)) x1178000 x1178001 x1179000 x1179001 x1194000 x1194001 x1194002 x1194003 x1196000 x1196001 x1196002 x1196003 x1197000 x1197001 (wrap64 ((wrap64 (x1194002 * x1179000)) + x1196002)) x1197003) else (if x35 = 3 then (impl_ProductOfSets.l2 k x6 x21 x22 x23 x28 x29 x30 (wrap64 (x35 + 1)) x1178000 x1178001 x1179000 x1179001 x1194000 x1194001 x1194002 x1194003 x1196000 x1196001 x1196002 x1196003 x1197000 x1197001 x1197002 (wrap64 ((wrap64 (x1194003 * x1179000)) + x1196003))) else (none))))) else (if x6.length < 4398046511104 then (impl_ProductOfSets.l1 k (x6 ++ [(⟨x1197000, x1197001, x1197002, x1197003⟩ : S45)]) x21 x22 x23 x28 x29 (wrap64 (x30 + 1)) x1178000 x1178001 x1179000 x1179001 x1194000 x1194001 x1194002 x1194003) else (none))
end
def impl_ProductOfSets.f (k : Nat) (a0_0 : Int) (l0_1 : List (S45)) (a1_0 : Int) (l1_1 : List (S45)) : Option (Int × (List (S45)) × Int) := (impl_areSets.f k (([(⟨a0_0, l0_1⟩ : S26), (⟨a1_0, l1_1⟩ : S26)] : List (S26)))).bind fun t1183 => (if t1183 = true then (impl_ProductOfSets.l0 k (([] : List (S45))) l0_1 (l0_1.length : Int) 0 a0_0 l0_1 a1_0 l1_1) else (some (0, ([] : List (S45)), 1)))
theorem impl_ProductOfSets.mono_l : ∀ k, (∀ y0 y1 y2 y3 y4 y5 y6 y7, LeO (impl_ProductOfSets.l0 k y0 y1 y2 y3 y4 y5 y6 y7) (impl_ProductOfSets.l0 (k + 1) y0 y1 y2 y3 y4 y5 y6 y7)) ∧ (∀ y0 y1 y2 y3 y4 y5 y6 y7 y8 y9 y10 y11 y12 y13 y14, LeO (impl_ProductOfSets.l1 k y0 y1 y2 y3 y4 y5 y6 y7 y8 y9 y10 y11 y12 y13 y14) (impl_ProductOfSets.l1 (k + 1) y0 y1 y2 y3 y4 y5 y6 y7 y8 y9 y10 y11 y12 y13 y14)) ∧ (∀ y0 y1 y2 y3 y4 y5 y6 y7 y8 y9 y10 y11 y12 y13 y14 y15 y16 y17 y18 y19 y20 y21 y22 y23, LeO (impl_ProductOfSets.l2 k y0 y1 y2 y3 y4 y5 y6 y7 y8 y9 y10 y11 y12 y13 y14 y15 y16 y17 y18 y19 y20 y21 y22 y23) (impl_ProductOfSets.l2 (k + 1) y0 y1 y2 y3 y4 y5 y6 y7 y8 y9 y10 y11 y12 y13 y14 y15 y16 y17 y18 y19 y20 y21 y22 y23))
 | 0 => ⟨fun _ _ _ _ _ _ _ _ r h => by simp [impl_ProductOfSets.l0] at h, fun _ _ _ _ _ _ _ _ _ _ _ _ _ _ _ r h => by simp [impl_ProductOfSets.l1] at h, fun _ _ _ _ _ _ _ _ _ _ _ _ _ _ _ _ _ _ _ _ _ _ _ _ r h => by simp [impl_ProductOfSets.l2] at h⟩
 | k + 1 => by
  obtain ⟨ih0, ih1, ih2⟩ := impl_ProductOfSets.mono_l k
  refine ⟨?_, ?_, ?_⟩
  ·intro y0 y1 y2 y3 y4 y5 y6 y7
   unfold impl_ProductOfSets.l0
   repeat' first
   | (with_reducible exact ih0 _ _ _ _ _ _ _ _)
   | (with_reducible exact ih1 _ _ _ _ _ _ _ _ _ _ _ _ _ _ _)
   | (with_reducible exact ih2 _ _ _ _ _ _ _ _ _ _ _ _ _ _ _ _ _ _ _ _ _ _ _ _)
   | (with_reducible exact impl_areSets.mono _ _)
   | (with_reducible exact LeO.refl _)
   | (with_reducible exact LeO.none _)
   | (with_reducible refine LeO.ite ?_ ?_)
   | (with_reducible refine LeO.bind ?_ (fun _ => ?_))
   | exact ih0 _ _ _ _ _ _ _ _
   | exact ih1 _ _ _ _ _ _ _ _ _ _ _ _ _ _ _
   | exact ih2 _ _ _ _ _ _ _ _ _ _ _ _ _ _ _ _ _ _ _ _ _ _ _ _
   | exact impl_areSets.mono _ _
   | exact LeO.none _
   | refine LeO.ite ?_ ?_
   | refine LeO.bind ?_ (fun _ => ?_)
  ·intro y0 y1 y2 y3 y4 y5 y6 y7 y8 y9 y10 y11 y12 y13 y14
   unfold impl_ProductOfSets.l1
   repeat' first
   | (with_reducible exact ih0 _ _ _ _ _ _ _ _)
   | (with_reducible exact ih1 _ _ _ _ _ _ _ _ _ _ _ _ _ _ _)
   | (with_reducible exact ih2 _ _ _ _ _ _ _ _ _ _ _ _ _ _ _ _ _ _ _ _ _ _ _ _)
   | (with_reducible exact impl_areSets.mono _ _)
   | (with_reducible exact LeO.refl _)
   | (with_reducible exact LeO.none _)
   | (with_reducible refine LeO.ite ?_ ?_)
   | (with_reducible refine LeO.bind ?_ (fun _ => ?_))
   | exact ih0 _ _ _ _ _ _ _ _
   | exact ih1 _ _ _ _ _ _ _ _ _ _ _ _ _ _ _
   | exact ih2 _ _ _ _ _ _ _ _ _ _ _ _ _ _ _ _ _ _ _ _ _ _ _ _
   | exact impl_areSets.mono _ _
   | exact LeO.none _
   | refine LeO.ite ?_ ?_
   | refine LeO.bind ?_ (fun _ => ?_)
  ·intro y0 y1 y2 y3 y4 y5 y6 y7 y8 y9 y10 y11 y12 y13 y14 y15 y16 y17 y18 y19 y20 y21 y22 y23
   unfold impl_ProductOfSets.l2
   repeat' first
   | (with_reducible exact ih0 _ _ _ _ _ _ _ _)
   | (with_reducible exact ih1 _ _ _ _ _ _ _ _ _ _ _ _ _ _ _)
   | (with_reducible exact ih2 _ _ _ _ _ _ _ _ _ _ _ _ _ _ _ _ _ _ _ _ _ _ _ _)
   | (with_reducible exact impl_areSets.mono _ _)
   | (with_reducible exact LeO.refl _)
   | (with_reducible exact LeO.none _)
   | (with_reducible refine LeO.ite ?_ ?_)
   | (with_reducible refine LeO.bind ?_ (fun _ => ?_))
   | exact ih0 _ _ _ _ _ _ _ _
   | exact ih1 _ _ _ _ _ _ _ _ _ _ _ _ _ _ _
   | exact ih2 _ _ _ _ _ _ _ _ _ _ _ _ _ _ _ _ _ _ _ _ _ _ _ _
   | exact impl_areSets.mono _ _
   | exact LeO.none _
   | refine LeO.ite ?_ ?_
   | refine LeO.bind ?_ (fun _ => ?_)
theorem impl_ProductOfSets.mono : ∀ a0 a1 a2 a3 k, LeO (impl_ProductOfSets.f k a0 a1 a2 a3) (impl_ProductOfSets.f (k + 1) a0 a1 a2 a3) := by
 intro a0 a1 a2 a3 k
 obtain ⟨ih0, ih1, ih2⟩ := impl_ProductOfSets.mono_l k
 unfold impl_ProductOfSets.f
 repeat' first
   | (with_reducible exact ih0 _ _ _ _ _ _ _ _)
   | (with_reducible exact ih1 _ _ _ _ _ _ _ _ _ _ _ _ _ _ _)
   | (with_reducible exact ih2 _ _ _ _ _ _ _ _ _ _ _ _ _ _ _ _ _ _ _ _ _ _ _ _)
   | (with_reducible exact impl_areSets.mono _ _)
   | (with_reducible exact LeO.refl _)
   | (with_reducible exact LeO.none _)
   | (with_reducible refine LeO.ite ?_ ?_)
   | (with_reducible refine LeO.bind ?_ (fun _ => ?_))
   | exact ih0 _ _ _ _ _ _ _ _
   | exact ih1 _ _ _ _ _ _ _ _ _ _ _ _ _ _ _
   | exact ih2 _ _ _ _ _ _ _ _ _ _ _ _ _ _ _ _ _ _ _ _ _ _ _ _
   | exact impl_areSets.mono _ _
   | exact LeO.none _
   | refine LeO.ite ?_ ?_
   | refine LeO.bind ?_ (fun _ => ?_)
def impl_ProductOfSets.T14 : Bool × List (List Nat × List Nat) := (true, [([], []), ([], []), ([1], [1]), ([2], [2]), ([], []), ([4], [4]), ([3, 5], [3, 5]), ([], []), ([7], [7]), ([8], [8]), ([6, 9], [6, 9]), ([0, 0, 1, 2, 3, 4, 5, 6, 7, 8, 9, 10], [0]), ([11, 10, 0, 1, 2, 3, 4, 5, 6, 7, 8, 9, 10], [10, 11])])
def impl_ProductOfSets.B14 : List Nat := [0, 0, 2, 6, 0, 16, 62, 0, 128, 384, 1022, 2047, 4095]
theorem impl_ProductOfSets.tab14 : rtab .any (opsOf Try.f35 14) = impl_ProductOfSets.T14 := by kernel_rfl
theorem impl_ProductOfSets.bits14 : waitsOk impl_ProductOfSets.T14.2 impl_ProductOfSets.B14 = true := by kernel_rfl
set_option maxHeartbeats 8000000 in
set_option maxRecDepth 100000 in
theorem impl_ProductOfSets.calls (k : Nat) (a0_0 : Int) (P0_1_ : Nat → Prop) (A0_1 : Option Addr) (c0_1 : Nat) (l0_1 : List (S45)) (a1_0 : Int) (P1_1_ : Nat → Prop) (A1_1 : Option Addr) (c1_1 : Nat) (l1_1 : List (S45)) (r1 : Int) (r2 : List (S45)) (r3 : Int) (w : World) (hs0_1 : Kd.V k45 45 w w.heap.size (fun k_ => P0_1_ k_) (.slice A0_1 l0_1.length c0_1) l0_1) (hs1_1 : Kd.V k45 45 w w.heap.size (fun k_ => P1_1_ k_) (.slice A1_1 l1_1.length c1_1) l1_1) (h : impl_ProductOfSets.f k a0_0 l0_1 a1_0 l1_1 = some (r1, r2, r3)) :
  Calls Try.prog 35 #[.agg #[.int .i64 a0_0, .slice A0_1 l0_1.length c0_1], .agg #[.int .i64 a1_0, .slice A1_1 l1_1.length c1_1]] w fun e w' => ∃ v1_ : Value, e = .returned (.tuple #[.agg #[.int .i64 r1, v1_], .int .i64 r3]) ∧ Kd.R k45 45 w' w.heap.size (fun k_ => (w.heap.size ≤ k_)) v1_ r2 ∧ Below w.heap.size w w' := by
 have hu26 := Try.underlying26
 have hu45 := Try.underlying45
 have HO0_1 := Aside0.mk (show Kd.V k45 45 w w.heap.size (fun k_ => ((P0_1_ k_ ∨ P1_1_ k_) ∨ w.heap.size ≤ k_)) (.slice A0_1 l0_1.length c0_1) l0_1 from Kd.V_mono hs0_1 (fun k_ hk => .inl (.inl hk)))
 have HO1_1 := Aside0.mk (show Kd.V k45 45 w w.heap.size (fun k_ => ((P0_1_ k_ ∨ P1_1_ k_) ∨ w.heap.size ≤ k_)) (.slice A1_1 l1_1.length c1_1) l1_1 from Kd.V_mono hs1_1 (fun k_ hk => .inl (.inr hk)))
 have HB := Aside0.mk (Below.refl w.heap.size w)
 have H : ((impl_areSets.f k (([(⟨a0_0, l0_1⟩ : S26), (⟨a1_0, l1_1⟩ : S26)] : List (S26)))).bind fun t1183 => (if t1183 = true then (impl_ProductOfSets.l0 k (([] : List (S45))) l0_1 (l0_1.length : Int) 0 a0_0 l0_1 a1_0 l1_1) else (some (0, ([] : List (S45)), 1)))) = some (r1, r2, r3) := h
 clear h
 obtain ⟨y1180, hy1180⟩ : ∃ y_ : List (S26), y_ = (([(⟨a0_0, l0_1⟩ : S26), (⟨a1_0, l1_1⟩ : S26)] : List (S26))) := ⟨_, rfl⟩
 replace H : ((impl_areSets.f k y1180).bind fun t1183 => (if t1183 = true then (impl_ProductOfSets.l0 k (([] : List (S45))) l0_1 (l0_1.length : Int) 0 a0_0 l0_1 a1_0 l1_1) else (some (0, ([] : List (S45)), 1)))) = some (r1, r2, r3) := by first | (rw [hy1180]; with_reducible exact H) | (have H2_ := (Option.bind_some _ _).symm.trans H; rw [hy1180]; with_reducible exact H2_) | (have H2_ := (Option.bind_some _ _).symm.trans H; with_reducible exact H2_) | with_reducible exact H | (rw [hy1180]; exact H) | exact H
 have Ny1180 := Aside0.mk hy1180
 clear hy1180
 replace H := Option.bind_eq_some_iff.mp H
 obtain ⟨t1183, A30, H⟩ := H
 replace H : (if t1183 = true then (impl_ProductOfSets.l0 k (([] : List (S45))) l0_1 (l0_1.length : Int) 0 a0_0 l0_1 a1_0 l1_1) else (some (0, ([] : List (S45)), 1))) = some (r1, r2, r3) := H
 have A3 := Aside0.mk A30
 clear A30
 by_cases c4 : t1183 = true
 ·subst c4
  have H1 : (impl_ProductOfSets.l0 k (([] : List (S45))) l0_1 (l0_1.length : Int) 0 a0_0 l0_1 a1_0 l1_1) = some (r1, r2, r3) := by rw [if_pos rfl] at H; exact H
  clear H
  have H := H1
  clear H1
  obtain ⟨y1184, hy1184⟩ : ∃ y_ : List (S45), y_ = (([] : List (S45))) := ⟨_, rfl⟩
  replace H : (impl_ProductOfSets.l0 k y1184 l0_1 (l0_1.length : Int) 0 a0_0 l0_1 a1_0 l1_1) = some (r1, r2, r3) := by first | (rw [hy1184]; with_reducible exact H) | (have H2_ := (Option.bind_some _ _).symm.trans H; rw [hy1184]; with_reducible exact H2_) | (have H2_ := (Option.bind_some _ _).symm.trans H; with_reducible exact H2_) | with_reducible exact H | (rw [hy1184]; exact H) | exact H
  have Ny1184 := Aside0.mk hy1184
  clear hy1184
  have H' := Aside0.mk H
  clear H
  go_enter Try.func35, Try.ntmps35
  go_wp2_with (first | ((with_reducible refine gate_dst (N := 2) rfl ?_); refine box_event ?hg (N := 2) ?hd (cs := #[.int .i64 a0_0, .slice A0_1 l0_1.length c0_1]) (t := 26) ?hr ?_; (case hd => rfl); (case hg => rfl); (case hr => first | (go_simp; done) | (go_simp; rfl)); intro gb1177 hg w5 hbox hb; have n0_ := Aside0.mk (Kd.V_below (Kd.V_elderB (by (with_reducible repeat (first | apply Kd.V_alloc | apply Kd.V_drewN | apply Kd.V_drew)); exact HO0_1.out) gb1177 (Nat.le_of_eq hg.symm)) hb); have n1_ := Aside0.mk (Kd.V_below (Kd.V_elderB (by (with_reducible repeat (first | apply Kd.V_alloc | apply Kd.V_drewN | apply Kd.V_drew)); exact HO1_1.out) gb1177 (Nat.le_of_eq hg.symm)) hb); have n2_ := Aside0.mk (below_step (by repeat (first | (with_reducible first | exact HB.out | apply below_alloc | apply pw_below_drewN | apply below_drew1) | exact HB.out)) hb); have n3_ := Aside0.mk (hbox); have n4_ := Aside0.mk ((by rw [hg]; exact (below_size (by repeat (first | (with_reducible first | exact HB.out | apply below_alloc | apply pw_below_drewN | apply below_drew1) | exact HB.out))) : w.heap.size ≤ gb1177)); have n5_ := Aside0.mk ((by rw [hg]; exact (below_size (by repeat (first | (with_reducible first | exact HB.out | apply below_alloc | apply pw_below_drewN | apply below_drew1) | exact HB.out))) : w.heap.size ≤ gb1177)); clear HO0_1; clear HO1_1; clear HB; have HO0_1 := n0_; have HO1_1 := n1_; have HB := n2_; have BK1177 := n3_; have GW1177 := n4_; have GE1177 := n5_; clear n0_ n1_ n2_ n3_ n4_ n5_; clear hb hbox hg) | ((with_reducible refine gate_dst (N := 3) rfl ?_); refine box_event ?hg (N := 3) ?hd (cs := #[.int .i64 a1_0, .slice A1_1 l1_1.length c1_1]) (t := 26) ?hr ?_; (case hd => rfl); (case hg => rfl); (case hr => first | (go_simp; done) | (go_simp; rfl)); intro gb1178 hg w6 hbox hb; have n0_ := Aside0.mk (Kd.V_below (Kd.V_elderB (by (with_reducible repeat (first | apply Kd.V_alloc | apply Kd.V_drewN | apply Kd.V_drew)); exact HO0_1.out) gb1178 (Nat.le_of_eq hg.symm)) hb); have n1_ := Aside0.mk (Kd.V_below (Kd.V_elderB (by (with_reducible repeat (first | apply Kd.V_alloc | apply Kd.V_drewN | apply Kd.V_drew)); exact HO1_1.out) gb1178 (Nat.le_of_eq hg.symm)) hb); have n2_ := Aside0.mk (blk_below (g := gb1177) (o := .cells #[.int .i64 a0_0, .slice A0_1 l0_1.length c0_1] 26 (0, 0)) (by (with_reducible repeat (first | refine blk_drewN ?_ _ | refine blk_drew ?_ | refine blk_alloc ?_ _)); exact BK1177.out) hb); have n3_ := Aside0.mk (below_step (by repeat (first | (with_reducible first | exact HB.out | apply below_alloc | apply pw_below_drewN | apply below_drew1 | refine below_set ?_ GE1177.out) | exact HB.out)) hb); have n4_ := Aside0.mk (hbox); have n5_ := Aside0.mk ((by rw [hg]; exact (below_size (by repeat (first | (with_reducible first | exact HB.out | apply below_alloc | apply pw_below_drewN | apply below_drew1 | refine below_set ?_ GE1177.out) | exact HB.out))) : w.heap.size ≤ gb1178)); have n6_ := Aside0.mk ((by rw [hg]; exact (below_size (by repeat (first | (with_reducible first | exact HB.out | apply below_alloc | apply pw_below_drewN | apply below_drew1 | refine below_set ?_ GE1177.out) | exact HB.out))) : w.heap.size ≤ gb1178)); have n7_ := Aside0.mk ((by rw [hg]; exact Nat.ne_of_lt (blk_lt (g := gb1177) (o := .cells #[.int .i64 a0_0, .slice A0_1 l0_1.length c0_1] 26 (0, 0)) (by (with_reducible repeat (first | refine blk_drewN ?_ _ | refine blk_drew ?_ | refine blk_alloc ?_ _)); exact BK1177.out)) : gb1177 ≠ gb1178)); have n8_ := Aside0.mk ((by rw [hg]; exact Nat.ne_of_gt (blk_lt (g := gb1177) (o := .cells #[.int .i64 a0_0, .slice A0_1 l0_1.length c0_1] 26 (0, 0)) (by (with_reducible repeat (first | refine blk_drewN ?_ _ | refine blk_drew ?_ | refine blk_alloc ?_ _)); exact BK1177.out)) : gb1178 ≠ gb1177)); clear HO0_1; clear HO1_1; clear BK1177; clear HB; have HO0_1 := n0_; have HO1_1 := n1_; have BK1177 := n2_; have HB := n3_; have BK1178 := n4_; have GW1178 := n5_; have GE1178 := n6_; have NB1177_1178 := n7_; have NB1178_1177 := n8_; clear n0_ n1_ n2_ n3_ n4_ n5_ n6_ n7_ n8_; clear hb hbox hg) | ((with_reducible refine gate_dst (N := 4) rfl ?_); refine box_event ?hg (N := 4) ?hd (cs := #[.int .i64 0, .slice none 0 0]) (t := 26) ?hr ?_; (case hd => rfl); (case hg => rfl); (case hr => first | (go_simp; done) | (go_simp; rfl)); intro gb1179 hg w7 hbox hb; have n0_ := Aside0.mk (Kd.V_below (Kd.V_elderB (by (with_reducible repeat (first | apply Kd.V_alloc | apply Kd.V_drewN | apply Kd.V_drew)); exact HO0_1.out) gb1179 (Nat.le_of_eq hg.symm)) hb); have n1_ := Aside0.mk (Kd.V_below (Kd.V_elderB (by (with_reducible repeat (first | apply Kd.V_alloc | apply Kd.V_drewN | apply Kd.V_drew)); exact HO1_1.out) gb1179 (Nat.le_of_eq hg.symm)) hb); have n2_ := Aside0.mk (blk_below (g := gb1177) (o := .cells #[.int .i64 a0_0, .slice A0_1 l0_1.length c0_1] 26 (0, 0)) (by (with_reducible repeat (first | refine blk_drewN ?_ _ | refine blk_drew ?_ | refine blk_alloc ?_ _)); exact BK1177.out) hb); have n3_ := Aside0.mk (blk_below (g := gb1178) (o := .cells #[.int .i64 a1_0, .slice A1_1 l1_1.length c1_1] 26 (0, 0)) (by (with_reducible repeat (first | refine blk_drewN ?_ _ | refine blk_drew ?_ | refine blk_alloc ?_ _)); exact BK1178.out) hb); have n4_ := Aside0.mk (below_step (by repeat (first | (with_reducible first | exact HB.out | apply below_alloc | apply pw_below_drewN | apply below_drew1 | refine below_set ?_ GE1177.out | refine below_set ?_ GE1178.out) | exact HB.out)) hb); have n5_ := Aside0.mk (hbox); have n6_ := Aside0.mk ((by rw [hg]; exact (below_size (by repeat (first | (with_reducible first | exact HB.out | apply below_alloc | apply pw_below_drewN | apply below_drew1 | refine below_set ?_ GE1177.out | refine below_set ?_ GE1178.out) | exact HB.out))) : w.heap.size ≤ gb1179)); have n7_ := Aside0.mk ((by rw [hg]; exact (below_size (by repeat (first | (with_reducible first | exact HB.out | apply below_alloc | apply pw_below_drewN | apply below_drew1 | refine below_set ?_ GE1177.out | refine below_set ?_ GE1178.out) | exact HB.out))) : w.heap.size ≤ gb1179)); have n8_ := Aside0.mk ((by rw [hg]; exact Nat.ne_of_lt (blk_lt (g := gb1177) (o := .cells #[.int .i64 a0_0, .slice A0_1 l0_1.length c0_1] 26 (0, 0)) (by (with_reducible repeat (first | refine blk_drewN ?_ _ | refine blk_drew ?_ | refine blk_alloc ?_ _)); exact BK1177.out)) : gb1177 ≠ gb1179)); have n9_ := Aside0.mk ((by rw [hg]; exact Nat.ne_of_gt (blk_lt (g := gb1177) (o := .cells #[.int .i64 a0_0, .slice A0_1 l0_1.length c0_1] 26 (0, 0)) (by (with_reducible repeat (first | refine blk_drewN ?_ _ | refine blk_drew ?_ | refine blk_alloc ?_ _)); exact BK1177.out)) : gb1179 ≠ gb1177)); have n10_ := Aside0.mk ((by rw [hg]; exact Nat.ne_of_lt (blk_lt (g := gb1178) (o := .cells #[.int .i64 a1_0, .slice A1_1 l1_1.length c1_1] 26 (0, 0)) (by (with_reducible repeat (first | refine blk_drewN ?_ _ | refine blk_drew ?_ | refine blk_alloc ?_ _)); exact BK1178.out)) : gb1178 ≠ gb1179)); have n11_ := Aside0.mk ((by rw [hg]; exact Nat.ne_of_gt (blk_lt (g := gb1178) (o := .cells #[.int .i64 a1_0, .slice A1_1 l1_1.length c1_1] 26 (0, 0)) (by (with_reducible repeat (first | refine blk_drewN ?_ _ | refine blk_drew ?_ | refine blk_alloc ?_ _)); exact BK1178.out)) : gb1179 ≠ gb1178)); clear HO0_1; clear HO1_1; clear BK1177; clear BK1178; clear HB; have HO0_1 := n0_; have HO1_1 := n1_; have BK1177 := n2_; have BK1178 := n3_; have HB := n4_; have BK1179 := n5_; have GW1179 := n6_; have GE1179 := n7_; have NB1177_1179 := n8_; have NB1179_1177 := n9_; have NB1178_1179 := n10_; have NB1179_1178 := n11_; clear n0_ n1_ n2_ n3_ n4_ n5_ n6_ n7_ n8_ n9_ n10_ n11_; clear hb hbox hg; have hnb8 := NB1177_1178.out; have hnc8 := NB1178_1177.out; have hnb9 := NB1177_1179.out; have hnc9 := NB1179_1177.out; have hcz10_0 : w7.cell? ⟨gb1177, 0, none⟩ = some (.int .i64 a0_0) := (blk_cell BK1177.out 0).trans rfl; have hcz10_1 : w7.cell? ⟨gb1177, 1, none⟩ = some (.slice A0_1 l0_1.length c0_1) := (blk_cell BK1177.out 1).trans rfl; have hfz10_0 := blk_frozen BK1177.out 0; have hfz10_1 := blk_frozen BK1177.out 1; have hnb11 := NB1178_1179.out; have hnc11 := NB1179_1178.out; have hcz12_0 : w7.cell? ⟨gb1178, 0, none⟩ = some (.int .i64 a1_0) := (blk_cell BK1178.out 0).trans rfl; have hcz12_1 : w7.cell? ⟨gb1178, 1, none⟩ = some (.slice A1_1 l1_1.length c1_1) := (blk_cell BK1178.out 1).trans rfl; have hfz12_0 := blk_frozen BK1178.out 0; have hfz12_1 := blk_frozen BK1178.out 1) | ((with_reducible refine gate_dst (N := 15) rfl ?_); refine Kd.N_lit k26 _ 26 ?hg (N' := 15) ?hd (xs := ([(⟨a0_0, l0_1⟩ : S26), (⟨a1_0, l1_1⟩ : S26)] : List (S26))) (inner := [.int .i64 a0_0, .slice A0_1 l0_1.length c0_1, .int .i64 a1_0, .slice A1_1 l1_1.length c1_1]) (ok := (fun k_ => ((P0_1_ k_ ∨ P1_1_ k_) ∨ w.heap.size ≤ k_) ∧ k_ ≠ gb1177 ∧ k_ ≠ gb1178 ∧ k_ ≠ gb1179)) (okp := (fun k_ => ((P0_1_ k_ ∨ P1_1_ k_) ∨ w.heap.size ≤ k_) ∧ k_ ≠ gb1177 ∧ k_ ≠ gb1178 ∧ k_ ≠ gb1179)) ?hr ?hp (fun _ hk => hk) ((show ∀ k_, w7.heap.size ≤ k_ → (fun k_ => ((P0_1_ k_ ∨ P1_1_ k_) ∨ w.heap.size ≤ k_) ∧ k_ ≠ gb1177 ∧ k_ ≠ gb1178 ∧ k_ ≠ gb1179) k_ from fun k_ hk => ⟨(.inr (Nat.le_trans (below_size (by repeat (first | (with_reducible first | exact HB.out | apply below_alloc | apply pw_below_drewN | apply below_drew1 | refine below_set ?_ GE1177.out | refine below_set ?_ GE1178.out | refine below_set ?_ GE1179.out) | exact HB.out))) hk)), Kd.freshB (g := gb1177) (o := .cells #[.int .i64 a0_0, .slice A0_1 l0_1.length c0_1] 26 (0, 0)) (by (with_reducible repeat (first | refine blk_drewN ?_ _ | refine blk_drew ?_ | refine blk_alloc ?_ _)); exact BK1177.out) k_ hk, Kd.freshB (g := gb1178) (o := .cells #[.int .i64 a1_0, .slice A1_1 l1_1.length c1_1] 26 (0, 0)) (by (with_reducible repeat (first | refine blk_drewN ?_ _ | refine blk_drew ?_ | refine blk_alloc ?_ _)); exact BK1178.out) k_ hk, Kd.freshB (g := gb1179) (o := .cells #[.int .i64 0, .slice none 0 0] 26 (0, 0)) (by (with_reducible repeat (first | refine blk_drewN ?_ _ | refine blk_drew ?_ | refine blk_alloc ?_ _)); exact BK1179.out) k_ hk⟩) _ (Nat.le_refl _)) (Below.refl _ _) (Nat.le_refl _) (by simp) ?_; (case hd => rfl); (case hg => rfl); (case hr => first | (go_simp; done) | (go_simp; rfl)); (case hp => exact (Reps.c2 (show Kd.FK k26 _ _ (⟨a0_0, l0_1⟩ : S26) [.int .i64 a0_0, .slice A0_1 l0_1.length c0_1] from (k26_mkF _ _ (⟨a0_0, l0_1⟩ : S26) (Kd.V_reads' (Kd.V_mono (ok' := (fun k_ => ((P0_1_ k_ ∨ P1_1_ k_) ∨ w.heap.size ≤ k_) ∧ k_ ≠ gb1177 ∧ k_ ≠ gb1178 ∧ k_ ≠ gb1179)) (HO0_1.out) (fun k_ hk => ⟨hk.1.1.1, ⟨hk.1.1.2, ⟨hk.1.2, hk.2⟩⟩⟩))).2.1 (Kd.V_F (Kd.V_mono (ok' := (fun k_ => ((P0_1_ k_ ∨ P1_1_ k_) ∨ w.heap.size ≤ k_) ∧ k_ ≠ gb1177 ∧ k_ ≠ gb1178 ∧ k_ ≠ gb1179)) (HO0_1.out) (fun k_ hk => ⟨hk.1.1.1, ⟨hk.1.1.2, ⟨hk.1.2, hk.2⟩⟩⟩))))) (Reps.c2 (show Kd.FK k26 _ _ (⟨a1_0, l1_1⟩ : S26) [.int .i64 a1_0, .slice A1_1 l1_1.length c1_1] from (k26_mkF _ _ (⟨a1_0, l1_1⟩ : S26) (Kd.V_reads' (Kd.V_mono (ok' := (fun k_ => ((P0_1_ k_ ∨ P1_1_ k_) ∨ w.heap.size ≤ k_) ∧ k_ ≠ gb1177 ∧ k_ ≠ gb1178 ∧ k_ ≠ gb1179)) (HO1_1.out) (fun k_ hk => ⟨hk.1.1.1, ⟨hk.1.1.2, ⟨hk.1.2, hk.2⟩⟩⟩))).2.1 (Kd.V_F (Kd.V_mono (ok' := (fun k_ => ((P0_1_ k_ ∨ P1_1_ k_) ∨ w.heap.size ≤ k_) ∧ k_ ≠ gb1177 ∧ k_ ≠ gb1178 ∧ k_ ≠ gb1179)) (HO1_1.out) (fun k_ hk => ⟨hk.1.1.1, ⟨hk.1.1.2, ⟨hk.1.2, hk.2⟩⟩⟩))))) (Reps.none _ _)))); intro v1181 w13 ho14 hb hg_ hnew_; clear hg_ hnew_; (first | rw [← Ny1180.out] at ho14 | (simp only [Int.reduceToNat] at ho14; rw [← Ny1180.out] at ho14)); have n0_ := Aside0.mk (Kd.V_elder' (by (with_reducible repeat (first | apply Kd.V_alloc | apply Kd.V_drewN | apply Kd.V_drew)); exact HO0_1.out) (Kd.N_base ho14) hb); have n1_ := Aside0.mk (Kd.V_elder' (by (with_reducible repeat (first | apply Kd.V_alloc | apply Kd.V_drewN | apply Kd.V_drew)); exact HO1_1.out) (Kd.N_base ho14) hb); have n2_ := Aside0.mk (Kd.N_lower ho14 (below_size (by repeat (first | (with_reducible first | exact HB.out | apply below_alloc | apply pw_below_drewN | apply below_drew1 | refine below_set ?_ GE1177.out | refine below_set ?_ GE1178.out | refine below_set ?_ GE1179.out) | exact HB.out)))); have n3_ := Aside0.mk (blk_below (g := gb1177) (o := .cells #[.int .i64 a0_0, .slice A0_1 l0_1.length c0_1] 26 (0, 0)) (by (with_reducible repeat (first | refine blk_drewN ?_ _ | refine blk_drew ?_ | refine blk_alloc ?_ _)); exact BK1177.out) hb); have n4_ := Aside0.mk (blk_below (g := gb1178) (o := .cells #[.int .i64 a1_0, .slice A1_1 l1_1.length c1_1] 26 (0, 0)) (by (with_reducible repeat (first | refine blk_drewN ?_ _ | refine blk_drew ?_ | refine blk_alloc ?_ _)); exact BK1178.out) hb); have n5_ := Aside0.mk (blk_below (g := gb1179) (o := .cells #[.int .i64 0, .slice none 0 0] 26 (0, 0)) (by (with_reducible repeat (first | refine blk_drewN ?_ _ | refine blk_drew ?_ | refine blk_alloc ?_ _)); exact BK1179.out) hb); have n6_ := Aside0.mk (below_step (by repeat (first | (with_reducible first | exact HB.out | apply below_alloc | apply pw_below_drewN | apply below_drew1 | refine below_set ?_ GE1177.out | refine below_set ?_ GE1178.out | refine below_set ?_ GE1179.out) | exact HB.out)) hb); clear HO0_1; clear HO1_1; clear BK1177; clear BK1178; clear BK1179; clear HB; have HO0_1 := n0_; have HO1_1 := n1_; have HO1182 := n2_; have BK1177 := n3_; have BK1178 := n4_; have BK1179 := n5_; have HB := n6_; clear n0_ n1_ n2_ n3_ n4_ n5_ n6_; clear hb ho14; obtain ⟨Ao15, co15, eo15⟩ := Kd.N_slice HO1182.out; subst eo15) | ((with_reducible refine gate_callee (f := 71) rfl ?_); refine goesL_ (some 16) rfl rfl Try.func71 (by kernel_rfl) rfl #[.slice Ao15 y1180.length co15] rfl (by (try simp only [List.map_toArray, List.map_cons, List.map_nil]); first | done | rfl | (simp only [List.length_drop, List.length_take]; rfl)) ?_; (with_reducible refine (impl_areSets.calls k _ _ y1180 true _ ?side1 ?side2 A3.out).mono ?_); (case side1 => repeat (first | exact (Kd.N_reads' HO1182.out).2.2 | (with_reducible refine Kd.C_alloc ?_ _) | (with_reducible refine Kd.C_drewN ?_ _) | (with_reducible refine Kd.C_drew ?_))); (case side2 => exact (Kd.N_reads' HO1182.out).2.1); rintro e w16 ⟨rfl, hb⟩; refine ⟨_, rfl, ?_⟩; have n0_ := Aside0.mk (Kd.V_below (by (with_reducible repeat (first | apply Kd.V_alloc | apply Kd.V_drewN | apply Kd.V_drew)); exact HO0_1.out) hb); have n1_ := Aside0.mk (Kd.V_below (by (with_reducible repeat (first | apply Kd.V_alloc | apply Kd.V_drewN | apply Kd.V_drew)); exact HO1_1.out) hb); have n2_ := Aside0.mk (Kd.N_below (by (with_reducible repeat (first | apply Kd.N_alloc | apply Kd.N_drewN | apply Kd.N_drew)); exact HO1182.out) hb); have n3_ := Aside0.mk (blk_below (g := gb1177) (o := .cells #[.int .i64 a0_0, .slice A0_1 l0_1.length c0_1] 26 (0, 0)) (by (with_reducible repeat (first | refine blk_drewN ?_ _ | refine blk_drew ?_ | refine blk_alloc ?_ _)); exact BK1177.out) hb); have n4_ := Aside0.mk (blk_below (g := gb1178) (o := .cells #[.int .i64 a1_0, .slice A1_1 l1_1.length c1_1] 26 (0, 0)) (by (with_reducible repeat (first | refine blk_drewN ?_ _ | refine blk_drew ?_ | refine blk_alloc ?_ _)); exact BK1178.out) hb); have n5_ := Aside0.mk (blk_below (g := gb1179) (o := .cells #[.int .i64 0, .slice none 0 0] 26 (0, 0)) (by (with_reducible repeat (first | refine blk_drewN ?_ _ | refine blk_drew ?_ | refine blk_alloc ?_ _)); exact BK1179.out) hb); have n6_ := Aside0.mk (below_step (by repeat (first | (with_reducible first | exact HB.out | apply below_alloc | apply pw_below_drewN | apply below_drew1 | refine below_set ?_ GE1177.out | refine below_set ?_ GE1178.out | refine below_set ?_ GE1179.out) | exact HB.out)) hb); clear HO0_1; clear HO1_1; clear HO1182; clear BK1177; clear BK1178; clear BK1179; clear HB; have HO0_1 := n0_; have HO1_1 := n1_; have HO1182 := n2_; have BK1177 := n3_; have BK1178 := n4_; have BK1179 := n5_; have HB := n6_; clear n0_ n1_ n2_ n3_ n4_ n5_ n6_; (try clear hb); (try clear hb2); (try clear hk); (try clear hi)) | ((with_reducible refine gate_dst (N := 19) rfl ?_); refine Kd.R_lit k45 _ 45 ?hg (N := 19) ?hd (xs := ([] : List (S45))) (inner := []) (ok := fun _ => True) (okp := fun _ => True) ?hr ?hp (fun _ hk => hk) trivial (Below.refl _ _) (Nat.le_refl _) (by simp) ?_; (case hd => rfl); (case hg => rfl); (case hr => first | (go_simp; done) | (go_simp; rfl)); (case hp => exact (Reps.none _ _)); intro v1185 w17 ho18 hb hg_ hnew_; clear hg_ hnew_; (first | rw [← Ny1184.out] at ho18 | (simp only [Int.reduceToNat] at ho18; rw [← Ny1184.out] at ho18)); have n0_ := Aside0.mk (Kd.V_elder' (by (with_reducible repeat (first | apply Kd.V_alloc | apply Kd.V_drewN | apply Kd.V_drew)); exact HO0_1.out) (Kd.R_base ho18) hb); have n1_ := Aside0.mk (Kd.V_elder' (by (with_reducible repeat (first | apply Kd.V_alloc | apply Kd.V_drewN | apply Kd.V_drew)); exact HO1_1.out) (Kd.R_base ho18) hb); have n2_ := Aside0.mk (Kd.N_elder' (by (with_reducible repeat (first | apply Kd.N_alloc | apply Kd.N_drewN | apply Kd.N_drew)); exact HO1182.out) (Kd.R_base ho18) hb); have n3_ := Aside0.mk (Kd.R_lower (Kd.R_newM (M := fun k_ => (w.heap.size ≤ k_)) ho18 (below_size (by repeat (first | (with_reducible first | exact HB.out | apply below_alloc | apply pw_below_drewN | apply below_drew1 | refine below_set ?_ GE1177.out | refine below_set ?_ GE1178.out | refine below_set ?_ GE1179.out) | exact HB.out))) (fun k_ h_ => h_)) (below_size (by repeat (first | (with_reducible first | exact HB.out | apply below_alloc | apply pw_below_drewN | apply below_drew1 | refine below_set ?_ GE1177.out | refine below_set ?_ GE1178.out | refine below_set ?_ GE1179.out) | exact HB.out)))); have n4_ := Aside0.mk (blk_below (g := gb1177) (o := .cells #[.int .i64 a0_0, .slice A0_1 l0_1.length c0_1] 26 (0, 0)) (by (with_reducible repeat (first | refine blk_drewN ?_ _ | refine blk_drew ?_ | refine blk_alloc ?_ _)); exact BK1177.out) hb); have n5_ := Aside0.mk (blk_below (g := gb1178) (o := .cells #[.int .i64 a1_0, .slice A1_1 l1_1.length c1_1] 26 (0, 0)) (by (with_reducible repeat (first | refine blk_drewN ?_ _ | refine blk_drew ?_ | refine blk_alloc ?_ _)); exact BK1178.out) hb); have n6_ := Aside0.mk (blk_below (g := gb1179) (o := .cells #[.int .i64 0, .slice none 0 0] 26 (0, 0)) (by (with_reducible repeat (first | refine blk_drewN ?_ _ | refine blk_drew ?_ | refine blk_alloc ?_ _)); exact BK1179.out) hb); have n7_ := Aside0.mk (below_step (by repeat (first | (with_reducible first | exact HB.out | apply below_alloc | apply pw_below_drewN | apply below_drew1 | refine below_set ?_ GE1177.out | refine below_set ?_ GE1178.out | refine below_set ?_ GE1179.out) | exact HB.out)) hb); clear HO0_1; clear HO1_1; clear HO1182; clear BK1177; clear BK1178; clear BK1179; clear HB; have HO0_1 := n0_; have HO1_1 := n1_; have HO1182 := n2_; have HO1186 := n3_; have BK1177 := n4_; have BK1178 := n5_; have BK1179 := n6_; have HB := n7_; clear n0_ n1_ n2_ n3_ n4_ n5_ n6_ n7_; clear hb ho18; have hcz19_0 : w17.cell? ⟨gb1177, 0, none⟩ = some (.int .i64 a0_0) := (blk_cell BK1177.out 0).trans rfl; have hcz19_1 : w17.cell? ⟨gb1177, 1, none⟩ = some (.slice A0_1 l0_1.length c0_1) := (blk_cell BK1177.out 1).trans rfl; have hfz19_0 := blk_frozen BK1177.out 0; have hfz19_1 := blk_frozen BK1177.out 1))
  go_loopg [6, 23] k (fun kq v6 v23 w' => ∃ (x6_1 : List (S45)) (x23_1 : Int), v23 = .int .i64 x23_1 ∧ Aside0 (impl_ProductOfSets.l0 kq x6_1 l0_1 (l0_1.length : Int) x23_1 a0_0 l0_1 a1_0 l1_1 = some (r1, r2, r3)) ∧ Aside0 (kq ≤ k) ∧ Aside0 (Kd.R k45 45 w' w.heap.size (fun k_ => (w.heap.size ≤ k_)) v6 x6_1) ∧ Aside0 (Kd.V k45 45 w' w.heap.size (fun k_ => ((P0_1_ k_ ∨ P1_1_ k_) ∨ w.heap.size ≤ k_) ∧ some k_ ≠ (v6 : Value).ownBlock ∧ k_ ≠ gb1177 ∧ k_ ≠ gb1178 ∧ k_ ≠ gb1179) (.slice A0_1 l0_1.length c0_1) l0_1) ∧ Aside0 (Kd.V k45 45 w' w.heap.size (fun k_ => ((P0_1_ k_ ∨ P1_1_ k_) ∨ w.heap.size ≤ k_) ∧ some k_ ≠ (v6 : Value).ownBlock ∧ k_ ≠ gb1177 ∧ k_ ≠ gb1178 ∧ k_ ≠ gb1179) (.slice A0_1 l0_1.length c0_1) l0_1) ∧ Aside0 (Kd.V k45 45 w' w.heap.size (fun k_ => ((P0_1_ k_ ∨ P1_1_ k_) ∨ w.heap.size ≤ k_) ∧ some k_ ≠ (v6 : Value).ownBlock ∧ k_ ≠ gb1177 ∧ k_ ≠ gb1178 ∧ k_ ≠ gb1179) (.slice A1_1 l1_1.length c1_1) l1_1) ∧ Aside0 (w'.heap[gb1177]? = some (.cells #[.int .i64 a0_0, (.slice A0_1 l0_1.length c0_1)] 26 (0, 0))) ∧ Aside0 (w'.heap[gb1178]? = some (.cells #[.int .i64 a1_0, (.slice A1_1 l1_1.length c1_1)] 26 (0, 0))) ∧ Aside0 (w'.heap[gb1179]? = some (.cells #[.int .i64 0, (.slice none 0 0)] 26 (0, 0))) ∧ Aside0 (Below w.heap.size w w'))
  case atStart => exact ⟨(y1184), (0), (by first | rfl | (simp; done) | (simp [*]; done) | (simp; decide +kernel)), H', ⟨Nat.le_refl _⟩, ⟨by (with_reducible repeat (first | apply Kd.R_alloc | apply Kd.R_drewN | apply Kd.R_drew)); exact Kd.R_mono HO1186.out (fun _ hk => hk.1)⟩, ⟨by (with_reducible repeat (first | apply Kd.V_alloc | apply Kd.V_drewN | apply Kd.V_drew)); exact Kd.V_mono HO0_1.out (fun _ hk => ⟨hk.1.1.1.1.1, ⟨hk.2, ⟨hk.1.1.1.1.2, ⟨hk.1.1.1.2, hk.1.1.2⟩⟩⟩⟩)⟩, ⟨by (with_reducible repeat (first | apply Kd.V_alloc | apply Kd.V_drewN | apply Kd.V_drew)); exact Kd.V_mono HO0_1.out (fun _ hk => ⟨hk.1.1.1.1.1, ⟨hk.2, ⟨hk.1.1.1.1.2, ⟨hk.1.1.1.2, hk.1.1.2⟩⟩⟩⟩)⟩, ⟨by (with_reducible repeat (first | apply Kd.V_alloc | apply Kd.V_drewN | apply Kd.V_drew)); exact Kd.V_mono HO1_1.out (fun _ hk => ⟨hk.1.1.1.1.1, ⟨hk.2, ⟨hk.1.1.1.1.2, ⟨hk.1.1.1.2, hk.1.1.2⟩⟩⟩⟩)⟩, ⟨by (with_reducible repeat (first | refine blk_drewN ?_ _ | refine blk_drew ?_ | refine blk_alloc ?_ _)); exact BK1177.out⟩, ⟨by (with_reducible repeat (first | refine blk_drewN ?_ _ | refine blk_drew ?_ | refine blk_alloc ?_ _)); exact BK1178.out⟩, ⟨by (with_reducible repeat (first | refine blk_drewN ?_ _ | refine blk_drew ?_ | refine blk_alloc ?_ _)); exact BK1179.out⟩, ⟨by repeat (first | (with_reducible first | exact HB.out | apply below_alloc | apply pw_below_drewN | apply below_drew1 | refine below_set ?_ GE1177.out | refine below_set ?_ GE1178.out | refine below_set ?_ GE1179.out) | exact HB.out)⟩⟩
  case round =>
   clear H'
   try clear c1
   try clear c2
   try clear p2
   try clear c3
   try clear c4
   try clear c7
   try clear c8
   try clear c9
   try clear c11
   try clear hcz10_0
   try clear hcz10_1
   try clear hcz12_0
   try clear hcz12_1
   try clear hcz19_0
   try clear hcz19_1
   try clear hfz10_0
   try clear hfz10_1
   try clear hfz12_0
   try clear hfz12_1
   try clear hfz19_0
   try clear hfz19_1
   obtain ⟨x6_1, x23_1, rfl, HA, HK1, HO_6, HO_21, HO_1178001, HO_1179001, BK1177, BK1178, BK1179, HB⟩ := hrel
   cases gk with
   | zero => exact absurd HA.out (by simp [impl_ProductOfSets.l0])
   | succ k1 =>
    have H := HA.out
    clear HA
    simp only [impl_ProductOfSets.l0] at H
    by_cases c20 : x23_1 < (l0_1.length : Int)
    ·rw [if_pos c20] at H
     have c20b0 : decide (x23_1 < (l0_1.length : Int)) = true := decide_eq_true c20
     clear c20
     by_cases c21 : 0 ≤ x23_1
     ·rw [if_pos c21] at H
      have c21b0 : decide (0 ≤ x23_1) = true := decide_eq_true c21
      clear c21
      by_cases c22 : x23_1 < (l0_1.length : Int)
      ·rw [if_pos c22] at H
       have c22b0 : decide (x23_1 < (l0_1.length : Int)) = true := decide_eq_true c22
       clear c22
       have H' := Aside0.mk H
       clear H
       have p1192 : 0 ≤ (x23_1 : Int) := of_decide_eq_true (by first | (with_reducible assumption) | assumption)
       have q1192 : x23_1 < (l0_1.length : Int) := of_decide_eq_true (by first | (with_reducible assumption) | assumption)
       obtain ⟨ad1192, e1192, hx1192_0, hx1192_1, hx1192_2, hx1192_3⟩ := at_T45 (Kd.V_reads' HO_21.out).2.2 x23_1 p1192 q1192
       cases e1192
       replace p1192 := eq_true p1192
       replace q1192 := eq_true q1192
       go_wp2_with (first | ((with_reducible refine gate_dst (N := 8) rfl ?_); refine box_event ?hg (N := 8) ?hd (cs := #[.int .i64 0, .int .i64 0, .int .i64 0, .int .i64 0]) (t := 45) ?hr ?_; (case hd => rfl); (case hg => rfl); (case hr => first | (go_simp; done) | (go_simp; rfl)); intro gb1193 hg w23 hbox hb; have n0_ := Aside0.mk (Kd.R_below (Kd.R_elderB (by (with_reducible repeat (first | apply Kd.R_alloc | apply Kd.R_drewN | apply Kd.R_drew)); exact HO_6.out) gb1193 (Nat.le_of_eq hg.symm)) hb); have n1_ := Aside0.mk (Kd.V_below (Kd.V_elderB (by (with_reducible repeat (first | apply Kd.V_alloc | apply Kd.V_drewN | apply Kd.V_drew)); exact HO_21.out) gb1193 (Nat.le_of_eq hg.symm)) hb); have n2_ := Aside0.mk (Kd.V_below (Kd.V_elderB (by (with_reducible repeat (first | apply Kd.V_alloc | apply Kd.V_drewN | apply Kd.V_drew)); exact HO_1178001.out) gb1193 (Nat.le_of_eq hg.symm)) hb); have n3_ := Aside0.mk (Kd.V_below (Kd.V_elderB (by (with_reducible repeat (first | apply Kd.V_alloc | apply Kd.V_drewN | apply Kd.V_drew)); exact HO_1179001.out) gb1193 (Nat.le_of_eq hg.symm)) hb); have n4_ := Aside0.mk (blk_below (g := gb1177) (o := .cells #[.int .i64 a0_0, .slice (some ad1192) l0_1.length c0_1] 26 (0, 0)) (by (with_reducible repeat (first | refine blk_drewN ?_ _ | refine blk_drew ?_ | refine blk_alloc ?_ _)); exact BK1177.out) hb); have n5_ := Aside0.mk (blk_below (g := gb1178) (o := .cells #[.int .i64 a1_0, .slice A1_1 l1_1.length c1_1] 26 (0, 0)) (by (with_reducible repeat (first | refine blk_drewN ?_ _ | refine blk_drew ?_ | refine blk_alloc ?_ _)); exact BK1178.out) hb); have n6_ := Aside0.mk (blk_below (g := gb1179) (o := .cells #[.int .i64 0, .slice none 0 0] 26 (0, 0)) (by (with_reducible repeat (first | refine blk_drewN ?_ _ | refine blk_drew ?_ | refine blk_alloc ?_ _)); exact BK1179.out) hb); have n7_ := Aside0.mk (below_step (by repeat (first | (with_reducible first | exact HB.out | apply below_alloc | apply pw_below_drewN | apply below_drew1 | refine below_set ?_ GE1177.out | refine below_set ?_ GE1178.out | refine below_set ?_ GE1179.out) | exact HB.out)) hb); have n8_ := Aside0.mk (hbox); have n9_ := Aside0.mk ((by rw [hg]; exact (below_size (by repeat (first | (with_reducible first | exact HB.out | apply below_alloc | apply pw_below_drewN | apply below_drew1 | refine below_set ?_ GE1177.out | refine below_set ?_ GE1178.out | refine below_set ?_ GE1179.out) | exact HB.out))) : w.heap.size ≤ gb1193)); have n10_ := Aside0.mk ((by rw [hg]; exact (below_size (by repeat (first | (with_reducible first | exact HB.out | apply below_alloc | apply pw_below_drewN | apply below_drew1 | refine below_set ?_ GE1177.out | refine below_set ?_ GE1178.out | refine below_set ?_ GE1179.out) | exact HB.out))) : w.heap.size ≤ gb1193)); have n11_ := Aside0.mk ((by rw [hg]; exact Nat.ne_of_lt (blk_lt (g := gb1177) (o := .cells #[.int .i64 a0_0, .slice (some ad1192) l0_1.length c0_1] 26 (0, 0)) (by (with_reducible repeat (first | refine blk_drewN ?_ _ | refine blk_drew ?_ | refine blk_alloc ?_ _)); exact BK1177.out)) : gb1177 ≠ gb1193)); have n12_ := Aside0.mk ((by rw [hg]; exact Nat.ne_of_gt (blk_lt (g := gb1177) (o := .cells #[.int .i64 a0_0, .slice (some ad1192) l0_1.length c0_1] 26 (0, 0)) (by (with_reducible repeat (first | refine blk_drewN ?_ _ | refine blk_drew ?_ | refine blk_alloc ?_ _)); exact BK1177.out)) : gb1193 ≠ gb1177)); have n13_ := Aside0.mk ((by rw [hg]; exact Nat.ne_of_lt (blk_lt (g := gb1178) (o := .cells #[.int .i64 a1_0, .slice A1_1 l1_1.length c1_1] 26 (0, 0)) (by (with_reducible repeat (first | refine blk_drewN ?_ _ | refine blk_drew ?_ | refine blk_alloc ?_ _)); exact BK1178.out)) : gb1178 ≠ gb1193)); have n14_ := Aside0.mk ((by rw [hg]; exact Nat.ne_of_gt (blk_lt (g := gb1178) (o := .cells #[.int .i64 a1_0, .slice A1_1 l1_1.length c1_1] 26 (0, 0)) (by (with_reducible repeat (first | refine blk_drewN ?_ _ | refine blk_drew ?_ | refine blk_alloc ?_ _)); exact BK1178.out)) : gb1193 ≠ gb1178)); have n15_ := Aside0.mk ((by rw [hg]; exact Nat.ne_of_lt (blk_lt (g := gb1179) (o := .cells #[.int .i64 0, .slice none 0 0] 26 (0, 0)) (by (with_reducible repeat (first | refine blk_drewN ?_ _ | refine blk_drew ?_ | refine blk_alloc ?_ _)); exact BK1179.out)) : gb1179 ≠ gb1193)); have n16_ := Aside0.mk ((by rw [hg]; exact Nat.ne_of_gt (blk_lt (g := gb1179) (o := .cells #[.int .i64 0, .slice none 0 0] 26 (0, 0)) (by (with_reducible repeat (first | refine blk_drewN ?_ _ | refine blk_drew ?_ | refine blk_alloc ?_ _)); exact BK1179.out)) : gb1193 ≠ gb1179)); clear HO_6; clear HO_21; clear HO_1178001; clear HO_1179001; clear BK1177; clear BK1178; clear BK1179; clear HB; have HO_6 := n0_; have HO_21 := n1_; have HO_1178001 := n2_; have HO_1179001 := n3_; have BK1177 := n4_; have BK1178 := n5_; have BK1179 := n6_; have HB := n7_; have BK1193 := n8_; have GW1193 := n9_; have GE1193 := n10_; have NB1177_1193 := n11_; have NB1193_1177 := n12_; have NB1178_1193 := n13_; have NB1193_1178 := n14_; have NB1179_1193 := n15_; have NB1193_1179 := n16_; clear n0_ n1_ n2_ n3_ n4_ n5_ n6_ n7_ n8_ n9_ n10_ n11_ n12_ n13_ n14_ n15_ n16_; clear hb hbox hg; have hnb24 := NB1193_1177.out; have hnc24 := NB1177_1193.out; have hnb25 := NB1193_1178.out; have hnc25 := NB1178_1193.out; have hnb26 := NB1193_1179.out; have hnc26 := NB1179_1193.out; have hcz27_0 : w23.cell? ⟨gb1193, 0, none⟩ = some (.int .i64 0) := (blk_cell BK1193.out 0).trans rfl; have hcz27_1 : w23.cell? ⟨gb1193, 1, none⟩ = some (.int .i64 0) := (blk_cell BK1193.out 1).trans rfl; have hcz27_2 : w23.cell? ⟨gb1193, 2, none⟩ = some (.int .i64 0) := (blk_cell BK1193.out 2).trans rfl; have hcz27_3 : w23.cell? ⟨gb1193, 3, none⟩ = some (.int .i64 0) := (blk_cell BK1193.out 3).trans rfl; have hfz27_0 := blk_frozen BK1193.out 0; have hfz27_1 := blk_frozen BK1193.out 1; have hfz27_2 := blk_frozen BK1193.out 2; have hfz27_3 := blk_frozen BK1193.out 3; have hnb28 := NB1178_1177.out; have hnc28 := NB1177_1178.out; have hnb29 := NB1178_1179.out; have hnc29 := NB1179_1178.out; have hcz30_0 : w23.cell? ⟨gb1178, 0, none⟩ = some (.int .i64 a1_0) := (blk_cell BK1178.out 0).trans rfl; have hcz30_1 : w23.cell? ⟨gb1178, 1, none⟩ = some (.slice A1_1 l1_1.length c1_1) := (blk_cell BK1178.out 1).trans rfl; have hfz30_0 := blk_frozen BK1178.out 0; have hfz30_1 := blk_frozen BK1178.out 1))
       go_loopg [6, 30] k1 (fun kq v6 v30 w' => ∃ (x6_2 : List (S45)) (x30_2 : Int), v30 = .int .i64 x30_2 ∧ Aside0 (impl_ProductOfSets.l1 kq x6_2 l0_1 (l0_1.length : Int) x23_1 l1_1 (l1_1.length : Int) x30_2 a0_0 l0_1 a1_0 l1_1 ((rd_T45 l0_1 x23_1).f0) ((rd_T45 l0_1 x23_1).f1) ((rd_T45 l0_1 x23_1).f2) ((rd_T45 l0_1 x23_1).f3) = some (r1, r2, r3)) ∧ Aside0 (kq ≤ k1) ∧ Aside0 (Kd.R k45 45 w' w.heap.size (fun k_ => (w.heap.size ≤ k_) ∧ k_ ≠ gb1193) v6 x6_2) ∧ Aside0 (Kd.V k45 45 w' w.heap.size (fun k_ => ((P0_1_ k_ ∨ P1_1_ k_) ∨ w.heap.size ≤ k_) ∧ some k_ ≠ (v6 : Value).ownBlock ∧ k_ ≠ gb1177 ∧ k_ ≠ gb1178 ∧ k_ ≠ gb1179 ∧ k_ ≠ gb1193) (.slice (some ad1192) l0_1.length c0_1) l0_1) ∧ Aside0 (Kd.V k45 45 w' w.heap.size (fun k_ => ((P0_1_ k_ ∨ P1_1_ k_) ∨ w.heap.size ≤ k_) ∧ some k_ ≠ (v6 : Value).ownBlock ∧ k_ ≠ gb1177 ∧ k_ ≠ gb1178 ∧ k_ ≠ gb1179 ∧ k_ ≠ gb1193) (.slice A1_1 l1_1.length c1_1) l1_1) ∧ Aside0 (Kd.V k45 45 w' w.heap.size (fun k_ => ((P0_1_ k_ ∨ P1_1_ k_) ∨ w.heap.size ≤ k_) ∧ some k_ ≠ (v6 : Value).ownBlock ∧ k_ ≠ gb1177 ∧ k_ ≠ gb1178 ∧ k_ ≠ gb1179 ∧ k_ ≠ gb1193) (.slice (some ad1192) l0_1.length c0_1) l0_1) ∧ Aside0 (Kd.V k45 45 w' w.heap.size (fun k_ => ((P0_1_ k_ ∨ P1_1_ k_) ∨ w.heap.size ≤ k_) ∧ some k_ ≠ (v6 : Value).ownBlock ∧ k_ ≠ gb1177 ∧ k_ ≠ gb1178 ∧ k_ ≠ gb1179 ∧ k_ ≠ gb1193) (.slice A1_1 l1_1.length c1_1) l1_1) ∧ Aside0 (w'.heap[gb1177]? = some (.cells #[.int .i64 a0_0, (.slice (some ad1192) l0_1.length c0_1)] 26 (0, 0))) ∧ Aside0 (w'.heap[gb1178]? = some (.cells #[.int .i64 a1_0, (.slice A1_1 l1_1.length c1_1)] 26 (0, 0))) ∧ Aside0 (w'.heap[gb1179]? = some (.cells #[.int .i64 0, (.slice none 0 0)] 26 (0, 0))) ∧ Aside0 (w'.heap[gb1193]? = some (.cells #[.int .i64 ((rd_T45 l0_1 x23_1).f0), .int .i64 ((rd_T45 l0_1 x23_1).f1), .int .i64 ((rd_T45 l0_1 x23_1).f2), .int .i64 ((rd_T45 l0_1 x23_1).f3)] 45 (0, 0))) ∧ Aside0 (Below w.heap.size w w'))
       case atStart => exact ⟨(x6_1), (0), (by first | rfl | (simp; done) | (simp [*]; done) | (simp; decide +kernel)), H', ⟨Nat.le_refl _⟩, ⟨by (with_reducible repeat (first | apply Kd.R_alloc | apply Kd.R_drewN | apply Kd.R_drew)); exact Kd.R_mono (Kd.R_far (p := ⟨gb1193, 3, none⟩) (Kd.R_far (p := ⟨gb1193, 2, none⟩) (Kd.R_far (p := ⟨gb1193, 1, none⟩) (Kd.R_far (p := ⟨gb1193, 0, none⟩) (Kd.R_mono HO_6.out (fun k_ hk => (⟨hk, hk.2⟩ : _ ∧ k_ ≠ gb1193))) (fun _ hk => hk.2) (.int .i64 ((rd_T45 l0_1 x23_1).f0))) (fun _ hk => hk.2) (.int .i64 ((rd_T45 l0_1 x23_1).f1))) (fun _ hk => hk.2) (.int .i64 ((rd_T45 l0_1 x23_1).f2))) (fun _ hk => hk.2) (.int .i64 ((rd_T45 l0_1 x23_1).f3))) (fun _ hk => ⟨hk.1.1, hk.1.2⟩)⟩, ⟨by (with_reducible repeat (first | apply Kd.V_alloc | apply Kd.V_drewN | apply Kd.V_drew)); exact Kd.V_mono (Kd.V_far (p := ⟨gb1193, 3, none⟩) (Kd.V_far (p := ⟨gb1193, 2, none⟩) (Kd.V_far (p := ⟨gb1193, 1, none⟩) (Kd.V_far (p := ⟨gb1193, 0, none⟩) (Kd.V_mono HO_21.out (fun k_ hk => (⟨hk, hk.2⟩ : _ ∧ k_ ≠ gb1193))) (fun _ hk => hk.2) (.int .i64 ((rd_T45 l0_1 x23_1).f0))) (fun _ hk => hk.2) (.int .i64 ((rd_T45 l0_1 x23_1).f1))) (fun _ hk => hk.2) (.int .i64 ((rd_T45 l0_1 x23_1).f2))) (fun _ hk => hk.2) (.int .i64 ((rd_T45 l0_1 x23_1).f3))) (fun _ hk => ⟨hk.1.1.1, ⟨hk.1.1.2.1, ⟨hk.1.1.2.2.1, ⟨hk.1.1.2.2.2.1, ⟨hk.1.1.2.2.2.2, hk.1.2⟩⟩⟩⟩⟩)⟩, ⟨by (with_reducible repeat (first | apply Kd.V_alloc | apply Kd.V_drewN | apply Kd.V_drew)); exact Kd.V_mono (Kd.V_far (p := ⟨gb1193, 3, none⟩) (Kd.V_far (p := ⟨gb1193, 2, none⟩) (Kd.V_far (p := ⟨gb1193, 1, none⟩) (Kd.V_far (p := ⟨gb1193, 0, none⟩) (Kd.V_mono HO_1179001.out (fun k_ hk => (⟨hk, hk.2⟩ : _ ∧ k_ ≠ gb1193))) (fun _ hk => hk.2) (.int .i64 ((rd_T45 l0_1 x23_1).f0))) (fun _ hk => hk.2) (.int .i64 ((rd_T45 l0_1 x23_1).f1))) (fun _ hk => hk.2) (.int .i64 ((rd_T45 l0_1 x23_1).f2))) (fun _ hk => hk.2) (.int .i64 ((rd_T45 l0_1 x23_1).f3))) (fun _ hk => ⟨hk.1.1.1, ⟨hk.1.1.2.1, ⟨hk.1.1.2.2.1, ⟨hk.1.1.2.2.2.1, ⟨hk.1.1.2.2.2.2, hk.1.2⟩⟩⟩⟩⟩)⟩, ⟨by (with_reducible repeat (first | apply Kd.V_alloc | apply Kd.V_drewN | apply Kd.V_drew)); exact Kd.V_mono (Kd.V_far (p := ⟨gb1193, 3, none⟩) (Kd.V_far (p := ⟨gb1193, 2, none⟩) (Kd.V_far (p := ⟨gb1193, 1, none⟩) (Kd.V_far (p := ⟨gb1193, 0, none⟩) (Kd.V_mono HO_1178001.out (fun k_ hk => (⟨hk, hk.2⟩ : _ ∧ k_ ≠ gb1193))) (fun _ hk => hk.2) (.int .i64 ((rd_T45 l0_1 x23_1).f0))) (fun _ hk => hk.2) (.int .i64 ((rd_T45 l0_1 x23_1).f1))) (fun _ hk => hk.2) (.int .i64 ((rd_T45 l0_1 x23_1).f2))) (fun _ hk => hk.2) (.int .i64 ((rd_T45 l0_1 x23_1).f3))) (fun _ hk => ⟨hk.1.1.1, ⟨hk.1.1.2.1, ⟨hk.1.1.2.2.1, ⟨hk.1.1.2.2.2.1, ⟨hk.1.1.2.2.2.2, hk.1.2⟩⟩⟩⟩⟩)⟩, ⟨by (with_reducible repeat (first | apply Kd.V_alloc | apply Kd.V_drewN | apply Kd.V_drew)); exact Kd.V_mono (Kd.V_far (p := ⟨gb1193, 3, none⟩) (Kd.V_far (p := ⟨gb1193, 2, none⟩) (Kd.V_far (p := ⟨gb1193, 1, none⟩) (Kd.V_far (p := ⟨gb1193, 0, none⟩) (Kd.V_mono HO_1179001.out (fun k_ hk => (⟨hk, hk.2⟩ : _ ∧ k_ ≠ gb1193))) (fun _ hk => hk.2) (.int .i64 ((rd_T45 l0_1 x23_1).f0))) (fun _ hk => hk.2) (.int .i64 ((rd_T45 l0_1 x23_1).f1))) (fun _ hk => hk.2) (.int .i64 ((rd_T45 l0_1 x23_1).f2))) (fun _ hk => hk.2) (.int .i64 ((rd_T45 l0_1 x23_1).f3))) (fun _ hk => ⟨hk.1.1.1, ⟨hk.1.1.2.1, ⟨hk.1.1.2.2.1, ⟨hk.1.1.2.2.2.1, ⟨hk.1.1.2.2.2.2, hk.1.2⟩⟩⟩⟩⟩)⟩, ⟨by (with_reducible repeat (first | refine blk_drewN ?_ _ | refine blk_drew ?_ | refine blk_alloc ?_ _)); refine blk_far ?_ NB1177_1193.out _; (with_reducible repeat (first | refine blk_drewN ?_ _ | refine blk_drew ?_ | refine blk_alloc ?_ _)); refine blk_far ?_ NB1177_1193.out _; (with_reducible repeat (first | refine blk_drewN ?_ _ | refine blk_drew ?_ | refine blk_alloc ?_ _)); refine blk_far ?_ NB1177_1193.out _; (with_reducible repeat (first | refine blk_drewN ?_ _ | refine blk_drew ?_ | refine blk_alloc ?_ _)); refine blk_far ?_ NB1177_1193.out _; (with_reducible repeat (first | refine blk_drewN ?_ _ | refine blk_drew ?_ | refine blk_alloc ?_ _)); exact BK1177.out⟩, ⟨by (with_reducible repeat (first | refine blk_drewN ?_ _ | refine blk_drew ?_ | refine blk_alloc ?_ _)); refine blk_far ?_ NB1178_1193.out _; (with_reducible repeat (first | refine blk_drewN ?_ _ | refine blk_drew ?_ | refine blk_alloc ?_ _)); refine blk_far ?_ NB1178_1193.out _; (with_reducible repeat (first | refine blk_drewN ?_ _ | refine blk_drew ?_ | refine blk_alloc ?_ _)); refine blk_far ?_ NB1178_1193.out _; (with_reducible repeat (first | refine blk_drewN ?_ _ | refine blk_drew ?_ | refine blk_alloc ?_ _)); refine blk_far ?_ NB1178_1193.out _; (with_reducible repeat (first | refine blk_drewN ?_ _ | refine blk_drew ?_ | refine blk_alloc ?_ _)); exact BK1178.out⟩, ⟨by (with_reducible repeat (first | refine blk_drewN ?_ _ | refine blk_drew ?_ | refine blk_alloc ?_ _)); refine blk_far ?_ NB1179_1193.out _; (with_reducible repeat (first | refine blk_drewN ?_ _ | refine blk_drew ?_ | refine blk_alloc ?_ _)); refine blk_far ?_ NB1179_1193.out _; (with_reducible repeat (first | refine blk_drewN ?_ _ | refine blk_drew ?_ | refine blk_alloc ?_ _)); refine blk_far ?_ NB1179_1193.out _; (with_reducible repeat (first | refine blk_drewN ?_ _ | refine blk_drew ?_ | refine blk_alloc ?_ _)); refine blk_far ?_ NB1179_1193.out _; (with_reducible repeat (first | refine blk_drewN ?_ _ | refine blk_drew ?_ | refine blk_alloc ?_ _)); exact BK1179.out⟩, ⟨by (with_reducible repeat (first | refine blk_drewN ?_ _ | refine blk_drew ?_ | refine blk_alloc ?_ _)); refine blk_put (cs := #[.int .i64 ((rd_T45 l0_1 x23_1).f0), .int .i64 ((rd_T45 l0_1 x23_1).f1), .int .i64 ((rd_T45 l0_1 x23_1).f2), .int .i64 0]) ?_ 3 _ rfl; (with_reducible repeat (first | refine blk_drewN ?_ _ | refine blk_drew ?_ | refine blk_alloc ?_ _)); refine blk_put (cs := #[.int .i64 ((rd_T45 l0_1 x23_1).f0), .int .i64 ((rd_T45 l0_1 x23_1).f1), .int .i64 0, .int .i64 0]) ?_ 2 _ rfl; (with_reducible repeat (first | refine blk_drewN ?_ _ | refine blk_drew ?_ | refine blk_alloc ?_ _)); refine blk_put (cs := #[.int .i64 ((rd_T45 l0_1 x23_1).f0), .int .i64 0, .int .i64 0, .int .i64 0]) ?_ 1 _ rfl; (with_reducible repeat (first | refine blk_drewN ?_ _ | refine blk_drew ?_ | refine blk_alloc ?_ _)); refine blk_put (cs := #[.int .i64 0, .int .i64 0, .int .i64 0, .int .i64 0]) ?_ 0 _ rfl; (with_reducible repeat (first | refine blk_drewN ?_ _ | refine blk_drew ?_ | refine blk_alloc ?_ _)); exact BK1193.out⟩, ⟨by repeat (first | (with_reducible first | exact HB.out | apply below_alloc | apply pw_below_drewN | apply below_drew1 | refine below_set ?_ GE1177.out | refine below_set ?_ GE1178.out | refine below_set ?_ GE1179.out | refine below_set ?_ GE1193.out) | exact HB.out)⟩⟩
       case round =>
        clear H'
        try clear c1
        try clear p1
        try clear q1
        try clear hx1
        try clear c2
        try clear p2
        try clear c3
        try clear c4
        try clear c7
        try clear c8
        try clear c9
        try clear c11
        try clear p11
        try clear q11
        try clear hx11
        try clear c20
        try clear c20b0
        try clear c21
        try clear c21b0
        try clear c22
        try clear c22b0
        try clear c24
        try clear c25
        try clear c26
        try clear c28
        try clear c29
        try clear hcz10_0
        try clear hcz10_1
        try clear hcz12_0
        try clear hcz12_1
        try clear hcz19_0
        try clear hcz19_1
        try clear hcz27_0
        try clear hcz27_1
        try clear hcz27_2
        try clear hcz27_3
        try clear hcz30_0
        try clear hcz30_1
        try clear hfz10_0
        try clear hfz10_1
        try clear hfz12_0
        try clear hfz12_1
        try clear hfz19_0
        try clear hfz19_1
        try clear hfz27_0
        try clear hfz27_1
        try clear hfz27_2
        try clear hfz27_3
        try clear hfz30_0
        try clear hfz30_1
        try clear hx1192_0
        try clear hx1192_1
        try clear hx1192_2
        try clear hx1192_3
        try clear p1192
        try clear p2
        try clear q1192
        obtain ⟨x6_2, x30_2, rfl, HA, HK2, HO_6, HO_21, HO_28, HO_1178001, HO_1179001, BK1177, BK1178, BK1179, BK1193, HB⟩ := hrel
        cases gk with
        | zero => exact absurd HA.out (by simp [impl_ProductOfSets.l1])
        | succ k2 =>
         have H := HA.out
         clear HA
         simp only [impl_ProductOfSets.l1] at H
         by_cases c31 : x30_2 < (l1_1.length : Int)
         ·rw [if_pos c31] at H
          have c31b0 : decide (x30_2 < (l1_1.length : Int)) = true := decide_eq_true c31
          clear c31
          by_cases c32 : 0 ≤ x30_2
          ·rw [if_pos c32] at H
           have c32b0 : decide (0 ≤ x30_2) = true := decide_eq_true c32
           clear c32
           by_cases c33 : x30_2 < (l1_1.length : Int)
           ·rw [if_pos c33] at H
            have c33b0 : decide (x30_2 < (l1_1.length : Int)) = true := decide_eq_true c33
            clear c33
            have H' := Aside0.mk H
            clear H
            have p1194 : 0 ≤ (x30_2 : Int) := of_decide_eq_true (by first | (with_reducible assumption) | assumption)
            have q1194 : x30_2 < (l1_1.length : Int) := of_decide_eq_true (by first | (with_reducible assumption) | assumption)
            obtain ⟨ad1194, e1194, hx1194_0, hx1194_1, hx1194_2, hx1194_3⟩ := at_T45 (Kd.V_reads' HO_28.out).2.2 x30_2 p1194 q1194
            cases e1194
            replace p1194 := eq_true p1194
            replace q1194 := eq_true q1194
            go_wp2_with (first | ((with_reducible refine gate_dst (N := 10) rfl ?_); refine box_event ?hg (N := 10) ?hd (cs := #[.int .i64 0, .int .i64 0, .int .i64 0, .int .i64 0]) (t := 45) ?hr ?_; (case hd => rfl); (case hg => rfl); (case hr => first | (go_simp; done) | (go_simp; rfl)); intro gb1195 hg w34 hbox hb; have n0_ := Aside0.mk (Kd.R_below (Kd.R_elderB (by (with_reducible repeat (first | apply Kd.R_alloc | apply Kd.R_drewN | apply Kd.R_drew)); exact HO_6.out) gb1195 (Nat.le_of_eq hg.symm)) hb); have n1_ := Aside0.mk (Kd.V_below (Kd.V_elderB (by (with_reducible repeat (first | apply Kd.V_alloc | apply Kd.V_drewN | apply Kd.V_drew)); exact HO_21.out) gb1195 (Nat.le_of_eq hg.symm)) hb); have n2_ := Aside0.mk (Kd.V_below (Kd.V_elderB (by (with_reducible repeat (first | apply Kd.V_alloc | apply Kd.V_drewN | apply Kd.V_drew)); exact HO_28.out) gb1195 (Nat.le_of_eq hg.symm)) hb); have n3_ := Aside0.mk (Kd.V_below (Kd.V_elderB (by (with_reducible repeat (first | apply Kd.V_alloc | apply Kd.V_drewN | apply Kd.V_drew)); exact HO_1178001.out) gb1195 (Nat.le_of_eq hg.symm)) hb); have n4_ := Aside0.mk (Kd.V_below (Kd.V_elderB (by (with_reducible repeat (first | apply Kd.V_alloc | apply Kd.V_drewN | apply Kd.V_drew)); exact HO_1179001.out) gb1195 (Nat.le_of_eq hg.symm)) hb); have n5_ := Aside0.mk (blk_below (g := gb1177) (o := .cells #[.int .i64 a0_0, .slice (some ad1192) l0_1.length c0_1] 26 (0, 0)) (by (with_reducible repeat (first | refine blk_drewN ?_ _ | refine blk_drew ?_ | refine blk_alloc ?_ _)); exact BK1177.out) hb); have n6_ := Aside0.mk (blk_below (g := gb1178) (o := .cells #[.int .i64 a1_0, .slice (some ad1194) l1_1.length c1_1] 26 (0, 0)) (by (with_reducible repeat (first | refine blk_drewN ?_ _ | refine blk_drew ?_ | refine blk_alloc ?_ _)); exact BK1178.out) hb); have n7_ := Aside0.mk (blk_below (g := gb1179) (o := .cells #[.int .i64 0, .slice none 0 0] 26 (0, 0)) (by (with_reducible repeat (first | refine blk_drewN ?_ _ | refine blk_drew ?_ | refine blk_alloc ?_ _)); exact BK1179.out) hb); have n8_ := Aside0.mk (blk_below (g := gb1193) (o := .cells #[.int .i64 ((rd_T45 l0_1 x23_1).f0), .int .i64 ((rd_T45 l0_1 x23_1).f1), .int .i64 ((rd_T45 l0_1 x23_1).f2), .int .i64 ((rd_T45 l0_1 x23_1).f3)] 45 (0, 0)) (by (with_reducible repeat (first | refine blk_drewN ?_ _ | refine blk_drew ?_ | refine blk_alloc ?_ _)); exact BK1193.out) hb); have n9_ := Aside0.mk (below_step (by repeat (first | (with_reducible first | exact HB.out | apply below_alloc | apply pw_below_drewN | apply below_drew1 | refine below_set ?_ GE1177.out | refine below_set ?_ GE1178.out | refine below_set ?_ GE1179.out | refine below_set ?_ GE1193.out) | exact HB.out)) hb); have n10_ := Aside0.mk (hbox); have n11_ := Aside0.mk ((by rw [hg]; exact (below_size (by repeat (first | (with_reducible first | exact HB.out | apply below_alloc | apply pw_below_drewN | apply below_drew1 | refine below_set ?_ GE1177.out | refine below_set ?_ GE1178.out | refine below_set ?_ GE1179.out | refine below_set ?_ GE1193.out) | exact HB.out))) : w.heap.size ≤ gb1195)); have n12_ := Aside0.mk ((by rw [hg]; exact (below_size (by repeat (first | (with_reducible first | exact HB.out | apply below_alloc | apply pw_below_drewN | apply below_drew1 | refine below_set ?_ GE1177.out | refine below_set ?_ GE1178.out | refine below_set ?_ GE1179.out | refine below_set ?_ GE1193.out) | exact HB.out))) : w.heap.size ≤ gb1195)); have n13_ := Aside0.mk ((by rw [hg]; exact Nat.ne_of_lt (blk_lt (g := gb1177) (o := .cells #[.int .i64 a0_0, .slice (some ad1192) l0_1.length c0_1] 26 (0, 0)) (by (with_reducible repeat (first | refine blk_drewN ?_ _ | refine blk_drew ?_ | refine blk_alloc ?_ _)); exact BK1177.out)) : gb1177 ≠ gb1195)); have n14_ := Aside0.mk ((by rw [hg]; exact Nat.ne_of_gt (blk_lt (g := gb1177) (o := .cells #[.int .i64 a0_0, .slice (some ad1192) l0_1.length c0_1] 26 (0, 0)) (by (with_reducible repeat (first | refine blk_drewN ?_ _ | refine blk_drew ?_ | refine blk_alloc ?_ _)); exact BK1177.out)) : gb1195 ≠ gb1177)); have n15_ := Aside0.mk ((by rw [hg]; exact Nat.ne_of_lt (blk_lt (g := gb1178) (o := .cells #[.int .i64 a1_0, .slice (some ad1194) l1_1.length c1_1] 26 (0, 0)) (by (with_reducible repeat (first | refine blk_drewN ?_ _ | refine blk_drew ?_ | refine blk_alloc ?_ _)); exact BK1178.out)) : gb1178 ≠ gb1195)); have n16_ := Aside0.mk ((by rw [hg]; exact Nat.ne_of_gt (blk_lt (g := gb1178) (o := .cells #[.int .i64 a1_0, .slice (some ad1194) l1_1.length c1_1] 26 (0, 0)) (by (with_reducible repeat (first | refine blk_drewN ?_ _ | refine blk_drew ?_ | refine blk_alloc ?_ _)); exact BK1178.out)) : gb1195 ≠ gb1178)); have n17_ := Aside0.mk ((by rw [hg]; exact Nat.ne_of_lt (blk_lt (g := gb1179) (o := .cells #[.int .i64 0, .slice none 0 0] 26 (0, 0)) (by (with_reducible repeat (first | refine blk_drewN ?_ _ | refine blk_drew ?_ | refine blk_alloc ?_ _)); exact BK1179.out)) : gb1179 ≠ gb1195)); have n18_ := Aside0.mk ((by rw [hg]; exact Nat.ne_of_gt (blk_lt (g := gb1179) (o := .cells #[.int .i64 0, .slice none 0 0] 26 (0, 0)) (by (with_reducible repeat (first | refine blk_drewN ?_ _ | refine blk_drew ?_ | refine blk_alloc ?_ _)); exact BK1179.out)) : gb1195 ≠ gb1179)); have n19_ := Aside0.mk ((by rw [hg]; exact Nat.ne_of_lt (blk_lt (g := gb1193) (o := .cells #[.int .i64 ((rd_T45 l0_1 x23_1).f0), .int .i64 ((rd_T45 l0_1 x23_1).f1), .int .i64 ((rd_T45 l0_1 x23_1).f2), .int .i64 ((rd_T45 l0_1 x23_1).f3)] 45 (0, 0)) (by (with_reducible repeat (first | refine blk_drewN ?_ _ | refine blk_drew ?_ | refine blk_alloc ?_ _)); exact BK1193.out)) : gb1193 ≠ gb1195)); have n20_ := Aside0.mk ((by rw [hg]; exact Nat.ne_of_gt (blk_lt (g := gb1193) (o := .cells #[.int .i64 ((rd_T45 l0_1 x23_1).f0), .int .i64 ((rd_T45 l0_1 x23_1).f1), .int .i64 ((rd_T45 l0_1 x23_1).f2), .int .i64 ((rd_T45 l0_1 x23_1).f3)] 45 (0, 0)) (by (with_reducible repeat (first | refine blk_drewN ?_ _ | refine blk_drew ?_ | refine blk_alloc ?_ _)); exact BK1193.out)) : gb1195 ≠ gb1193)); clear HO_6; clear HO_21; clear HO_28; clear HO_1178001; clear HO_1179001; clear BK1177; clear BK1178; clear BK1179; clear BK1193; clear HB; have HO_6 := n0_; have HO_21 := n1_; have HO_28 := n2_; have HO_1178001 := n3_; have HO_1179001 := n4_; have BK1177 := n5_; have BK1178 := n6_; have BK1179 := n7_; have BK1193 := n8_; have HB := n9_; have BK1195 := n10_; have GW1195 := n11_; have GE1195 := n12_; have NB1177_1195 := n13_; have NB1195_1177 := n14_; have NB1178_1195 := n15_; have NB1195_1178 := n16_; have NB1179_1195 := n17_; have NB1195_1179 := n18_; have NB1193_1195 := n19_; have NB1195_1193 := n20_; clear n0_ n1_ n2_ n3_ n4_ n5_ n6_ n7_ n8_ n9_ n10_ n11_ n12_ n13_ n14_ n15_ n16_ n17_ n18_ n19_ n20_; clear hb hbox hg; have hnb35 := NB1195_1177.out; have hnc35 := NB1177_1195.out; have hnb36 := NB1195_1178.out; have hnc36 := NB1178_1195.out; have hnb37 := NB1195_1179.out; have hnc37 := NB1179_1195.out; have hnb38 := NB1195_1193.out; have hnc38 := NB1193_1195.out; have hcz39_0 : w34.cell? ⟨gb1195, 0, none⟩ = some (.int .i64 0) := (blk_cell BK1195.out 0).trans rfl; have hcz39_1 : w34.cell? ⟨gb1195, 1, none⟩ = some (.int .i64 0) := (blk_cell BK1195.out 1).trans rfl; have hcz39_2 : w34.cell? ⟨gb1195, 2, none⟩ = some (.int .i64 0) := (blk_cell BK1195.out 2).trans rfl; have hcz39_3 : w34.cell? ⟨gb1195, 3, none⟩ = some (.int .i64 0) := (blk_cell BK1195.out 3).trans rfl; have hfz39_0 := blk_frozen BK1195.out 0; have hfz39_1 := blk_frozen BK1195.out 1; have hfz39_2 := blk_frozen BK1195.out 2; have hfz39_3 := blk_frozen BK1195.out 3) | ((with_reducible refine gate_dst (N := 11) rfl ?_); refine box_event ?hg (N := 11) ?hd (cs := #[.int .i64 0, .int .i64 0, .int .i64 0, .int .i64 0]) (t := 45) ?hr ?_; (case hd => rfl); (case hg => rfl); (case hr => first | (go_simp; done) | (go_simp; rfl)); intro gb1196 hg w40 hbox hb; have n0_ := Aside0.mk (Kd.R_below (Kd.R_elderB (by (with_reducible repeat (first | apply Kd.R_alloc | apply Kd.R_drewN | apply Kd.R_drew)); exact (Kd.R_mono (Kd.R_far (p := ⟨gb1195, 3, none⟩) (Kd.R_far (p := ⟨gb1195, 2, none⟩) (Kd.R_far (p := ⟨gb1195, 1, none⟩) (Kd.R_far (p := ⟨gb1195, 0, none⟩) (Kd.R_mono HO_6.out (fun k_ hk => (⟨hk, hk.2⟩ : _ ∧ k_ ≠ gb1195))) (fun _ hk => hk.2) (.int .i64 ((rd_T45 l1_1 x30_2).f0))) (fun _ hk => hk.2) (.int .i64 ((rd_T45 l1_1 x30_2).f1))) (fun _ hk => hk.2) (.int .i64 ((rd_T45 l1_1 x30_2).f2))) (fun _ hk => hk.2) (.int .i64 ((rd_T45 l1_1 x30_2).f3))) (fun _ h_ => h_.1))) gb1196 (Nat.le_of_eq hg.symm)) hb); have n1_ := Aside0.mk (Kd.V_below (Kd.V_elderB (by (with_reducible repeat (first | apply Kd.V_alloc | apply Kd.V_drewN | apply Kd.V_drew)); exact (Kd.V_mono (Kd.V_far (p := ⟨gb1195, 3, none⟩) (Kd.V_far (p := ⟨gb1195, 2, none⟩) (Kd.V_far (p := ⟨gb1195, 1, none⟩) (Kd.V_far (p := ⟨gb1195, 0, none⟩) (Kd.V_mono HO_21.out (fun k_ hk => (⟨hk, hk.2⟩ : _ ∧ k_ ≠ gb1195))) (fun _ hk => hk.2) (.int .i64 ((rd_T45 l1_1 x30_2).f0))) (fun _ hk => hk.2) (.int .i64 ((rd_T45 l1_1 x30_2).f1))) (fun _ hk => hk.2) (.int .i64 ((rd_T45 l1_1 x30_2).f2))) (fun _ hk => hk.2) (.int .i64 ((rd_T45 l1_1 x30_2).f3))) (fun _ h_ => h_.1))) gb1196 (Nat.le_of_eq hg.symm)) hb); have n2_ := Aside0.mk (Kd.V_below (Kd.V_elderB (by (with_reducible repeat (first | apply Kd.V_alloc | apply Kd.V_drewN | apply Kd.V_drew)); exact (Kd.V_mono (Kd.V_far (p := ⟨gb1195, 3, none⟩) (Kd.V_far (p := ⟨gb1195, 2, none⟩) (Kd.V_far (p := ⟨gb1195, 1, none⟩) (Kd.V_far (p := ⟨gb1195, 0, none⟩) (Kd.V_mono HO_28.out (fun k_ hk => (⟨hk, hk.2⟩ : _ ∧ k_ ≠ gb1195))) (fun _ hk => hk.2) (.int .i64 ((rd_T45 l1_1 x30_2).f0))) (fun _ hk => hk.2) (.int .i64 ((rd_T45 l1_1 x30_2).f1))) (fun _ hk => hk.2) (.int .i64 ((rd_T45 l1_1 x30_2).f2))) (fun _ hk => hk.2) (.int .i64 ((rd_T45 l1_1 x30_2).f3))) (fun _ h_ => h_.1))) gb1196 (Nat.le_of_eq hg.symm)) hb); have n3_ := Aside0.mk (Kd.V_below (Kd.V_elderB (by (with_reducible repeat (first | apply Kd.V_alloc | apply Kd.V_drewN | apply Kd.V_drew)); exact (Kd.V_mono (Kd.V_far (p := ⟨gb1195, 3, none⟩) (Kd.V_far (p := ⟨gb1195, 2, none⟩) (Kd.V_far (p := ⟨gb1195, 1, none⟩) (Kd.V_far (p := ⟨gb1195, 0, none⟩) (Kd.V_mono HO_1178001.out (fun k_ hk => (⟨hk, hk.2⟩ : _ ∧ k_ ≠ gb1195))) (fun _ hk => hk.2) (.int .i64 ((rd_T45 l1_1 x30_2).f0))) (fun _ hk => hk.2) (.int .i64 ((rd_T45 l1_1 x30_2).f1))) (fun _ hk => hk.2) (.int .i64 ((rd_T45 l1_1 x30_2).f2))) (fun _ hk => hk.2) (.int .i64 ((rd_T45 l1_1 x30_2).f3))) (fun _ h_ => h_.1))) gb1196 (Nat.le_of_eq hg.symm)) hb); have n4_ := Aside0.mk (Kd.V_below (Kd.V_elderB (by (with_reducible repeat (first | apply Kd.V_alloc | apply Kd.V_drewN | apply Kd.V_drew)); exact (Kd.V_mono (Kd.V_far (p := ⟨gb1195, 3, none⟩) (Kd.V_far (p := ⟨gb1195, 2, none⟩) (Kd.V_far (p := ⟨gb1195, 1, none⟩) (Kd.V_far (p := ⟨gb1195, 0, none⟩) (Kd.V_mono HO_1179001.out (fun k_ hk => (⟨hk, hk.2⟩ : _ ∧ k_ ≠ gb1195))) (fun _ hk => hk.2) (.int .i64 ((rd_T45 l1_1 x30_2).f0))) (fun _ hk => hk.2) (.int .i64 ((rd_T45 l1_1 x30_2).f1))) (fun _ hk => hk.2) (.int .i64 ((rd_T45 l1_1 x30_2).f2))) (fun _ hk => hk.2) (.int .i64 ((rd_T45 l1_1 x30_2).f3))) (fun _ h_ => h_.1))) gb1196 (Nat.le_of_eq hg.symm)) hb); have n5_ := Aside0.mk (blk_below (g := gb1177) (o := .cells #[.int .i64 a0_0, .slice (some ad1192) l0_1.length c0_1] 26 (0, 0)) (by (with_reducible repeat (first | refine blk_drewN ?_ _ | refine blk_drew ?_ | refine blk_alloc ?_ _)); refine blk_far ?_ NB1177_1195.out _; (with_reducible repeat (first | refine blk_drewN ?_ _ | refine blk_drew ?_ | refine blk_alloc ?_ _)); refine blk_far ?_ NB1177_1195.out _; (with_reducible repeat (first | refine blk_drewN ?_ _ | refine blk_drew ?_ | refine blk_alloc ?_ _)); refine blk_far ?_ NB1177_1195.out _; (with_reducible repeat (first | refine blk_drewN ?_ _ | refine blk_drew ?_ | refine blk_alloc ?_ _)); refine blk_far ?_ NB1177_1195.out _; (with_reducible repeat (first | refine blk_drewN ?_ _ | refine blk_drew ?_ | refine blk_alloc ?_ _)); exact BK1177.out) hb); have n6_ := Aside0.mk (blk_below (g := gb1178) (o := .cells #[.int .i64 a1_0, .slice (some ad1194) l1_1.length c1_1] 26 (0, 0)) (by (with_reducible repeat (first | refine blk_drewN ?_ _ | refine blk_drew ?_ | refine blk_alloc ?_ _)); refine blk_far ?_ NB1178_1195.out _; (with_reducible repeat (first | refine blk_drewN ?_ _ | refine blk_drew ?_ | refine blk_alloc ?_ _)); refine blk_far ?_ NB1178_1195.out _; (with_reducible repeat (first | refine blk_drewN ?_ _ | refine blk_drew ?_ | refine blk_alloc ?_ _)); refine blk_far ?_ NB1178_1195.out _; (with_reducible repeat (first | refine blk_drewN ?_ _ | refine blk_drew ?_ | refine blk_alloc ?_ _)); refine blk_far ?_ NB1178_1195.out _; (with_reducible repeat (first | refine blk_drewN ?_ _ | refine blk_drew ?_ | refine blk_alloc ?_ _)); exact BK1178.out) hb); have n7_ := Aside0.mk (blk_below (g := gb1179) (o := .cells #[.int .i64 0, .slice none 0 0] 26 (0, 0)) (by (with_reducible repeat (first | refine blk_drewN ?_ _ | refine blk_drew ?_ | refine blk_alloc ?_ _)); refine blk_far ?_ NB1179_1195.out _; (with_reducible repeat (first | refine blk_drewN ?_ _ | refine blk_drew ?_ | refine blk_alloc ?_ _)); refine blk_far ?_ NB1179_1195.out _; (with_reducible repeat (first | refine blk_drewN ?_ _ | refine blk_drew ?_ | refine blk_alloc ?_ _)); refine blk_far ?_ NB1179_1195.out _; (with_reducible repeat (first | refine blk_drewN ?_ _ | refine blk_drew ?_ | refine blk_alloc ?_ _)); refine blk_far ?_ NB1179_1195.out _; (with_reducible repeat (first | refine blk_drewN ?_ _ | refine blk_drew ?_ | refine blk_alloc ?_ _)); exact BK1179.out) hb); have n8_ := Aside0.mk (blk_below (g := gb1193) (o := .cells #[.int .i64 ((rd_T45 l0_1 x23_1).f0), .int .i64 ((rd_T45 l0_1 x23_1).f1), .int .i64 ((rd_T45 l0_1 x23_1).f2), .int .i64 ((rd_T45 l0_1 x23_1).f3)] 45 (0, 0)) (by (with_reducible repeat (first | refine blk_drewN ?_ _ | refine blk_drew ?_ | refine blk_alloc ?_ _)); refine blk_far ?_ NB1193_1195.out _; (with_reducible repeat (first | refine blk_drewN ?_ _ | refine blk_drew ?_ | refine blk_alloc ?_ _)); refine blk_far ?_ NB1193_1195.out _; (with_reducible repeat (first | refine blk_drewN ?_ _ | refine blk_drew ?_ | refine blk_alloc ?_ _)); refine blk_far ?_ NB1193_1195.out _; (with_reducible repeat (first | refine blk_drewN ?_ _ | refine blk_drew ?_ | refine blk_alloc ?_ _)); refine blk_far ?_ NB1193_1195.out _; (with_reducible repeat (first | refine blk_drewN ?_ _ | refine blk_drew ?_ | refine blk_alloc ?_ _)); exact BK1193.out) hb); have n9_ := Aside0.mk (blk_below (g := gb1195) (o := .cells #[.int .i64 ((rd_T45 l1_1 x30_2).f0), .int .i64 ((rd_T45 l1_1 x30_2).f1), .int .i64 ((rd_T45 l1_1 x30_2).f2), .int .i64 ((rd_T45 l1_1 x30_2).f3)] 45 (0, 0)) (by (with_reducible repeat (first | refine blk_drewN ?_ _ | refine blk_drew ?_ | refine blk_alloc ?_ _)); refine blk_put (cs := #[.int .i64 ((rd_T45 l1_1 x30_2).f0), .int .i64 ((rd_T45 l1_1 x30_2).f1), .int .i64 ((rd_T45 l1_1 x30_2).f2), .int .i64 0]) ?_ 3 _ rfl; (with_reducible repeat (first | refine blk_drewN ?_ _ | refine blk_drew ?_ | refine blk_alloc ?_ _)); refine blk_put (cs := #[.int .i64 ((rd_T45 l1_1 x30_2).f0), .int .i64 ((rd_T45 l1_1 x30_2).f1), .int .i64 0, .int .i64 0]) ?_ 2 _ rfl; (with_reducible repeat (first | refine blk_drewN ?_ _ | refine blk_drew ?_ | refine blk_alloc ?_ _)); refine blk_put (cs := #[.int .i64 ((rd_T45 l1_1 x30_2).f0), .int .i64 0, .int .i64 0, .int .i64 0]) ?_ 1 _ rfl; (with_reducible repeat (first | refine blk_drewN ?_ _ | refine blk_drew ?_ | refine blk_alloc ?_ _)); refine blk_put (cs := #[.int .i64 0, .int .i64 0, .int .i64 0, .int .i64 0]) ?_ 0 _ rfl; (with_reducible repeat (first | refine blk_drewN ?_ _ | refine blk_drew ?_ | refine blk_alloc ?_ _)); exact BK1195.out) hb); have n10_ := Aside0.mk (below_step (by repeat (first | (with_reducible first | exact HB.out | apply below_alloc | apply pw_below_drewN | apply below_drew1 | refine below_set ?_ GE1177.out | refine below_set ?_ GE1178.out | refine below_set ?_ GE1179.out | refine below_set ?_ GE1193.out | refine below_set ?_ GE1195.out) | exact HB.out)) hb); have n11_ := Aside0.mk (hbox); have n12_ := Aside0.mk ((by rw [hg]; exact (below_size (by repeat (first | (with_reducible first | exact HB.out | apply below_alloc | apply pw_below_drewN | apply below_drew1 | refine below_set ?_ GE1177.out | refine below_set ?_ GE1178.out | refine below_set ?_ GE1179.out | refine below_set ?_ GE1193.out | refine below_set ?_ GE1195.out) | exact HB.out))) : w.heap.size ≤ gb1196)); have n13_ := Aside0.mk ((by rw [hg]; exact (below_size (by repeat (first | (with_reducible first | exact HB.out | apply below_alloc | apply pw_below_drewN | apply below_drew1 | refine below_set ?_ GE1177.out | refine below_set ?_ GE1178.out | refine below_set ?_ GE1179.out | refine below_set ?_ GE1193.out | refine below_set ?_ GE1195.out) | exact HB.out))) : w.heap.size ≤ gb1196)); have n14_ := Aside0.mk ((by rw [hg]; exact Nat.ne_of_lt (blk_lt (g := gb1177) (o := .cells #[.int .i64 a0_0, .slice (some ad1192) l0_1.length c0_1] 26 (0, 0)) (by (with_reducible repeat (first | refine blk_drewN ?_ _ | refine blk_drew ?_ | refine blk_alloc ?_ _)); refine blk_far ?_ NB1177_1195.out _; (with_reducible repeat (first | refine blk_drewN ?_ _ | refine blk_drew ?_ | refine blk_alloc ?_ _)); refine blk_far ?_ NB1177_1195.out _; (with_reducible repeat (first | refine blk_drewN ?_ _ | refine blk_drew ?_ | refine blk_alloc ?_ _)); refine blk_far ?_ NB1177_1195.out _; (with_reducible repeat (first | refine blk_drewN ?_ _ | refine blk_drew ?_ | refine blk_alloc ?_ _)); refine blk_far ?_ NB1177_1195.out _; (with_reducible repeat (first | refine blk_drewN ?_ _ | refine blk_drew ?_ | refine blk_alloc ?_ _)); exact BK1177.out)) : gb1177 ≠ gb1196)); have n15_ := Aside0.mk ((by rw [hg]; exact Nat.ne_of_gt (blk_lt (g := gb1177) (o := .cells #[.int .i64 a0_0, .slice (some ad1192) l0_1.length c0_1] 26 (0, 0)) (by (with_reducible repeat (first | refine blk_drewN ?_ _ | refine blk_drew ?_ | refine blk_alloc ?_ _)); refine blk_far ?_ NB1177_1195.out _; (with_reducible repeat (first | refine blk_drewN ?_ _ | refine blk_drew ?_ | refine blk_alloc ?_ _)); refine blk_far ?_ NB1177_1195.out _; (with_reducible repeat (first | refine blk_drewN ?_ _ | refine blk_drew ?_ | refine blk_alloc ?_ _)); refine blk_far ?_ NB1177_1195.out _; (with_reducible repeat (first | refine blk_drewN ?_ _ | refine blk_drew ?_ | refine blk_alloc ?_ _)); refine blk_far ?_ NB1177_1195.out _; (with_reducible repeat (first | refine blk_drewN ?_ _ | refine blk_drew ?_ | refine blk_alloc ?_ _)); exact BK1177.out)) : gb1196 ≠ gb1177)); have n16_ := Aside0.mk ((by rw [hg]; exact Nat.ne_of_lt (blk_lt (g := gb1178) (o := .cells #[.int .i64 a1_0, .slice (some ad1194) l1_1.length c1_1] 26 (0, 0)) (by (with_reducible repeat (first | refine blk_drewN ?_ _ | refine blk_drew ?_ | refine blk_alloc ?_ _)); refine blk_far ?_ NB1178_1195.out _; (with_reducible repeat (first | refine blk_drewN ?_ _ | refine blk_drew ?_ | refine blk_alloc ?_ _)); refine blk_far ?_ NB1178_1195.out _; (with_reducible repeat (first | refine blk_drewN ?_ _ | refine blk_drew ?_ | refine blk_alloc ?_ _)); refine blk_far ?_ NB1178_1195.out _; (with_reducible repeat (first | refine blk_drewN ?_ _ | refine blk_drew ?_ | refine blk_alloc ?_ _)); refine blk_far ?_ NB1178_1195.out _; (with_reducible repeat (first | refine blk_drewN ?_ _ | refine blk_drew ?_ | refine blk_alloc ?_ _)); exact BK1178.out)) : gb1178 ≠ gb1196)); have n17_ := Aside0.mk ((by rw [hg]; exact Nat.ne_of_gt (blk_lt (g := gb1178) (o := .cells #[.int .i64 a1_0, .slice (some ad1194) l1_1.length c1_1] 26 (0, 0)) (by (with_reducible repeat (first | refine blk_drewN ?_ _ | refine blk_drew ?_ | refine blk_alloc ?_ _)); refine blk_far ?_ NB1178_1195.out _; (with_reducible repeat (first | refine blk_drewN ?_ _ | refine blk_drew ?_ | refine blk_alloc ?_ _)); refine blk_far ?_ NB1178_1195.out _; (with_reducible repeat (first | refine blk_drewN ?_ _ | refine blk_drew ?_ | refine blk_alloc ?_ _)); refine blk_far ?_ NB1178_1195.out _; (with_reducible repeat (first | refine blk_drewN ?_ _ | refine blk_drew ?_ | refine blk_alloc ?_ _)); refine blk_far ?_ NB1178_1195.out _; (with_reducible repeat (first | refine blk_drewN ?_ _ | refine blk_drew ?_ | refine blk_alloc ?_ _)); exact BK1178.out)) : gb1196 ≠ gb1178)); have n18_ := Aside0.mk ((by rw [hg]; exact Nat.ne_of_lt (blk_lt (g := gb1179) (o := .cells #[.int .i64 0, .slice none 0 0] 26 (0, 0)) (by (with_reducible repeat (first | refine blk_drewN ?_ _ | refine blk_drew ?_ | refine blk_alloc ?_ _)); refine blk_far ?_ NB1179_1195.out _; (with_reducible repeat (first | refine blk_drewN ?_ _ | refine blk_drew ?_ | refine blk_alloc ?_ _)); refine blk_far ?_ NB1179_1195.out _; (with_reducible repeat (first | refine blk_drewN ?_ _ | refine blk_drew ?_ | refine blk_alloc ?_ _)); refine blk_far ?_ NB1179_1195.out _; (with_reducible repeat (first | refine blk_drewN ?_ _ | refine blk_drew ?_ | refine blk_alloc ?_ _)); refine blk_far ?_ NB1179_1195.out _; (with_reducible repeat (first | refine blk_drewN ?_ _ | refine blk_drew ?_ | refine blk_alloc ?_ _)); exact BK1179.out)) : gb1179 ≠ gb1196)); have n19_ := Aside0.mk ((by rw [hg]; exact Nat.ne_of_gt (blk_lt (g := gb1179) (o := .cells #[.int .i64 0, .slice none 0 0] 26 (0, 0)) (by (with_reducible repeat (first | refine blk_drewN ?_ _ | refine blk_drew ?_ | refine blk_alloc ?_ _)); refine blk_far ?_ NB1179_1195.out _; (with_reducible repeat (first | refine blk_drewN ?_ _ | refine blk_drew ?_ | refine blk_alloc ?_ _)); refine blk_far ?_ NB1179_1195.out _; (with_reducible repeat (first | refine blk_drewN ?_ _ | refine blk_drew ?_ | refine blk_alloc ?_ _)); refine blk_far ?_ NB1179_1195.out _; (with_reducible repeat (first | refine blk_drewN ?_ _ | refine blk_drew ?_ | refine blk_alloc ?_ _)); refine blk_far ?_ NB1179_1195.out _; (with_reducible repeat (first | refine blk_drewN ?_ _ | refine blk_drew ?_ | refine blk_alloc ?_ _)); exact BK1179.out)) : gb1196 ≠ gb1179)); have n20_ := Aside0.mk ((by rw [hg]; exact Nat.ne_of_lt (blk_lt (g := gb1193) (o := .cells #[.int .i64 ((rd_T45 l0_1 x23_1).f0), .int .i64 ((rd_T45 l0_1 x23_1).f1), .int .i64 ((rd_T45 l0_1 x23_1).f2), .int .i64 ((rd_T45 l0_1 x23_1).f3)] 45 (0, 0)) (by (with_reducible repeat (first | refine blk_drewN ?_ _ | refine blk_drew ?_ | refine blk_alloc ?_ _)); refine blk_far ?_ NB1193_1195.out _; (with_reducible repeat (first | refine blk_drewN ?_ _ | refine blk_drew ?_ | refine blk_alloc ?_ _)); refine blk_far ?_ NB1193_1195.out _; (with_reducible repeat (first | refine blk_drewN ?_ _ | refine blk_drew ?_ | refine blk_alloc ?_ _)); refine blk_far ?_ NB1193_1195.out _; (with_reducible repeat (first | refine blk_drewN ?_ _ | refine blk_drew ?_ | refine blk_alloc ?_ _)); refine blk_far ?_ NB1193_1195.out _; (with_reducible repeat (first | refine blk_drewN ?_ _ | refine blk_drew ?_ | refine blk_alloc ?_ _)); exact BK1193.out)) : gb1193 ≠ gb1196)); have n21_ := Aside0.mk ((by rw [hg]; exact Nat.ne_of_gt (blk_lt (g := gb1193) (o := .cells #[.int .i64 ((rd_T45 l0_1 x23_1).f0), .int .i64 ((rd_T45 l0_1 x23_1).f1), .int .i64 ((rd_T45 l0_1 x23_1).f2), .int .i64 ((rd_T45 l0_1 x23_1).f3)] 45 (0, 0)) (by (with_reducible repeat (first | refine blk_drewN ?_ _ | refine blk_drew ?_ | refine blk_alloc ?_ _)); refine blk_far ?_ NB1193_1195.out _; (with_reducible repeat (first | refine blk_drewN ?_ _ | refine blk_drew ?_ | refine blk_alloc ?_ _)); refine blk_far ?_ NB1193_1195.out _; (with_reducible repeat (first | refine blk_drewN ?_ _ | refine blk_drew ?_ | refine blk_alloc ?_ _)); refine blk_far ?_ NB1193_1195.out _; (with_reducible repeat (first | refine blk_drewN ?_ _ | refine blk_drew ?_ | refine blk_alloc ?_ _)); refine blk_far ?_ NB1193_1195.out _; (with_reducible repeat (first | refine blk_drewN ?_ _ | refine blk_drew ?_ | refine blk_alloc ?_ _)); exact BK1193.out)) : gb1196 ≠ gb1193)); have n22_ := Aside0.mk ((by rw [hg]; exact Nat.ne_of_lt (blk_lt (g := gb1195) (o := .cells #[.int .i64 ((rd_T45 l1_1 x30_2).f0), .int .i64 ((rd_T45 l1_1 x30_2).f1), .int .i64 ((rd_T45 l1_1 x30_2).f2), .int .i64 ((rd_T45 l1_1 x30_2).f3)] 45 (0, 0)) (by (with_reducible repeat (first | refine blk_drewN ?_ _ | refine blk_drew ?_ | refine blk_alloc ?_ _)); refine blk_put (cs := #[.int .i64 ((rd_T45 l1_1 x30_2).f0), .int .i64 ((rd_T45 l1_1 x30_2).f1), .int .i64 ((rd_T45 l1_1 x30_2).f2), .int .i64 0]) ?_ 3 _ rfl; (with_reducible repeat (first | refine blk_drewN ?_ _ | refine blk_drew ?_ | refine blk_alloc ?_ _)); refine blk_put (cs := #[.int .i64 ((rd_T45 l1_1 x30_2).f0), .int .i64 ((rd_T45 l1_1 x30_2).f1), .int .i64 0, .int .i64 0]) ?_ 2 _ rfl; (with_reducible repeat (first | refine blk_drewN ?_ _ | refine blk_drew ?_ | refine blk_alloc ?_ _)); refine blk_put (cs := #[.int .i64 ((rd_T45 l1_1 x30_2).f0), .int .i64 0, .int .i64 0, .int .i64 0]) ?_ 1 _ rfl; (with_reducible repeat (first | refine blk_drewN ?_ _ | refine blk_drew ?_ | refine blk_alloc ?_ _)); refine blk_put (cs := #[.int .i64 0, .int .i64 0, .int .i64 0, .int .i64 0]) ?_ 0 _ rfl; (with_reducible repeat (first | refine blk_drewN ?_ _ | refine blk_drew ?_ | refine blk_alloc ?_ _)); exact BK1195.out)) : gb1195 ≠ gb1196)); have n23_ := Aside0.mk ((by rw [hg]; exact Nat.ne_of_gt (blk_lt (g := gb1195) (o := .cells #[.int .i64 ((rd_T45 l1_1 x30_2).f0), .int .i64 ((rd_T45 l1_1 x30_2).f1), .int .i64 ((rd_T45 l1_1 x30_2).f2), .int .i64 ((rd_T45 l1_1 x30_2).f3)] 45 (0, 0)) (by (with_reducible repeat (first | refine blk_drewN ?_ _ | refine blk_drew ?_ | refine blk_alloc ?_ _)); refine blk_put (cs := #[.int .i64 ((rd_T45 l1_1 x30_2).f0), .int .i64 ((rd_T45 l1_1 x30_2).f1), .int .i64 ((rd_T45 l1_1 x30_2).f2), .int .i64 0]) ?_ 3 _ rfl; (with_reducible repeat (first | refine blk_drewN ?_ _ | refine blk_drew ?_ | refine blk_alloc ?_ _)); refine blk_put (cs := #[.int .i64 ((rd_T45 l1_1 x30_2).f0), .int .i64 ((rd_T45 l1_1 x30_2).f1), .int .i64 0, .int .i64 0]) ?_ 2 _ rfl; (with_reducible repeat (first | refine blk_drewN ?_ _ | refine blk_drew ?_ | refine blk_alloc ?_ _)); refine blk_put (cs := #[.int .i64 ((rd_T45 l1_1 x30_2).f0), .int .i64 0, .int .i64 0, .int .i64 0]) ?_ 1 _ rfl; (with_reducible repeat (first | refine blk_drewN ?_ _ | refine blk_drew ?_ | refine blk_alloc ?_ _)); refine blk_put (cs := #[.int .i64 0, .int .i64 0, .int .i64 0, .int .i64 0]) ?_ 0 _ rfl; (with_reducible repeat (first | refine blk_drewN ?_ _ | refine blk_drew ?_ | refine blk_alloc ?_ _)); exact BK1195.out)) : gb1196 ≠ gb1195)); clear HO_6; clear HO_21; clear HO_28; clear HO_1178001; clear HO_1179001; clear BK1177; clear BK1178; clear BK1179; clear BK1193; clear BK1195; clear HB; have HO_6 := n0_; have HO_21 := n1_; have HO_28 := n2_; have HO_1178001 := n3_; have HO_1179001 := n4_; have BK1177 := n5_; have BK1178 := n6_; have BK1179 := n7_; have BK1193 := n8_; have BK1195 := n9_; have HB := n10_; have BK1196 := n11_; have GW1196 := n12_; have GE1196 := n13_; have NB1177_1196 := n14_; have NB1196_1177 := n15_; have NB1178_1196 := n16_; have NB1196_1178 := n17_; have NB1179_1196 := n18_; have NB1196_1179 := n19_; have NB1193_1196 := n20_; have NB1196_1193 := n21_; have NB1195_1196 := n22_; have NB1196_1195 := n23_; clear n0_ n1_ n2_ n3_ n4_ n5_ n6_ n7_ n8_ n9_ n10_ n11_ n12_ n13_ n14_ n15_ n16_ n17_ n18_ n19_ n20_ n21_ n22_ n23_; clear hb hbox hg; have hnb41 := NB1196_1177.out; have hnc41 := NB1177_1196.out; have hnb42 := NB1196_1178.out; have hnc42 := NB1178_1196.out; have hnb43 := NB1196_1179.out; have hnc43 := NB1179_1196.out; have hnb44 := NB1196_1193.out; have hnc44 := NB1193_1196.out; have hnb45 := NB1196_1195.out; have hnc45 := NB1195_1196.out; have hcz46_0 : w40.cell? ⟨gb1196, 0, none⟩ = some (.int .i64 0) := (blk_cell BK1196.out 0).trans rfl; have hcz46_1 : w40.cell? ⟨gb1196, 1, none⟩ = some (.int .i64 0) := (blk_cell BK1196.out 1).trans rfl; have hcz46_2 : w40.cell? ⟨gb1196, 2, none⟩ = some (.int .i64 0) := (blk_cell BK1196.out 2).trans rfl; have hcz46_3 : w40.cell? ⟨gb1196, 3, none⟩ = some (.int .i64 0) := (blk_cell BK1196.out 3).trans rfl; have hfz46_0 := blk_frozen BK1196.out 0; have hfz46_1 := blk_frozen BK1196.out 1; have hfz46_2 := blk_frozen BK1196.out 2; have hfz46_3 := blk_frozen BK1196.out 3))
            go_loopg [35] k2 (fun kq v35 w' => ∃ (x35_3 : Int) (x1197000_3 : Int) (x1197001_3 : Int) (x1197002_3 : Int) (x1197003_3 : Int), v35 = .int .i64 x35_3 ∧ Aside0 (impl_ProductOfSets.l2 kq x6_2 l0_1 (l0_1.length : Int) x23_1 l1_1 (l1_1.length : Int) x30_2 x35_3 a0_0 l0_1 a1_0 l1_1 ((rd_T45 l0_1 x23_1).f0) ((rd_T45 l0_1 x23_1).f1) ((rd_T45 l0_1 x23_1).f2) ((rd_T45 l0_1 x23_1).f3) ((rd_T45 l1_1 x30_2).f0) ((rd_T45 l1_1 x30_2).f1) ((rd_T45 l1_1 x30_2).f2) ((rd_T45 l1_1 x30_2).f3) x1197000_3 x1197001_3 x1197002_3 x1197003_3 = some (r1, r2, r3)) ∧ Aside0 (kq ≤ k2) ∧ Aside0 (Kd.R k45 45 w' w.heap.size (fun k_ => (w.heap.size ≤ k_) ∧ k_ ≠ gb1193 ∧ k_ ≠ gb1195 ∧ k_ ≠ gb1196) u6 x6_2) ∧ Aside0 (Kd.V k45 45 w' w.heap.size (fun k_ => ((P0_1_ k_ ∨ P1_1_ k_) ∨ w.heap.size ≤ k_) ∧ some k_ ≠ (u6 : Value).ownBlock ∧ k_ ≠ gb1177 ∧ k_ ≠ gb1178 ∧ k_ ≠ gb1179 ∧ k_ ≠ gb1193 ∧ k_ ≠ gb1195 ∧ k_ ≠ gb1196) (.slice (some ad1192) l0_1.length c0_1) l0_1) ∧ Aside0 (Kd.V k45 45 w' w.heap.size (fun k_ => ((P0_1_ k_ ∨ P1_1_ k_) ∨ w.heap.size ≤ k_) ∧ some k_ ≠ (u6 : Value).ownBlock ∧ k_ ≠ gb1177 ∧ k_ ≠ gb1178 ∧ k_ ≠ gb1179 ∧ k_ ≠ gb1193 ∧ k_ ≠ gb1195 ∧ k_ ≠ gb1196) (.slice (some ad1194) l1_1.length c1_1) l1_1) ∧ Aside0 (Kd.V k45 45 w' w.heap.size (fun k_ => ((P0_1_ k_ ∨ P1_1_ k_) ∨ w.heap.size ≤ k_) ∧ some k_ ≠ (u6 : Value).ownBlock ∧ k_ ≠ gb1177 ∧ k_ ≠ gb1178 ∧ k_ ≠ gb1179 ∧ k_ ≠ gb1193 ∧ k_ ≠ gb1195 ∧ k_ ≠ gb1196) (.slice (some ad1192) l0_1.length c0_1) l0_1) ∧ Aside0 (Kd.V k45 45 w' w.heap.size (fun k_ => ((P0_1_ k_ ∨ P1_1_ k_) ∨ w.heap.size ≤ k_) ∧ some k_ ≠ (u6 : Value).ownBlock ∧ k_ ≠ gb1177 ∧ k_ ≠ gb1178 ∧ k_ ≠ gb1179 ∧ k_ ≠ gb1193 ∧ k_ ≠ gb1195 ∧ k_ ≠ gb1196) (.slice (some ad1194) l1_1.length c1_1) l1_1) ∧ Aside0 (w'.heap[gb1177]? = some (.cells #[.int .i64 a0_0, (.slice (some ad1192) l0_1.length c0_1)] 26 (0, 0))) ∧ Aside0 (w'.heap[gb1178]? = some (.cells #[.int .i64 a1_0, (.slice (some ad1194) l1_1.length c1_1)] 26 (0, 0))) ∧ Aside0 (w'.heap[gb1179]? = some (.cells #[.int .i64 0, (.slice none 0 0)] 26 (0, 0))) ∧ Aside0 (w'.heap[gb1193]? = some (.cells #[.int .i64 ((rd_T45 l0_1 x23_1).f0), .int .i64 ((rd_T45 l0_1 x23_1).f1), .int .i64 ((rd_T45 l0_1 x23_1).f2), .int .i64 ((rd_T45 l0_1 x23_1).f3)] 45 (0, 0))) ∧ Aside0 (w'.heap[gb1195]? = some (.cells #[.int .i64 ((rd_T45 l1_1 x30_2).f0), .int .i64 ((rd_T45 l1_1 x30_2).f1), .int .i64 ((rd_T45 l1_1 x30_2).f2), .int .i64 ((rd_T45 l1_1 x30_2).f3)] 45 (0, 0))) ∧ Aside0 (w'.heap[gb1196]? = some (.cells #[.int .i64 x1197000_3, .int .i64 x1197001_3, .int .i64 x1197002_3, .int .i64 x1197003_3] 45 (0, 0))) ∧ Aside0 (Below w.heap.size w w'))
            case atStart => exact ⟨(0), (0), (0), (0), (0), (by first | rfl | (simp; done) | (simp [*]; done) | (simp; decide +kernel)), H', ⟨Nat.le_refl _⟩, ⟨by (with_reducible repeat (first | apply Kd.R_alloc | apply Kd.R_drewN | apply Kd.R_drew)); exact Kd.R_mono (Kd.R_far (p := ⟨gb1196, 3, none⟩) (Kd.R_far (p := ⟨gb1196, 2, none⟩) (Kd.R_far (p := ⟨gb1196, 1, none⟩) (Kd.R_far (p := ⟨gb1196, 0, none⟩) (Kd.R_mono HO_6.out (fun k_ hk => (⟨hk, hk.2⟩ : _ ∧ k_ ≠ gb1196))) (fun _ hk => hk.2) (.int .i64 0)) (fun _ hk => hk.2) (.int .i64 0)) (fun _ hk => hk.2) (.int .i64 0)) (fun _ hk => hk.2) (.int .i64 0)) (fun _ hk => ⟨hk.1.1.1.1, ⟨hk.1.1.1.2, ⟨hk.1.1.2, hk.1.2⟩⟩⟩)⟩, ⟨by (with_reducible repeat (first | apply Kd.V_alloc | apply Kd.V_drewN | apply Kd.V_drew)); exact Kd.V_mono (Kd.V_far (p := ⟨gb1196, 3, none⟩) (Kd.V_far (p := ⟨gb1196, 2, none⟩) (Kd.V_far (p := ⟨gb1196, 1, none⟩) (Kd.V_far (p := ⟨gb1196, 0, none⟩) (Kd.V_mono HO_21.out (fun k_ hk => (⟨hk, hk.2⟩ : _ ∧ k_ ≠ gb1196))) (fun _ hk => hk.2) (.int .i64 0)) (fun _ hk => hk.2) (.int .i64 0)) (fun _ hk => hk.2) (.int .i64 0)) (fun _ hk => hk.2) (.int .i64 0)) (fun _ hk => ⟨hk.1.1.1.1, ⟨hk.1.1.1.2.1, ⟨hk.1.1.1.2.2.1, ⟨hk.1.1.1.2.2.2.1, ⟨hk.1.1.1.2.2.2.2.1, ⟨hk.1.1.1.2.2.2.2.2, ⟨hk.1.1.2, hk.1.2⟩⟩⟩⟩⟩⟩⟩)⟩, ⟨by (with_reducible repeat (first | apply Kd.V_alloc | apply Kd.V_drewN | apply Kd.V_drew)); exact Kd.V_mono (Kd.V_far (p := ⟨gb1196, 3, none⟩) (Kd.V_far (p := ⟨gb1196, 2, none⟩) (Kd.V_far (p := ⟨gb1196, 1, none⟩) (Kd.V_far (p := ⟨gb1196, 0, none⟩) (Kd.V_mono HO_28.out (fun k_ hk => (⟨hk, hk.2⟩ : _ ∧ k_ ≠ gb1196))) (fun _ hk => hk.2) (.int .i64 0)) (fun _ hk => hk.2) (.int .i64 0)) (fun _ hk => hk.2) (.int .i64 0)) (fun _ hk => hk.2) (.int .i64 0)) (fun _ hk => ⟨hk.1.1.1.1, ⟨hk.1.1.1.2.1, ⟨hk.1.1.1.2.2.1, ⟨hk.1.1.1.2.2.2.1, ⟨hk.1.1.1.2.2.2.2.1, ⟨hk.1.1.1.2.2.2.2.2, ⟨hk.1.1.2, hk.1.2⟩⟩⟩⟩⟩⟩⟩)⟩, ⟨by (with_reducible repeat (first | apply Kd.V_alloc | apply Kd.V_drewN | apply Kd.V_drew)); exact Kd.V_mono (Kd.V_far (p := ⟨gb1196, 3, none⟩) (Kd.V_far (p := ⟨gb1196, 2, none⟩) (Kd.V_far (p := ⟨gb1196, 1, none⟩) (Kd.V_far (p := ⟨gb1196, 0, none⟩) (Kd.V_mono HO_1178001.out (fun k_ hk => (⟨hk, hk.2⟩ : _ ∧ k_ ≠ gb1196))) (fun _ hk => hk.2) (.int .i64 0)) (fun _ hk => hk.2) (.int .i64 0)) (fun _ hk => hk.2) (.int .i64 0)) (fun _ hk => hk.2) (.int .i64 0)) (fun _ hk => ⟨hk.1.1.1.1, ⟨hk.1.1.1.2.1, ⟨hk.1.1.1.2.2.1, ⟨hk.1.1.1.2.2.2.1, ⟨hk.1.1.1.2.2.2.2.1, ⟨hk.1.1.1.2.2.2.2.2, ⟨hk.1.1.2, hk.1.2⟩⟩⟩⟩⟩⟩⟩)⟩, ⟨by (with_reducible repeat (first | apply Kd.V_alloc | apply Kd.V_drewN | apply Kd.V_drew)); exact Kd.V_mono (Kd.V_far (p := ⟨gb1196, 3, none⟩) (Kd.V_far (p := ⟨gb1196, 2, none⟩) (Kd.V_far (p := ⟨gb1196, 1, none⟩) (Kd.V_far (p := ⟨gb1196, 0, none⟩) (Kd.V_mono HO_1179001.out (fun k_ hk => (⟨hk, hk.2⟩ : _ ∧ k_ ≠ gb1196))) (fun _ hk => hk.2) (.int .i64 0)) (fun _ hk => hk.2) (.int .i64 0)) (fun _ hk => hk.2) (.int .i64 0)) (fun _ hk => hk.2) (.int .i64 0)) (fun _ hk => ⟨hk.1.1.1.1, ⟨hk.1.1.1.2.1, ⟨hk.1.1.1.2.2.1, ⟨hk.1.1.1.2.2.2.1, ⟨hk.1.1.1.2.2.2.2.1, ⟨hk.1.1.1.2.2.2.2.2, ⟨hk.1.1.2, hk.1.2⟩⟩⟩⟩⟩⟩⟩)⟩, ⟨by (with_reducible repeat (first | refine blk_drewN ?_ _ | refine blk_drew ?_ | refine blk_alloc ?_ _)); refine blk_far ?_ NB1177_1196.out _; (with_reducible repeat (first | refine blk_drewN ?_ _ | refine blk_drew ?_ | refine blk_alloc ?_ _)); refine blk_far ?_ NB1177_1196.out _; (with_reducible repeat (first | refine blk_drewN ?_ _ | refine blk_drew ?_ | refine blk_alloc ?_ _)); refine blk_far ?_ NB1177_1196.out _; (with_reducible repeat (first | refine blk_drewN ?_ _ | refine blk_drew ?_ | refine blk_alloc ?_ _)); refine blk_far ?_ NB1177_1196.out _; (with_reducible repeat (first | refine blk_drewN ?_ _ | refine blk_drew ?_ | refine blk_alloc ?_ _)); exact BK1177.out⟩, ⟨by (with_reducible repeat (first | refine blk_drewN ?_ _ | refine blk_drew ?_ | refine blk_alloc ?_ _)); refine blk_far ?_ NB1178_1196.out _; (with_reducible repeat (first | refine blk_drewN ?_ _ | refine blk_drew ?_ | refine blk_alloc ?_ _)); refine blk_far ?_ NB1178_1196.out _; (with_reducible repeat (first | refine blk_drewN ?_ _ | refine blk_drew ?_ | refine blk_alloc ?_ _)); refine blk_far ?_ NB1178_1196.out _; (with_reducible repeat (first | refine blk_drewN ?_ _ | refine blk_drew ?_ | refine blk_alloc ?_ _)); refine blk_far ?_ NB1178_1196.out _; (with_reducible repeat (first | refine blk_drewN ?_ _ | refine blk_drew ?_ | refine blk_alloc ?_ _)); exact BK1178.out⟩, ⟨by (with_reducible repeat (first | refine blk_drewN ?_ _ | refine blk_drew ?_ | refine blk_alloc ?_ _)); refine blk_far ?_ NB1179_1196.out _; (with_reducible repeat (first | refine blk_drewN ?_ _ | refine blk_drew ?_ | refine blk_alloc ?_ _)); refine blk_far ?_ NB1179_1196.out _; (with_reducible repeat (first | refine blk_drewN ?_ _ | refine blk_drew ?_ | refine blk_alloc ?_ _)); refine blk_far ?_ NB1179_1196.out _; (with_reducible repeat (first | refine blk_drewN ?_ _ | refine blk_drew ?_ | refine blk_alloc ?_ _)); refine blk_far ?_ NB1179_1196.out _; (with_reducible repeat (first | refine blk_drewN ?_ _ | refine blk_drew ?_ | refine blk_alloc ?_ _)); exact BK1179.out⟩, ⟨by (with_reducible repeat (first | refine blk_drewN ?_ _ | refine blk_drew ?_ | refine blk_alloc ?_ _)); refine blk_far ?_ NB1193_1196.out _; (with_reducible repeat (first | refine blk_drewN ?_ _ | refine blk_drew ?_ | refine blk_alloc ?_ _)); refine blk_far ?_ NB1193_1196.out _; (with_reducible repeat (first | refine blk_drewN ?_ _ | refine blk_drew ?_ | refine blk_alloc ?_ _)); refine blk_far ?_ NB1193_1196.out _; (with_reducible repeat (first | refine blk_drewN ?_ _ | refine blk_drew ?_ | refine blk_alloc ?_ _)); refine blk_far ?_ NB1193_1196.out _; (with_reducible repeat (first | refine blk_drewN ?_ _ | refine blk_drew ?_ | refine blk_alloc ?_ _)); exact BK1193.out⟩, ⟨by (with_reducible repeat (first | refine blk_drewN ?_ _ | refine blk_drew ?_ | refine blk_alloc ?_ _)); refine blk_far ?_ NB1195_1196.out _; (with_reducible repeat (first | refine blk_drewN ?_ _ | refine blk_drew ?_ | refine blk_alloc ?_ _)); refine blk_far ?_ NB1195_1196.out _; (with_reducible repeat (first | refine blk_drewN ?_ _ | refine blk_drew ?_ | refine blk_alloc ?_ _)); refine blk_far ?_ NB1195_1196.out _; (with_reducible repeat (first | refine blk_drewN ?_ _ | refine blk_drew ?_ | refine blk_alloc ?_ _)); refine blk_far ?_ NB1195_1196.out _; (with_reducible repeat (first | refine blk_drewN ?_ _ | refine blk_drew ?_ | refine blk_alloc ?_ _)); exact BK1195.out⟩, ⟨by (with_reducible repeat (first | refine blk_drewN ?_ _ | refine blk_drew ?_ | refine blk_alloc ?_ _)); refine blk_put (cs := #[.int .i64 0, .int .i64 0, .int .i64 0, .int .i64 0]) ?_ 3 _ rfl; (with_reducible repeat (first | refine blk_drewN ?_ _ | refine blk_drew ?_ | refine blk_alloc ?_ _)); refine blk_put (cs := #[.int .i64 0, .int .i64 0, .int .i64 0, .int .i64 0]) ?_ 2 _ rfl; (with_reducible repeat (first | refine blk_drewN ?_ _ | refine blk_drew ?_ | refine blk_alloc ?_ _)); refine blk_put (cs := #[.int .i64 0, .int .i64 0, .int .i64 0, .int .i64 0]) ?_ 1 _ rfl; (with_reducible repeat (first | refine blk_drewN ?_ _ | refine blk_drew ?_ | refine blk_alloc ?_ _)); refine blk_put (cs := #[.int .i64 0, .int .i64 0, .int .i64 0, .int .i64 0]) ?_ 0 _ rfl; (with_reducible repeat (first | refine blk_drewN ?_ _ | refine blk_drew ?_ | refine blk_alloc ?_ _)); exact BK1196.out⟩, ⟨by repeat (first | (with_reducible first | exact HB.out | apply below_alloc | apply pw_below_drewN | apply below_drew1 | refine below_set ?_ GE1177.out | refine below_set ?_ GE1178.out | refine below_set ?_ GE1179.out | refine below_set ?_ GE1193.out | refine below_set ?_ GE1195.out | refine below_set ?_ GE1196.out) | exact HB.out)⟩⟩
            case round =>
             clear H'
             try clear c1
             try clear p1
             try clear q1
             try clear hx1
             try clear c2
             try clear p2
             try clear c3
             try clear c4
             try clear c7
             try clear c8
             try clear c9
             try clear c11
             try clear p11
             try clear q11
             try clear hx11
             try clear c20
             try clear c20b0
             try clear c21
             try clear c21b0
             try clear c22
             try clear c22b0
             try clear c24
             try clear c25
             try clear c26
             try clear c28
             try clear c29
             try clear c31
             try clear c31b0
             try clear c32
             try clear c32b0
             try clear c33
             try clear c33b0
             try clear c35
             try clear c36
             try clear c37
             try clear c38
             try clear c41
             try clear c42
             try clear c43
             try clear c44
             try clear c45
             try clear hcz10_0
             try clear hcz10_1
             try clear hcz12_0
             try clear hcz12_1
             try clear hcz19_0
             try clear hcz19_1
             try clear hcz27_0
             try clear hcz27_1
             try clear hcz27_2
             try clear hcz27_3
             try clear hcz30_0
             try clear hcz30_1
             try clear hcz39_0
             try clear hcz39_1
             try clear hcz39_2
             try clear hcz39_3
             try clear hcz46_0
             try clear hcz46_1
             try clear hcz46_2
             try clear hcz46_3
             try clear hfz10_0
             try clear hfz10_1
             try clear hfz12_0
             try clear hfz12_1
             try clear hfz19_0
             try clear hfz19_1
             try clear hfz27_0
             try clear hfz27_1
             try clear hfz27_2
             try clear hfz27_3
             try clear hfz30_0
             try clear hfz30_1
             try clear hfz39_0
             try clear hfz39_1
             try clear hfz39_2
             try clear hfz39_3
             try clear hfz46_0
             try clear hfz46_1
             try clear hfz46_2
             try clear hfz46_3
             try clear hx1192_0
             try clear hx1192_1
             try clear hx1192_2
             try clear hx1192_3
             try clear hx1194_0
             try clear hx1194_1
             try clear hx1194_2
             try clear hx1194_3
             try clear p1
             try clear p11
             try clear p1192
             try clear p1194
             try clear p2
             try clear q1
             try clear q11
             try clear q1192
             try clear q1194
             obtain ⟨x35_3, x1197000_3, x1197001_3, x1197002_3, x1197003_3, rfl, HA, HK3, HO_6, HO_21, HO_28, HO_1178001, HO_1179001, BK1177, BK1178, BK1179, BK1193, BK1195, BK1196, HB⟩ := hrel
             cases gk with
             | zero => exact absurd HA.out (by simp [impl_ProductOfSets.l2])
             | succ k3 =>
              have H := HA.out
              clear HA
              simp only [impl_ProductOfSets.l2] at H
              by_cases c47 : x35_3 < 4
              ·rw [if_pos c47] at H
               have c47b0 : decide (x35_3 < 4) = true := decide_eq_true c47
               clear c47
               by_cases c48 : x35_3 = 0
               ·subst c48
                have H1 : (impl_ProductOfSets.l2 k3 x6_2 l0_1 (l0_1.length : Int) x23_1 l1_1 (l1_1.length : Int) x30_2 (wrap64 (0 + 1)) a0_0 l0_1 a1_0 l1_1 ((rd_T45 l0_1 x23_1).f0) ((rd_T45 l0_1 x23_1).f1) ((rd_T45 l0_1 x23_1).f2) ((rd_T45 l0_1 x23_1).f3) ((rd_T45 l1_1 x30_2).f0) ((rd_T45 l1_1 x30_2).f1) ((rd_T45 l1_1 x30_2).f2) ((rd_T45 l1_1 x30_2).f3) (wrap64 ((wrap64 (((rd_T45 l0_1 x23_1).f0) * a1_0)) + ((rd_T45 l1_1 x30_2).f0))) x1197001_3 x1197002_3 x1197003_3) = some (r1, r2, r3) := by rw [if_pos rfl] at H; exact H
                clear H
                have H := H1
                clear H1
                have H' := Aside0.mk H
                clear H
                try go_wp2
                have n0_ := Aside0.mk (Kd.R_drew HO_6.out)
                have n1_ := Aside0.mk (Kd.V_drew HO_21.out)
                have n2_ := Aside0.mk (Kd.V_drew HO_28.out)
                have n3_ := Aside0.mk (Kd.V_drew HO_1178001.out)
                have n4_ := Aside0.mk (Kd.V_drew HO_1179001.out)
                have n5_ := Aside0.mk (blk_drew BK1177.out)
                have n6_ := Aside0.mk (blk_drew BK1178.out)
                have n7_ := Aside0.mk (blk_drew BK1179.out)
                have n8_ := Aside0.mk (blk_drew BK1193.out)
                have n9_ := Aside0.mk (blk_drew BK1195.out)
                have n10_ := Aside0.mk (blk_drew BK1196.out)
                have n11_ := Aside0.mk (below_drew1 HB.out)
                clear HO_6
                clear HO_21
                clear HO_28
                clear HO_1178001
                clear HO_1179001
                clear BK1177
                clear BK1178
                clear BK1179
                clear BK1193
                clear BK1195
                clear BK1196
                clear HB
                have HO_6 := n0_
                have HO_21 := n1_
                have HO_28 := n2_
                have HO_1178001 := n3_
                have HO_1179001 := n4_
                have BK1177 := n5_
                have BK1178 := n6_
                have BK1179 := n7_
                have BK1193 := n8_
                have BK1195 := n9_
                have BK1196 := n10_
                have HB := n11_
                clear n0_ n1_ n2_ n3_ n4_ n5_ n6_ n7_ n8_ n9_ n10_ n11_
                refine start_ (n := 13) (S := fun w' => w'.cell? ⟨gb1193, 0, none⟩ = some (.int .i64 ((rd_T45 l0_1 x23_1).f0)) ∧ w'.cell? ⟨gb1193, 1, none⟩ = some (.int .i64 ((rd_T45 l0_1 x23_1).f1)) ∧ w'.cell? ⟨gb1193, 2, none⟩ = some (.int .i64 ((rd_T45 l0_1 x23_1).f2)) ∧ w'.cell? ⟨gb1193, 3, none⟩ = some (.int .i64 ((rd_T45 l0_1 x23_1).f3)) ∧ w'.cell? ⟨gb1178, 0, none⟩ = some (.int .i64 a1_0) ∧ w'.cell? ⟨gb1178, 1, none⟩ = some (.slice (some ad1194) l1_1.length c1_1) ∧ w'.cell? ⟨gb1195, 0, none⟩ = some (.int .i64 ((rd_T45 l1_1 x30_2).f0)) ∧ w'.cell? ⟨gb1195, 1, none⟩ = some (.int .i64 ((rd_T45 l1_1 x30_2).f1)) ∧ w'.cell? ⟨gb1195, 2, none⟩ = some (.int .i64 ((rd_T45 l1_1 x30_2).f2)) ∧ w'.cell? ⟨gb1195, 3, none⟩ = some (.int .i64 ((rd_T45 l1_1 x30_2).f3))) (ds := []) #[false, false, false, false, false, false, false, false, false, false, false, false, false] (by kernel_rfl) rfl rfl ⟨(blk_cell BK1193.out 0).trans rfl, (blk_cell BK1193.out 1).trans rfl, (blk_cell BK1193.out 2).trans rfl, (blk_cell BK1193.out 3).trans rfl, (blk_cell BK1178.out 0).trans rfl, (blk_cell BK1178.out 1).trans rfl, (blk_cell BK1195.out 0).trans rfl, (blk_cell BK1195.out 1).trans rfl, (blk_cell BK1195.out 2).trans rfl, (blk_cell BK1195.out 3).trans rfl⟩ (fun hHeld => ?_); refine with_tabW impl_ProductOfSets.tab14 impl_ProductOfSets.bits14 (fun HT_ HW_ => ?_)
                generalize wr.drew = w49 at HO_6 HO_21 HO_28 HO_1178001 HO_1179001 BK1177 BK1178 BK1179 BK1193 BK1195 BK1196 HB hHeld ⊢
                refine pure_ (i := 0) (N := some 38) (v := ?_) (a' := ?_) #[true, false, false, false, false, false, false, false, false, false, false, false, false] rfl rfl (any_of HT_.out (by kernel_rfl)) (fun _ _ _ h => h) (Or.inl ⟨by rfl, ?_⟩) ?_ ?_
                rotate_left
                ·intro w'
                 go_simp
                 with_reducible rfl
                rotate_left
                ·simp only [Act.put, List.setIfInBounds_toArray, List.set_cons_zero, List.set_cons_succ, i64_w, i32_w]
                 rfl
                refine pure_ (i := 1) (N := some 39) (v := ?_) (a' := ?_) #[true, true, false, false, false, false, false, false, false, false, false, false, false] rfl rfl (any_of HT_.out (by kernel_rfl)) (fun _ _ _ h => h) (Or.inl ⟨by rfl, ?_⟩) ?_ ?_
                rotate_left
                ·intro w'
                 go_simp
                 with_reducible rfl
                rotate_left
                ·simp only [Act.put, List.setIfInBounds_toArray, List.set_cons_zero, List.set_cons_succ, i64_w, i32_w]
                 rfl
                refine pure_ (i := 2) (N := some 40) (v := ?_) (a' := ?_) #[true, true, true, false, false, false, false, false, false, false, false, false, false] rfl rfl (any_of HT_.out (by kernel_rfl)) (fun _ _ _ h => h) (Or.inl ⟨by rfl, ?_⟩) ?_ ?_
                rotate_left
                ·intro w'
                 go_simp
                 with_reducible rfl
                rotate_left
                ·simp only [Act.put, List.setIfInBounds_toArray, List.set_cons_zero, List.set_cons_succ, i64_w, i32_w]
                 rfl
                refine pure_ (i := 4) (N := some 42) (v := ?_) (a' := ?_) #[true, true, true, false, true, false, false, false, false, false, false, false, false] rfl rfl (any_of HT_.out (by kernel_rfl)) (fun _ _ _ h => h) (Or.inl ⟨by rfl, ?_⟩) ?_ ?_
                rotate_left
                ·intro w'
                 go_simp
                 with_reducible rfl
                rotate_left
                ·simp only [Act.put, List.setIfInBounds_toArray, List.set_cons_zero, List.set_cons_succ, i64_w, i32_w]
                 rfl
                refine pure_ (i := 7) (N := some 45) (v := ?_) (a' := ?_) #[true, true, true, false, true, false, false, true, false, false, false, false, false] rfl rfl (any_of HT_.out (by kernel_rfl)) (fun _ _ _ h => h) (Or.inl ⟨by rfl, ?_⟩) ?_ ?_
                rotate_left
                ·intro w'
                 go_simp
                 with_reducible rfl
                rotate_left
                ·simp only [Act.put, List.setIfInBounds_toArray, List.set_cons_zero, List.set_cons_succ, i64_w, i32_w]
                 rfl
                refine pure_ (i := 8) (N := some 46) (v := ?_) (a' := ?_) #[true, true, true, false, true, false, false, true, true, false, false, false, false] rfl rfl (any_of HT_.out (by kernel_rfl)) (fun _ _ _ h => h) (Or.inl ⟨by rfl, ?_⟩) ?_ ?_
                rotate_left
                ·intro w'
                 go_simp
                 with_reducible rfl
                rotate_left
                ·simp only [Act.put, List.setIfInBounds_toArray, List.set_cons_zero, List.set_cons_succ, i64_w, i32_w]
                 rfl
                refine take_ (i := 3) (N := some 41) (v := ?_) (a' := ?_) #[true, true, true, true, true, false, false, true, true, false, false, false, false] rfl rfl (take_ofW HT_.out HW_.out (by kernel_rfl)) (fun _ _ _ h => h) (Or.inl ⟨by rfl, ?_⟩) hHeld ?_ ?_
                rotate_left
                ·rintro w' ⟨s0, s1, s2, s3, s4, s5, s6, s7, s8, s9⟩
                 go_simp
                 with_reducible rfl
                rotate_left
                ·simp only [Act.put, List.setIfInBounds_toArray, List.set_cons_zero, List.set_cons_succ, i64_w, i32_w]
                 rfl
                refine take_ (i := 5) (N := some 43) (v := ?_) (a' := ?_) #[true, true, true, true, true, true, false, true, true, false, false, false, false] rfl rfl (take_ofW HT_.out HW_.out (by kernel_rfl)) (fun _ _ _ h => h) (Or.inl ⟨by rfl, ?_⟩) hHeld ?_ ?_
                rotate_left
                ·rintro w' ⟨s0, s1, s2, s3, s4, s5, s6, s7, s8, s9⟩
                 go_simp
                 with_reducible rfl
                rotate_left
                ·simp only [Act.put, List.setIfInBounds_toArray, List.set_cons_zero, List.set_cons_succ, i64_w, i32_w]
                 rfl
                refine pure_ (i := 6) (N := some 44) (v := ?_) (a' := ?_) #[true, true, true, true, true, true, true, true, true, false, false, false, false] rfl rfl (any_of HT_.out (by kernel_rfl)) (fun _ _ _ h => h) (Or.inl ⟨by rfl, ?_⟩) ?_ ?_
                rotate_left
                ·intro w'
                 go_simp
                 with_reducible rfl
                rotate_left
                ·simp only [Act.put, List.setIfInBounds_toArray, List.set_cons_zero, List.set_cons_succ, i64_w, i32_w]
                 rfl
                refine take_ (i := 9) (N := some 47) (v := ?_) (a' := ?_) #[true, true, true, true, true, true, true, true, true, true, false, false, false] rfl rfl (take_ofW HT_.out HW_.out (by kernel_rfl)) (fun _ _ _ h => h) (Or.inl ⟨by rfl, ?_⟩) hHeld ?_ ?_
                rotate_left
                ·rintro w' ⟨s0, s1, s2, s3, s4, s5, s6, s7, s8, s9⟩
                 go_simp
                 with_reducible rfl
                rotate_left
                ·simp only [Act.put, List.setIfInBounds_toArray, List.set_cons_zero, List.set_cons_succ, i64_w, i32_w]
                 rfl
                refine pure_ (i := 10) (N := some 48) (v := ?_) (a' := ?_) #[true, true, true, true, true, true, true, true, true, true, true, false, false] rfl rfl (any_of HT_.out (by kernel_rfl)) (fun _ _ _ h => h) (Or.inl ⟨by rfl, ?_⟩) ?_ ?_
                rotate_left
                ·intro w'
                 go_simp
                 with_reducible rfl
                rotate_left
                ·simp only [Act.put, List.setIfInBounds_toArray, List.set_cons_zero, List.set_cons_succ, i64_w, i32_w]
                 rfl
                refine pure_ (i := 11) (N := some 49) (v := ?_) (a' := ?_) #[true, true, true, true, true, true, true, true, true, true, true, true, false] rfl rfl (any_of HT_.out (by kernel_rfl)) (fun _ _ _ h => h) (Or.inl ⟨by rfl, ?_⟩) ?_ ?_
                rotate_left
                ·intro w'
                 go_simp
                 with_reducible rfl
                rotate_left
                ·simp only [Act.put, List.setIfInBounds_toArray, List.set_cons_zero, List.set_cons_succ, i64_w, i32_w]
                 rfl
                refine one_ (i := 12) (N := none) #[true, true, true, true, true, true, true, true, true, true, true, true, true] rfl rfl (one_of HT_.out (by kernel_rfl)) (by decide) (fun K hK => ?_)
                have hs50 : w49.cell? ⟨gb1196, 0, none⟩ = some (.int .i64 x1197000_3) := (blk_cell BK1196.out 0).trans rfl
                have hfs50 := blk_frozen BK1196.out 0
                have hns50_0 := NB1177_1196.out
                have hns50_1 := NB1178_1196.out
                have hns50_2 := NB1179_1196.out
                have hns50_3 := NB1193_1196.out
                have hns50_4 := NB1195_1196.out
                have hms50_0 := NB1196_1177.out
                have hms50_1 := NB1196_1178.out
                have hms50_2 := NB1196_1179.out
                have hms50_3 := NB1196_1193.out
                have hms50_4 := NB1196_1195.out
                refine skip_ (w1 := ?_) (by rfl) rfl ?_ ?_
                rotate_left
                ·go_simp
                 rfl
                refine hK.out _ _ ⟨((cell_far (p := ⟨gb1196, _, none⟩) NB1193_1196.out _).trans (hHeld.1)), ((cell_far (p := ⟨gb1196, _, none⟩) NB1193_1196.out _).trans (hHeld.2.1)), ((cell_far (p := ⟨gb1196, _, none⟩) NB1193_1196.out _).trans (hHeld.2.2.1)), ((cell_far (p := ⟨gb1196, _, none⟩) NB1193_1196.out _).trans (hHeld.2.2.2.1)), ((cell_far (p := ⟨gb1196, _, none⟩) NB1178_1196.out _).trans (hHeld.2.2.2.2.1)), ((cell_far (p := ⟨gb1196, _, none⟩) NB1178_1196.out _).trans (hHeld.2.2.2.2.2.1)), ((cell_far (p := ⟨gb1196, _, none⟩) NB1195_1196.out _).trans (hHeld.2.2.2.2.2.2.1)), ((cell_far (p := ⟨gb1196, _, none⟩) NB1195_1196.out _).trans (hHeld.2.2.2.2.2.2.2.1)), ((cell_far (p := ⟨gb1196, _, none⟩) NB1195_1196.out _).trans (hHeld.2.2.2.2.2.2.2.2.1)), ((cell_far (p := ⟨gb1196, _, none⟩) NB1195_1196.out _).trans (hHeld.2.2.2.2.2.2.2.2.2))⟩ (fun hHeld => ?_)
                clear hK K
                refine done_ (done_of HT_.out (by kernel_rfl)) ?_
                try go_wp2
                go_roundg k3
                case measure => have := HK1.out; have := HK2.out; have := HK3.out; omega
                case rel => exact ⟨(wrap64 (0 + 1)), (wrap64 ((wrap64 (((rd_T45 l0_1 x23_1).f0) * a1_0)) + ((rd_T45 l1_1 x30_2).f0))), (x1197001_3), (x1197002_3), (x1197003_3), (by first | rfl | (simp; done) | (simp [*]; done) | (simp; decide +kernel)), H', ⟨by have := HK1.out; have := HK2.out; have := HK3.out; omega⟩, ⟨by (with_reducible repeat (first | apply Kd.R_alloc | apply Kd.R_drewN | apply Kd.R_drew)); exact Kd.R_mono (Kd.R_far (p := ⟨gb1196, 0, none⟩) (Kd.R_mono HO_6.out (fun k_ hk => (⟨hk, hk.2.2.2⟩ : _ ∧ k_ ≠ gb1196))) (fun _ hk => hk.2) (.int .i64 (wrap64 ((wrap64 (((rd_T45 l0_1 x23_1).f0) * a1_0)) + ((rd_T45 l1_1 x30_2).f0))))) (fun _ hk => ⟨hk.1.1, ⟨hk.1.2.1, ⟨hk.1.2.2.1, hk.1.2.2.2⟩⟩⟩)⟩, ⟨by (with_reducible repeat (first | apply Kd.V_alloc | apply Kd.V_drewN | apply Kd.V_drew)); exact Kd.V_mono (Kd.V_far (p := ⟨gb1196, 0, none⟩) (Kd.V_mono HO_21.out (fun k_ hk => (⟨hk, hk.2.2.2.2.2.2.2⟩ : _ ∧ k_ ≠ gb1196))) (fun _ hk => hk.2) (.int .i64 (wrap64 ((wrap64 (((rd_T45 l0_1 x23_1).f0) * a1_0)) + ((rd_T45 l1_1 x30_2).f0))))) (fun _ hk => ⟨hk.1.1, ⟨hk.1.2.1, ⟨hk.1.2.2.1, ⟨hk.1.2.2.2.1, ⟨hk.1.2.2.2.2.1, ⟨hk.1.2.2.2.2.2.1, ⟨hk.1.2.2.2.2.2.2.1, hk.1.2.2.2.2.2.2.2⟩⟩⟩⟩⟩⟩⟩)⟩, ⟨by (with_reducible repeat (first | apply Kd.V_alloc | apply Kd.V_drewN | apply Kd.V_drew)); exact Kd.V_mono (Kd.V_far (p := ⟨gb1196, 0, none⟩) (Kd.V_mono HO_28.out (fun k_ hk => (⟨hk, hk.2.2.2.2.2.2.2⟩ : _ ∧ k_ ≠ gb1196))) (fun _ hk => hk.2) (.int .i64 (wrap64 ((wrap64 (((rd_T45 l0_1 x23_1).f0) * a1_0)) + ((rd_T45 l1_1 x30_2).f0))))) (fun _ hk => ⟨hk.1.1, ⟨hk.1.2.1, ⟨hk.1.2.2.1, ⟨hk.1.2.2.2.1, ⟨hk.1.2.2.2.2.1, ⟨hk.1.2.2.2.2.2.1, ⟨hk.1.2.2.2.2.2.2.1, hk.1.2.2.2.2.2.2.2⟩⟩⟩⟩⟩⟩⟩)⟩, ⟨by (with_reducible repeat (first | apply Kd.V_alloc | apply Kd.V_drewN | apply Kd.V_drew)); exact Kd.V_mono (Kd.V_far (p := ⟨gb1196, 0, none⟩) (Kd.V_mono HO_1178001.out (fun k_ hk => (⟨hk, hk.2.2.2.2.2.2.2⟩ : _ ∧ k_ ≠ gb1196))) (fun _ hk => hk.2) (.int .i64 (wrap64 ((wrap64 (((rd_T45 l0_1 x23_1).f0) * a1_0)) + ((rd_T45 l1_1 x30_2).f0))))) (fun _ hk => ⟨hk.1.1, ⟨hk.1.2.1, ⟨hk.1.2.2.1, ⟨hk.1.2.2.2.1, ⟨hk.1.2.2.2.2.1, ⟨hk.1.2.2.2.2.2.1, ⟨hk.1.2.2.2.2.2.2.1, hk.1.2.2.2.2.2.2.2⟩⟩⟩⟩⟩⟩⟩)⟩, ⟨by (with_reducible repeat (first | apply Kd.V_alloc | apply Kd.V_drewN | apply Kd.V_drew)); exact Kd.V_mono (Kd.V_far (p := ⟨gb1196, 0, none⟩) (Kd.V_mono HO_1179001.out (fun k_ hk => (⟨hk, hk.2.2.2.2.2.2.2⟩ : _ ∧ k_ ≠ gb1196))) (fun _ hk => hk.2) (.int .i64 (wrap64 ((wrap64 (((rd_T45 l0_1 x23_1).f0) * a1_0)) + ((rd_T45 l1_1 x30_2).f0))))) (fun _ hk => ⟨hk.1.1, ⟨hk.1.2.1, ⟨hk.1.2.2.1, ⟨hk.1.2.2.2.1, ⟨hk.1.2.2.2.2.1, ⟨hk.1.2.2.2.2.2.1, ⟨hk.1.2.2.2.2.2.2.1, hk.1.2.2.2.2.2.2.2⟩⟩⟩⟩⟩⟩⟩)⟩, ⟨by (with_reducible repeat (first | refine blk_drewN ?_ _ | refine blk_drew ?_ | refine blk_alloc ?_ _)); refine blk_far ?_ NB1177_1196.out _; (with_reducible repeat (first | refine blk_drewN ?_ _ | refine blk_drew ?_ | refine blk_alloc ?_ _)); exact BK1177.out⟩, ⟨by (with_reducible repeat (first | refine blk_drewN ?_ _ | refine blk_drew ?_ | refine blk_alloc ?_ _)); refine blk_far ?_ NB1178_1196.out _; (with_reducible repeat (first | refine blk_drewN ?_ _ | refine blk_drew ?_ | refine blk_alloc ?_ _)); exact BK1178.out⟩, ⟨by (with_reducible repeat (first | refine blk_drewN ?_ _ | refine blk_drew ?_ | refine blk_alloc ?_ _)); refine blk_far ?_ NB1179_1196.out _; (with_reducible repeat (first | refine blk_drewN ?_ _ | refine blk_drew ?_ | refine blk_alloc ?_ _)); exact BK1179.out⟩, ⟨by (with_reducible repeat (first | refine blk_drewN ?_ _ | refine blk_drew ?_ | refine blk_alloc ?_ _)); refine blk_far ?_ NB1193_1196.out _; (with_reducible repeat (first | refine blk_drewN ?_ _ | refine blk_drew ?_ | refine blk_alloc ?_ _)); exact BK1193.out⟩, ⟨by (with_reducible repeat (first | refine blk_drewN ?_ _ | refine blk_drew ?_ | refine blk_alloc ?_ _)); refine blk_far ?_ NB1195_1196.out _; (with_reducible repeat (first | refine blk_drewN ?_ _ | refine blk_drew ?_ | refine blk_alloc ?_ _)); exact BK1195.out⟩, ⟨by (with_reducible repeat (first | refine blk_drewN ?_ _ | refine blk_drew ?_ | refine blk_alloc ?_ _)); refine blk_put (cs := #[.int .i64 x1197000_3, .int .i64 x1197001_3, .int .i64 x1197002_3, .int .i64 x1197003_3]) ?_ 0 _ rfl; (with_reducible repeat (first | refine blk_drewN ?_ _ | refine blk_drew ?_ | refine blk_alloc ?_ _)); exact BK1196.out⟩, ⟨by repeat (first | (with_reducible first | exact HB.out | apply below_alloc | apply pw_below_drewN | apply below_drew1 | refine below_set ?_ GE1177.out | refine below_set ?_ GE1178.out | refine below_set ?_ GE1179.out | refine below_set ?_ GE1193.out | refine below_set ?_ GE1195.out | refine below_set ?_ GE1196.out) | exact HB.out)⟩⟩
               ·rw [if_neg c48] at H
                clear c48
                by_cases c51 : x35_3 = 1
                ·subst c51
                 have H1 : (impl_ProductOfSets.l2 k3 x6_2 l0_1 (l0_1.length : Int) x23_1 l1_1 (l1_1.length : Int) x30_2 (wrap64 (1 + 1)) a0_0 l0_1 a1_0 l1_1 ((rd_T45 l0_1 x23_1).f0) ((rd_T45 l0_1 x23_1).f1) ((rd_T45 l0_1 x23_1).f2) ((rd_T45 l0_1 x23_1).f3) ((rd_T45 l1_1 x30_2).f0) ((rd_T45 l1_1 x30_2).f1) ((rd_T45 l1_1 x30_2).f2) ((rd_T45 l1_1 x30_2).f3) x1197000_3 (wrap64 ((wrap64 (((rd_T45 l0_1 x23_1).f1) * a1_0)) + ((rd_T45 l1_1 x30_2).f1))) x1197002_3 x1197003_3) = some (r1, r2, r3) := by rw [if_pos rfl] at H; exact H
                 clear H
                 have H := H1
                 clear H1
                 have H' := Aside0.mk H
                 clear H
                 try go_wp2
                 have n0_ := Aside0.mk (Kd.R_drew HO_6.out)
                 have n1_ := Aside0.mk (Kd.V_drew HO_21.out)
                 have n2_ := Aside0.mk (Kd.V_drew HO_28.out)
                 have n3_ := Aside0.mk (Kd.V_drew HO_1178001.out)
                 have n4_ := Aside0.mk (Kd.V_drew HO_1179001.out)
                 have n5_ := Aside0.mk (blk_drew BK1177.out)
                 have n6_ := Aside0.mk (blk_drew BK1178.out)
                 have n7_ := Aside0.mk (blk_drew BK1179.out)
                 have n8_ := Aside0.mk (blk_drew BK1193.out)
                 have n9_ := Aside0.mk (blk_drew BK1195.out)
                 have n10_ := Aside0.mk (blk_drew BK1196.out)
                 have n11_ := Aside0.mk (below_drew1 HB.out)
                 clear HO_6
                 clear HO_21
                 clear HO_28
                 clear HO_1178001
                 clear HO_1179001
                 clear BK1177
                 clear BK1178
                 clear BK1179
                 clear BK1193
                 clear BK1195
                 clear BK1196
                 clear HB
                 have HO_6 := n0_
                 have HO_21 := n1_
                 have HO_28 := n2_
                 have HO_1178001 := n3_
                 have HO_1179001 := n4_
                 have BK1177 := n5_
                 have BK1178 := n6_
                 have BK1179 := n7_
                 have BK1193 := n8_
                 have BK1195 := n9_
                 have BK1196 := n10_
                 have HB := n11_
                 clear n0_ n1_ n2_ n3_ n4_ n5_ n6_ n7_ n8_ n9_ n10_ n11_
                 refine start_ (n := 13) (S := fun w' => w'.cell? ⟨gb1193, 0, none⟩ = some (.int .i64 ((rd_T45 l0_1 x23_1).f0)) ∧ w'.cell? ⟨gb1193, 1, none⟩ = some (.int .i64 ((rd_T45 l0_1 x23_1).f1)) ∧ w'.cell? ⟨gb1193, 2, none⟩ = some (.int .i64 ((rd_T45 l0_1 x23_1).f2)) ∧ w'.cell? ⟨gb1193, 3, none⟩ = some (.int .i64 ((rd_T45 l0_1 x23_1).f3)) ∧ w'.cell? ⟨gb1178, 0, none⟩ = some (.int .i64 a1_0) ∧ w'.cell? ⟨gb1178, 1, none⟩ = some (.slice (some ad1194) l1_1.length c1_1) ∧ w'.cell? ⟨gb1195, 0, none⟩ = some (.int .i64 ((rd_T45 l1_1 x30_2).f0)) ∧ w'.cell? ⟨gb1195, 1, none⟩ = some (.int .i64 ((rd_T45 l1_1 x30_2).f1)) ∧ w'.cell? ⟨gb1195, 2, none⟩ = some (.int .i64 ((rd_T45 l1_1 x30_2).f2)) ∧ w'.cell? ⟨gb1195, 3, none⟩ = some (.int .i64 ((rd_T45 l1_1 x30_2).f3))) (ds := []) #[false, false, false, false, false, false, false, false, false, false, false, false, false] (by kernel_rfl) rfl rfl ⟨(blk_cell BK1193.out 0).trans rfl, (blk_cell BK1193.out 1).trans rfl, (blk_cell BK1193.out 2).trans rfl, (blk_cell BK1193.out 3).trans rfl, (blk_cell BK1178.out 0).trans rfl, (blk_cell BK1178.out 1).trans rfl, (blk_cell BK1195.out 0).trans rfl, (blk_cell BK1195.out 1).trans rfl, (blk_cell BK1195.out 2).trans rfl, (blk_cell BK1195.out 3).trans rfl⟩ (fun hHeld => ?_); refine with_tabW impl_ProductOfSets.tab14 impl_ProductOfSets.bits14 (fun HT_ HW_ => ?_)
                 generalize wr.drew = w52 at HO_6 HO_21 HO_28 HO_1178001 HO_1179001 BK1177 BK1178 BK1179 BK1193 BK1195 BK1196 HB hHeld ⊢
                 refine pure_ (i := 0) (N := some 38) (v := ?_) (a' := ?_) #[true, false, false, false, false, false, false, false, false, false, false, false, false] rfl rfl (any_of HT_.out (by kernel_rfl)) (fun _ _ _ h => h) (Or.inl ⟨by rfl, ?_⟩) ?_ ?_
                 rotate_left
                 ·intro w'
                  go_simp
                  with_reducible rfl
                 rotate_left
                 ·simp only [Act.put, List.setIfInBounds_toArray, List.set_cons_zero, List.set_cons_succ, i64_w, i32_w]
                  rfl
                 refine pure_ (i := 1) (N := some 39) (v := ?_) (a' := ?_) #[true, true, false, false, false, false, false, false, false, false, false, false, false] rfl rfl (any_of HT_.out (by kernel_rfl)) (fun _ _ _ h => h) (Or.inl ⟨by rfl, ?_⟩) ?_ ?_
                 rotate_left
                 ·intro w'
                  go_simp
                  with_reducible rfl
                 rotate_left
                 ·simp only [Act.put, List.setIfInBounds_toArray, List.set_cons_zero, List.set_cons_succ, i64_w, i32_w]
                  rfl
                 refine pure_ (i := 2) (N := some 40) (v := ?_) (a' := ?_) #[true, true, true, false, false, false, false, false, false, false, false, false, false] rfl rfl (any_of HT_.out (by kernel_rfl)) (fun _ _ _ h => h) (Or.inl ⟨by rfl, ?_⟩) ?_ ?_
                 rotate_left
                 ·intro w'
                  go_simp
                  with_reducible rfl
                 rotate_left
                 ·simp only [Act.put, List.setIfInBounds_toArray, List.set_cons_zero, List.set_cons_succ, i64_w, i32_w]
                  rfl
                 refine pure_ (i := 4) (N := some 42) (v := ?_) (a' := ?_) #[true, true, true, false, true, false, false, false, false, false, false, false, false] rfl rfl (any_of HT_.out (by kernel_rfl)) (fun _ _ _ h => h) (Or.inl ⟨by rfl, ?_⟩) ?_ ?_
                 rotate_left
                 ·intro w'
                  go_simp
                  with_reducible rfl
                 rotate_left
                 ·simp only [Act.put, List.setIfInBounds_toArray, List.set_cons_zero, List.set_cons_succ, i64_w, i32_w]
                  rfl
                 refine pure_ (i := 7) (N := some 45) (v := ?_) (a' := ?_) #[true, true, true, false, true, false, false, true, false, false, false, false, false] rfl rfl (any_of HT_.out (by kernel_rfl)) (fun _ _ _ h => h) (Or.inl ⟨by rfl, ?_⟩) ?_ ?_
                 rotate_left
                 ·intro w'
                  go_simp
                  with_reducible rfl
                 rotate_left
                 ·simp only [Act.put, List.setIfInBounds_toArray, List.set_cons_zero, List.set_cons_succ, i64_w, i32_w]
                  rfl
                 refine pure_ (i := 8) (N := some 46) (v := ?_) (a' := ?_) #[true, true, true, false, true, false, false, true, true, false, false, false, false] rfl rfl (any_of HT_.out (by kernel_rfl)) (fun _ _ _ h => h) (Or.inl ⟨by rfl, ?_⟩) ?_ ?_
                 rotate_left
                 ·intro w'
                  go_simp
                  with_reducible rfl
                 rotate_left
                 ·simp only [Act.put, List.setIfInBounds_toArray, List.set_cons_zero, List.set_cons_succ, i64_w, i32_w]
                  rfl
                 refine take_ (i := 3) (N := some 41) (v := ?_) (a' := ?_) #[true, true, true, true, true, false, false, true, true, false, false, false, false] rfl rfl (take_ofW HT_.out HW_.out (by kernel_rfl)) (fun _ _ _ h => h) (Or.inl ⟨by rfl, ?_⟩) hHeld ?_ ?_
                 rotate_left
                 ·rintro w' ⟨s0, s1, s2, s3, s4, s5, s6, s7, s8, s9⟩
                  go_simp
                  with_reducible rfl
                 rotate_left
                 ·simp only [Act.put, List.setIfInBounds_toArray, List.set_cons_zero, List.set_cons_succ, i64_w, i32_w]
                  rfl
                 refine take_ (i := 5) (N := some 43) (v := ?_) (a' := ?_) #[true, true, true, true, true, true, false, true, true, false, false, false, false] rfl rfl (take_ofW HT_.out HW_.out (by kernel_rfl)) (fun _ _ _ h => h) (Or.inl ⟨by rfl, ?_⟩) hHeld ?_ ?_
                 rotate_left
                 ·rintro w' ⟨s0, s1, s2, s3, s4, s5, s6, s7, s8, s9⟩
                  go_simp
                  with_reducible rfl
                 rotate_left
                 ·simp only [Act.put, List.setIfInBounds_toArray, List.set_cons_zero, List.set_cons_succ, i64_w, i32_w]
                  rfl
                 refine pure_ (i := 6) (N := some 44) (v := ?_) (a' := ?_) #[true, true, true, true, true, true, true, true, true, false, false, false, false] rfl rfl (any_of HT_.out (by kernel_rfl)) (fun _ _ _ h => h) (Or.inl ⟨by rfl, ?_⟩) ?_ ?_
                 rotate_left
                 ·intro w'
                  go_simp
                  with_reducible rfl
                 rotate_left
                 ·simp only [Act.put, List.setIfInBounds_toArray, List.set_cons_zero, List.set_cons_succ, i64_w, i32_w]
                  rfl
                 refine take_ (i := 9) (N := some 47) (v := ?_) (a' := ?_) #[true, true, true, true, true, true, true, true, true, true, false, false, false] rfl rfl (take_ofW HT_.out HW_.out (by kernel_rfl)) (fun _ _ _ h => h) (Or.inl ⟨by rfl, ?_⟩) hHeld ?_ ?_
                 rotate_left
                 ·rintro w' ⟨s0, s1, s2, s3, s4, s5, s6, s7, s8, s9⟩
                  go_simp
                  with_reducible rfl
                 rotate_left
                 ·simp only [Act.put, List.setIfInBounds_toArray, List.set_cons_zero, List.set_cons_succ, i64_w, i32_w]
                  rfl
                 refine pure_ (i := 10) (N := some 48) (v := ?_) (a' := ?_) #[true, true, true, true, true, true, true, true, true, true, true, false, false] rfl rfl (any_of HT_.out (by kernel_rfl)) (fun _ _ _ h => h) (Or.inl ⟨by rfl, ?_⟩) ?_ ?_
                 rotate_left
                 ·intro w'
                  go_simp
                  with_reducible rfl
                 rotate_left
                 ·simp only [Act.put, List.setIfInBounds_toArray, List.set_cons_zero, List.set_cons_succ, i64_w, i32_w]
                  rfl
                 refine pure_ (i := 11) (N := some 49) (v := ?_) (a' := ?_) #[true, true, true, true, true, true, true, true, true, true, true, true, false] rfl rfl (any_of HT_.out (by kernel_rfl)) (fun _ _ _ h => h) (Or.inl ⟨by rfl, ?_⟩) ?_ ?_
                 rotate_left
                 ·intro w'
                  go_simp
                  with_reducible rfl
                 rotate_left
                 ·simp only [Act.put, List.setIfInBounds_toArray, List.set_cons_zero, List.set_cons_succ, i64_w, i32_w]
                  rfl
                 refine one_ (i := 12) (N := none) #[true, true, true, true, true, true, true, true, true, true, true, true, true] rfl rfl (one_of HT_.out (by kernel_rfl)) (by decide) (fun K hK => ?_)
                 have hs53 : w52.cell? ⟨gb1196, 1, none⟩ = some (.int .i64 x1197001_3) := (blk_cell BK1196.out 1).trans rfl
                 have hfs53 := blk_frozen BK1196.out 1
                 have hns53_0 := NB1177_1196.out
                 have hns53_1 := NB1178_1196.out
                 have hns53_2 := NB1179_1196.out
                 have hns53_3 := NB1193_1196.out
                 have hns53_4 := NB1195_1196.out
                 have hms53_0 := NB1196_1177.out
                 have hms53_1 := NB1196_1178.out
                 have hms53_2 := NB1196_1179.out
                 have hms53_3 := NB1196_1193.out
                 have hms53_4 := NB1196_1195.out
                 refine skip_ (w1 := ?_) (by rfl) rfl ?_ ?_
                 rotate_left
                 ·go_simp
                  rfl
                 refine hK.out _ _ ⟨((cell_far (p := ⟨gb1196, _, none⟩) NB1193_1196.out _).trans (hHeld.1)), ((cell_far (p := ⟨gb1196, _, none⟩) NB1193_1196.out _).trans (hHeld.2.1)), ((cell_far (p := ⟨gb1196, _, none⟩) NB1193_1196.out _).trans (hHeld.2.2.1)), ((cell_far (p := ⟨gb1196, _, none⟩) NB1193_1196.out _).trans (hHeld.2.2.2.1)), ((cell_far (p := ⟨gb1196, _, none⟩) NB1178_1196.out _).trans (hHeld.2.2.2.2.1)), ((cell_far (p := ⟨gb1196, _, none⟩) NB1178_1196.out _).trans (hHeld.2.2.2.2.2.1)), ((cell_far (p := ⟨gb1196, _, none⟩) NB1195_1196.out _).trans (hHeld.2.2.2.2.2.2.1)), ((cell_far (p := ⟨gb1196, _, none⟩) NB1195_1196.out _).trans (hHeld.2.2.2.2.2.2.2.1)), ((cell_far (p := ⟨gb1196, _, none⟩) NB1195_1196.out _).trans (hHeld.2.2.2.2.2.2.2.2.1)), ((cell_far (p := ⟨gb1196, _, none⟩) NB1195_1196.out _).trans (hHeld.2.2.2.2.2.2.2.2.2))⟩ (fun hHeld => ?_)
                 clear hK K
                 refine done_ (done_of HT_.out (by kernel_rfl)) ?_
                 try go_wp2
                 go_roundg k3
                 case measure => have := HK1.out; have := HK2.out; have := HK3.out; omega
                 case rel => exact ⟨(wrap64 (1 + 1)), (x1197000_3), (wrap64 ((wrap64 (((rd_T45 l0_1 x23_1).f1) * a1_0)) + ((rd_T45 l1_1 x30_2).f1))), (x1197002_3), (x1197003_3), (by first | rfl | (simp; done) | (simp [*]; done) | (simp; decide +kernel)), H', ⟨by have := HK1.out; have := HK2.out; have := HK3.out; omega⟩, ⟨by (with_reducible repeat (first | apply Kd.R_alloc | apply Kd.R_drewN | apply Kd.R_drew)); exact Kd.R_mono (Kd.R_far (p := ⟨gb1196, 1, none⟩) (Kd.R_mono HO_6.out (fun k_ hk => (⟨hk, hk.2.2.2⟩ : _ ∧ k_ ≠ gb1196))) (fun _ hk => hk.2) (.int .i64 (wrap64 ((wrap64 (((rd_T45 l0_1 x23_1).f1) * a1_0)) + ((rd_T45 l1_1 x30_2).f1))))) (fun _ hk => ⟨hk.1.1, ⟨hk.1.2.1, ⟨hk.1.2.2.1, hk.1.2.2.2⟩⟩⟩)⟩, ⟨by (with_reducible repeat (first | apply Kd.V_alloc | apply Kd.V_drewN | apply Kd.V_drew)); exact Kd.V_mono (Kd.V_far (p := ⟨gb1196, 1, none⟩) (Kd.V_mono HO_21.out (fun k_ hk => (⟨hk, hk.2.2.2.2.2.2.2⟩ : _ ∧ k_ ≠ gb1196))) (fun _ hk => hk.2) (.int .i64 (wrap64 ((wrap64 (((rd_T45 l0_1 x23_1).f1) * a1_0)) + ((rd_T45 l1_1 x30_2).f1))))) (fun _ hk => ⟨hk.1.1, ⟨hk.1.2.1, ⟨hk.1.2.2.1, ⟨hk.1.2.2.2.1, ⟨hk.1.2.2.2.2.1, ⟨hk.1.2.2.2.2.2.1, ⟨hk.1.2.2.2.2.2.2.1, hk.1.2.2.2.2.2.2.2⟩⟩⟩⟩⟩⟩⟩)⟩, ⟨by (with_reducible repeat (first | apply Kd.V_alloc | apply Kd.V_drewN | apply Kd.V_drew)); exact Kd.V_mono (Kd.V_far (p := ⟨gb1196, 1, none⟩) (Kd.V_mono HO_28.out (fun k_ hk => (⟨hk, hk.2.2.2.2.2.2.2⟩ : _ ∧ k_ ≠ gb1196))) (fun _ hk => hk.2) (.int .i64 (wrap64 ((wrap64 (((rd_T45 l0_1 x23_1).f1) * a1_0)) + ((rd_T45 l1_1 x30_2).f1))))) (fun _ hk => ⟨hk.1.1, ⟨hk.1.2.1, ⟨hk.1.2.2.1, ⟨hk.1.2.2.2.1, ⟨hk.1.2.2.2.2.1, ⟨hk.1.2.2.2.2.2.1, ⟨hk.1.2.2.2.2.2.2.1, hk.1.2.2.2.2.2.2.2⟩⟩⟩⟩⟩⟩⟩)⟩, ⟨by (with_reducible repeat (first | apply Kd.V_alloc | apply Kd.V_drewN | apply Kd.V_drew)); exact Kd.V_mono (Kd.V_far (p := ⟨gb1196, 1, none⟩) (Kd.V_mono HO_1178001.out (fun k_ hk => (⟨hk, hk.2.2.2.2.2.2.2⟩ : _ ∧ k_ ≠ gb1196))) (fun _ hk => hk.2) (.int .i64 (wrap64 ((wrap64 (((rd_T45 l0_1 x23_1).f1) * a1_0)) + ((rd_T45 l1_1 x30_2).f1))))) (fun _ hk => ⟨hk.1.1, ⟨hk.1.2.1, ⟨hk.1.2.2.1, ⟨hk.1.2.2.2.1, ⟨hk.1.2.2.2.2.1, ⟨hk.1.2.2.2.2.2.1, ⟨hk.1.2.2.2.2.2.2.1, hk.1.2.2.2.2.2.2.2⟩⟩⟩⟩⟩⟩⟩)⟩, ⟨by (with_reducible repeat (first | apply Kd.V_alloc | apply Kd.V_drewN | apply Kd.V_drew)); exact Kd.V_mono (Kd.V_far (p := ⟨gb1196, 1, none⟩) (Kd.V_mono HO_1179001.out (fun k_ hk => (⟨hk, hk.2.2.2.2.2.2.2⟩ : _ ∧ k_ ≠ gb1196))) (fun _ hk => hk.2) (.int .i64 (wrap64 ((wrap64 (((rd_T45 l0_1 x23_1).f1) * a1_0)) + ((rd_T45 l1_1 x30_2).f1))))) (fun _ hk => ⟨hk.1.1, ⟨hk.1.2.1, ⟨hk.1.2.2.1, ⟨hk.1.2.2.2.1, ⟨hk.1.2.2.2.2.1, ⟨hk.1.2.2.2.2.2.1, ⟨hk.1.2.2.2.2.2.2.1, hk.1.2.2.2.2.2.2.2⟩⟩⟩⟩⟩⟩⟩)⟩, ⟨by (with_reducible repeat (first | refine blk_drewN ?_ _ | refine blk_drew ?_ | refine blk_alloc ?_ _)); refine blk_far ?_ NB1177_1196.out _; (with_reducible repeat (first | refine blk_drewN ?_ _ | refine blk_drew ?_ | refine blk_alloc ?_ _)); exact BK1177.out⟩, ⟨by (with_reducible repeat (first | refine blk_drewN ?_ _ | refine blk_drew ?_ | refine blk_alloc ?_ _)); refine blk_far ?_ NB1178_1196.out _; (with_reducible repeat (first | refine blk_drewN ?_ _ | refine blk_drew ?_ | refine blk_alloc ?_ _)); exact BK1178.out⟩, ⟨by (with_reducible repeat (first | refine blk_drewN ?_ _ | refine blk_drew ?_ | refine blk_alloc ?_ _)); refine blk_far ?_ NB1179_1196.out _; (with_reducible repeat (first | refine blk_drewN ?_ _ | refine blk_drew ?_ | refine blk_alloc ?_ _)); exact BK1179.out⟩, ⟨by (with_reducible repeat (first | refine blk_drewN ?_ _ | refine blk_drew ?_ | refine blk_alloc ?_ _)); refine blk_far ?_ NB1193_1196.out _; (with_reducible repeat (first | refine blk_drewN ?_ _ | refine blk_drew ?_ | refine blk_alloc ?_ _)); exact BK1193.out⟩, ⟨by (with_reducible repeat (first | refine blk_drewN ?_ _ | refine blk_drew ?_ | refine blk_alloc ?_ _)); refine blk_far ?_ NB1195_1196.out _; (with_reducible repeat (first | refine blk_drewN ?_ _ | refine blk_drew ?_ | refine blk_alloc ?_ _)); exact BK1195.out⟩, ⟨by (with_reducible repeat (first | refine blk_drewN ?_ _ | refine blk_drew ?_ | refine blk_alloc ?_ _)); refine blk_put (cs := #[.int .i64 x1197000_3, .int .i64 x1197001_3, .int .i64 x1197002_3, .int .i64 x1197003_3]) ?_ 1 _ rfl; (with_reducible repeat (first | refine blk_drewN ?_ _ | refine blk_drew ?_ | refine blk_alloc ?_ _)); exact BK1196.out⟩, ⟨by repeat (first | (with_reducible first | exact HB.out | apply below_alloc | apply pw_below_drewN | apply below_drew1 | refine below_set ?_ GE1177.out | refine below_set ?_ GE1178.out | refine below_set ?_ GE1179.out | refine below_set ?_ GE1193.out | refine below_set ?_ GE1195.out | refine below_set ?_ GE1196.out) | exact HB.out)⟩⟩
                ·rw [if_neg c51] at H
                 clear c51
                 by_cases c54 : x35_3 = 2
                 ·subst c54
                  have H1 : (impl_ProductOfSets.l2 k3 x6_2 l0_1 (l0_1.length : Int) x23_1 l1_1 (l1_1.length : Int) x30_2 (wrap64 (2 + 1)) a0_0 l0_1 a1_0 l1_1 ((rd_T45 l0_1 x23_1).f0) ((rd_T45 l0_1 x23_1).f1) ((rd_T45 l0_1 x23_1).f2) ((rd_T45 l0_1 x23_1).f3) ((rd_T45 l1_1 x30_2).f0) ((rd_T45 l1_1 x30_2).f1) ((rd_T45 l1_1 x30_2).f2) ((rd_T45 l1_1 x30_2).f3) x1197000_3 x1197001_3 (wrap64 ((wrap64 (((rd_T45 l0_1 x23_1).f2) * a1_0)) + ((rd_T45 l1_1 x30_2).f2))) x1197003_3) = some (r1, r2, r3) := by rw [if_pos rfl] at H; exact H
                  clear H
                  have H := H1
                  clear H1
                  have H' := Aside0.mk H
                  clear H
                  try go_wp2
                  have n0_ := Aside0.mk (Kd.R_drew HO_6.out)
                  have n1_ := Aside0.mk (Kd.V_drew HO_21.out)
                  have n2_ := Aside0.mk (Kd.V_drew HO_28.out)
                  have n3_ := Aside0.mk (Kd.V_drew HO_1178001.out)
                  have n4_ := Aside0.mk (Kd.V_drew HO_1179001.out)
                  have n5_ := Aside0.mk (blk_drew BK1177.out)
                  have n6_ := Aside0.mk (blk_drew BK1178.out)
                  have n7_ := Aside0.mk (blk_drew BK1179.out)
                  have n8_ := Aside0.mk (blk_drew BK1193.out)
                  have n9_ := Aside0.mk (blk_drew BK1195.out)
                  have n10_ := Aside0.mk (blk_drew BK1196.out)
                  have n11_ := Aside0.mk (below_drew1 HB.out)
                  clear HO_6
                  clear HO_21
                  clear HO_28
                  clear HO_1178001
                  clear HO_1179001
                  clear BK1177
                  clear BK1178
                  clear BK1179
                  clear BK1193
                  clear BK1195
                  clear BK1196
                  clear HB
                  have HO_6 := n0_
                  have HO_21 := n1_
                  have HO_28 := n2_
                  have HO_1178001 := n3_
                  have HO_1179001 := n4_
                  have BK1177 := n5_
                  have BK1178 := n6_
                  have BK1179 := n7_
                  have BK1193 := n8_
                  have BK1195 := n9_
                  have BK1196 := n10_
                  have HB := n11_
                  clear n0_ n1_ n2_ n3_ n4_ n5_ n6_ n7_ n8_ n9_ n10_ n11_
                  refine start_ (n := 13) (S := fun w' => w'.cell? ⟨gb1193, 0, none⟩ = some (.int .i64 ((rd_T45 l0_1 x23_1).f0)) ∧ w'.cell? ⟨gb1193, 1, none⟩ = some (.int .i64 ((rd_T45 l0_1 x23_1).f1)) ∧ w'.cell? ⟨gb1193, 2, none⟩ = some (.int .i64 ((rd_T45 l0_1 x23_1).f2)) ∧ w'.cell? ⟨gb1193, 3, none⟩ = some (.int .i64 ((rd_T45 l0_1 x23_1).f3)) ∧ w'.cell? ⟨gb1178, 0, none⟩ = some (.int .i64 a1_0) ∧ w'.cell? ⟨gb1178, 1, none⟩ = some (.slice (some ad1194) l1_1.length c1_1) ∧ w'.cell? ⟨gb1195, 0, none⟩ = some (.int .i64 ((rd_T45 l1_1 x30_2).f0)) ∧ w'.cell? ⟨gb1195, 1, none⟩ = some (.int .i64 ((rd_T45 l1_1 x30_2).f1)) ∧ w'.cell? ⟨gb1195, 2, none⟩ = some (.int .i64 ((rd_T45 l1_1 x30_2).f2)) ∧ w'.cell? ⟨gb1195, 3, none⟩ = some (.int .i64 ((rd_T45 l1_1 x30_2).f3))) (ds := []) #[false, false, false, false, false, false, false, false, false, false, false, false, false] (by kernel_rfl) rfl rfl ⟨(blk_cell BK1193.out 0).trans rfl, (blk_cell BK1193.out 1).trans rfl, (blk_cell BK1193.out 2).trans rfl, (blk_cell BK1193.out 3).trans rfl, (blk_cell BK1178.out 0).trans rfl, (blk_cell BK1178.out 1).trans rfl, (blk_cell BK1195.out 0).trans rfl, (blk_cell BK1195.out 1).trans rfl, (blk_cell BK1195.out 2).trans rfl, (blk_cell BK1195.out 3).trans rfl⟩ (fun hHeld => ?_); refine with_tabW impl_ProductOfSets.tab14 impl_ProductOfSets.bits14 (fun HT_ HW_ => ?_)
                  generalize wr.drew = w55 at HO_6 HO_21 HO_28 HO_1178001 HO_1179001 BK1177 BK1178 BK1179 BK1193 BK1195 BK1196 HB hHeld ⊢
                  refine pure_ (i := 0) (N := some 38) (v := ?_) (a' := ?_) #[true, false, false, false, false, false, false, false, false, false, false, false, false] rfl rfl (any_of HT_.out (by kernel_rfl)) (fun _ _ _ h => h) (Or.inl ⟨by rfl, ?_⟩) ?_ ?_
                  rotate_left
                  ·intro w'
                   go_simp
                   with_reducible rfl
                  rotate_left
                  ·simp only [Act.put, List.setIfInBounds_toArray, List.set_cons_zero, List.set_cons_succ, i64_w, i32_w]
                   rfl
                  refine pure_ (i := 1) (N := some 39) (v := ?_) (a' := ?_) #[true, true, false, false, false, false, false, false, false, false, false, false, false] rfl rfl (any_of HT_.out (by kernel_rfl)) (fun _ _ _ h => h) (Or.inl ⟨by rfl, ?_⟩) ?_ ?_
                  rotate_left
                  ·intro w'
                   go_simp
                   with_reducible rfl
                  rotate_left
                  ·simp only [Act.put, List.setIfInBounds_toArray, List.set_cons_zero, List.set_cons_succ, i64_w, i32_w]
                   rfl
                  refine pure_ (i := 2) (N := some 40) (v := ?_) (a' := ?_) #[true, true, true, false, false, false, false, false, false, false, false, false, false] rfl rfl (any_of HT_.out (by kernel_rfl)) (fun _ _ _ h => h) (Or.inl ⟨by rfl, ?_⟩) ?_ ?_
                  rotate_left
                  ·intro w'
                   go_simp
                   with_reducible rfl
                  rotate_left
                  ·simp only [Act.put, List.setIfInBounds_toArray, List.set_cons_zero, List.set_cons_succ, i64_w, i32_w]
                   rfl
                  refine pure_ (i := 4) (N := some 42) (v := ?_) (a' := ?_) #[true, true, true, false, true, false, false, false, false, false, false, false, false] rfl rfl (any_of HT_.out (by kernel_rfl)) (fun _ _ _ h => h) (Or.inl ⟨by rfl, ?_⟩) ?_ ?_
                  rotate_left
                  ·intro w'
                   go_simp
                   with_reducible rfl
                  rotate_left
                  ·simp only [Act.put, List.setIfInBounds_toArray, List.set_cons_zero, List.set_cons_succ, i64_w, i32_w]
                   rfl
                  refine pure_ (i := 7) (N := some 45) (v := ?_) (a' := ?_) #[true, true, true, false, true, false, false, true, false, false, false, false, false] rfl rfl (any_of HT_.out (by kernel_rfl)) (fun _ _ _ h => h) (Or.inl ⟨by rfl, ?_⟩) ?_ ?_
                  rotate_left
                  ·intro w'
                   go_simp
                   with_reducible rfl
                  rotate_left
                  ·simp only [Act.put, List.setIfInBounds_toArray, List.set_cons_zero, List.set_cons_succ, i64_w, i32_w]
                   rfl
                  refine pure_ (i := 8) (N := some 46) (v := ?_) (a' := ?_) #[true, true, true, false, true, false, false, true, true, false, false, false, false] rfl rfl (any_of HT_.out (by kernel_rfl)) (fun _ _ _ h => h) (Or.inl ⟨by rfl, ?_⟩) ?_ ?_
                  rotate_left
                  ·intro w'
                   go_simp
                   with_reducible rfl
                  rotate_left
                  ·simp only [Act.put, List.setIfInBounds_toArray, List.set_cons_zero, List.set_cons_succ, i64_w, i32_w]
                   rfl
                  refine take_ (i := 3) (N := some 41) (v := ?_) (a' := ?_) #[true, true, true, true, true, false, false, true, true, false, false, false, false] rfl rfl (take_ofW HT_.out HW_.out (by kernel_rfl)) (fun _ _ _ h => h) (Or.inl ⟨by rfl, ?_⟩) hHeld ?_ ?_
                  rotate_left
                  ·rintro w' ⟨s0, s1, s2, s3, s4, s5, s6, s7, s8, s9⟩
                   go_simp
                   with_reducible rfl
                  rotate_left
                  ·simp only [Act.put, List.setIfInBounds_toArray, List.set_cons_zero, List.set_cons_succ, i64_w, i32_w]
                   rfl
                  refine take_ (i := 5) (N := some 43) (v := ?_) (a' := ?_) #[true, true, true, true, true, true, false, true, true, false, false, false, false] rfl rfl (take_ofW HT_.out HW_.out (by kernel_rfl)) (fun _ _ _ h => h) (Or.inl ⟨by rfl, ?_⟩) hHeld ?_ ?_
                  rotate_left
                  ·rintro w' ⟨s0, s1, s2, s3, s4, s5, s6, s7, s8, s9⟩
                   go_simp
                   with_reducible rfl
                  rotate_left
                  ·simp only [Act.put, List.setIfInBounds_toArray, List.set_cons_zero, List.set_cons_succ, i64_w, i32_w]
                   rfl
                  refine pure_ (i := 6) (N := some 44) (v := ?_) (a' := ?_) #[true, true, true, true, true, true, true, true, true, false, false, false, false] rfl rfl (any_of HT_.out (by kernel_rfl)) (fun _ _ _ h => h) (Or.inl ⟨by rfl, ?_⟩) ?_ ?_
                  rotate_left
                  ·intro w'
                   go_simp
                   with_reducible rfl
                  rotate_left
                  ·simp only [Act.put, List.setIfInBounds_toArray, List.set_cons_zero, List.set_cons_succ, i64_w, i32_w]
                   rfl
                  refine take_ (i := 9) (N := some 47) (v := ?_) (a' := ?_) #[true, true, true, true, true, true, true, true, true, true, false, false, false] rfl rfl (take_ofW HT_.out HW_.out (by kernel_rfl)) (fun _ _ _ h => h) (Or.inl ⟨by rfl, ?_⟩) hHeld ?_ ?_
                  rotate_left
                  ·rintro w' ⟨s0, s1, s2, s3, s4, s5, s6, s7, s8, s9⟩
                   go_simp
                   with_reducible rfl
                  rotate_left
                  ·simp only [Act.put, List.setIfInBounds_toArray, List.set_cons_zero, List.set_cons_succ, i64_w, i32_w]
                   rfl
                  refine pure_ (i := 10) (N := some 48) (v := ?_) (a' := ?_) #[true, true, true, true, true, true, true, true, true, true, true, false, false] rfl rfl (any_of HT_.out (by kernel_rfl)) (fun _ _ _ h => h) (Or.inl ⟨by rfl, ?_⟩) ?_ ?_
                  rotate_left
                  ·intro w'
                   go_simp
                   with_reducible rfl
                  rotate_left
                  ·simp only [Act.put, List.setIfInBounds_toArray, List.set_cons_zero, List.set_cons_succ, i64_w, i32_w]
                   rfl
                  refine pure_ (i := 11) (N := some 49) (v := ?_) (a' := ?_) #[true, true, true, true, true, true, true, true, true, true, true, true, false] rfl rfl (any_of HT_.out (by kernel_rfl)) (fun _ _ _ h => h) (Or.inl ⟨by rfl, ?_⟩) ?_ ?_
                  rotate_left
                  ·intro w'
                   go_simp
                   with_reducible rfl
                  rotate_left
                  ·simp only [Act.put, List.setIfInBounds_toArray, List.set_cons_zero, List.set_cons_succ, i64_w, i32_w]
                   rfl
                  refine one_ (i := 12) (N := none) #[true, true, true, true, true, true, true, true, true, true, true, true, true] rfl rfl (one_of HT_.out (by kernel_rfl)) (by decide) (fun K hK => ?_)
                  have hs56 : w55.cell? ⟨gb1196, 2, none⟩ = some (.int .i64 x1197002_3) := (blk_cell BK1196.out 2).trans rfl
                  have hfs56 := blk_frozen BK1196.out 2
                  have hns56_0 := NB1177_1196.out
                  have hns56_1 := NB1178_1196.out
                  have hns56_2 := NB1179_1196.out
                  have hns56_3 := NB1193_1196.out
                  have hns56_4 := NB1195_1196.out
                  have hms56_0 := NB1196_1177.out
                  have hms56_1 := NB1196_1178.out
                  have hms56_2 := NB1196_1179.out
                  have hms56_3 := NB1196_1193.out
                  have hms56_4 := NB1196_1195.out
                  refine skip_ (w1 := ?_) (by rfl) rfl ?_ ?_
                  rotate_left
                  ·go_simp
                   rfl
                  refine hK.out _ _ ⟨((cell_far (p := ⟨gb1196, _, none⟩) NB1193_1196.out _).trans (hHeld.1)), ((cell_far (p := ⟨gb1196, _, none⟩) NB1193_1196.out _).trans (hHeld.2.1)), ((cell_far (p := ⟨gb1196, _, none⟩) NB1193_1196.out _).trans (hHeld.2.2.1)), ((cell_far (p := ⟨gb1196, _, none⟩) NB1193_1196.out _).trans (hHeld.2.2.2.1)), ((cell_far (p := ⟨gb1196, _, none⟩) NB1178_1196.out _).trans (hHeld.2.2.2.2.1)), ((cell_far (p := ⟨gb1196, _, none⟩) NB1178_1196.out _).trans (hHeld.2.2.2.2.2.1)), ((cell_far (p := ⟨gb1196, _, none⟩) NB1195_1196.out _).trans (hHeld.2.2.2.2.2.2.1)), ((cell_far (p := ⟨gb1196, _, none⟩) NB1195_1196.out _).trans (hHeld.2.2.2.2.2.2.2.1)), ((cell_far (p := ⟨gb1196, _, none⟩) NB1195_1196.out _).trans (hHeld.2.2.2.2.2.2.2.2.1)), ((cell_far (p := ⟨gb1196, _, none⟩) NB1195_1196.out _).trans (hHeld.2.2.2.2.2.2.2.2.2))⟩ (fun hHeld => ?_)
                  clear hK K
                  refine done_ (done_of HT_.out (by kernel_rfl)) ?_
                  try go_wp2
                  go_roundg k3
                  case measure => have := HK1.out; have := HK2.out; have := HK3.out; omega
                  case rel => exact ⟨(wrap64 (2 + 1)), (x1197000_3), (x1197001_3), (wrap64 ((wrap64 (((rd_T45 l0_1 x23_1).f2) * a1_0)) + ((rd_T45 l1_1 x30_2).f2))), (x1197003_3), (by first | rfl | (simp; done) | (simp [*]; done) | (simp; decide +kernel)), H', ⟨by have := HK1.out; have := HK2.out; have := HK3.out; omega⟩, ⟨by (with_reducible repeat (first | apply Kd.R_alloc | apply Kd.R_drewN | apply Kd.R_drew)); exact Kd.R_mono (Kd.R_far (p := ⟨gb1196, 2, none⟩) (Kd.R_mono HO_6.out (fun k_ hk => (⟨hk, hk.2.2.2⟩ : _ ∧ k_ ≠ gb1196))) (fun _ hk => hk.2) (.int .i64 (wrap64 ((wrap64 (((rd_T45 l0_1 x23_1).f2) * a1_0)) + ((rd_T45 l1_1 x30_2).f2))))) (fun _ hk => ⟨hk.1.1, ⟨hk.1.2.1, ⟨hk.1.2.2.1, hk.1.2.2.2⟩⟩⟩)⟩, ⟨by (with_reducible repeat (first | apply Kd.V_alloc | apply Kd.V_drewN | apply Kd.V_drew)); exact Kd.V_mono (Kd.V_far (p := ⟨gb1196, 2, none⟩) (Kd.V_mono HO_21.out (fun k_ hk => (⟨hk, hk.2.2.2.2.2.2.2⟩ : _ ∧ k_ ≠ gb1196))) (fun _ hk => hk.2) (.int .i64 (wrap64 ((wrap64 (((rd_T45 l0_1 x23_1).f2) * a1_0)) + ((rd_T45 l1_1 x30_2).f2))))) (fun _ hk => ⟨hk.1.1, ⟨hk.1.2.1, ⟨hk.1.2.2.1, ⟨hk.1.2.2.2.1, ⟨hk.1.2.2.2.2.1, ⟨hk.1.2.2.2.2.2.1, ⟨hk.1.2.2.2.2.2.2.1, hk.1.2.2.2.2.2.2.2⟩⟩⟩⟩⟩⟩⟩)⟩, ⟨by (with_reducible repeat (first | apply Kd.V_alloc | apply Kd.V_drewN | apply Kd.V_drew)); exact Kd.V_mono (Kd.V_far (p := ⟨gb1196, 2, none⟩) (Kd.V_mono HO_28.out (fun k_ hk => (⟨hk, hk.2.2.2.2.2.2.2⟩ : _ ∧ k_ ≠ gb1196))) (fun _ hk => hk.2) (.int .i64 (wrap64 ((wrap64 (((rd_T45 l0_1 x23_1).f2) * a1_0)) + ((rd_T45 l1_1 x30_2).f2))))) (fun _ hk => ⟨hk.1.1, ⟨hk.1.2.1, ⟨hk.1.2.2.1, ⟨hk.1.2.2.2.1, ⟨hk.1.2.2.2.2.1, ⟨hk.1.2.2.2.2.2.1, ⟨hk.1.2.2.2.2.2.2.1, hk.1.2.2.2.2.2.2.2⟩⟩⟩⟩⟩⟩⟩)⟩, ⟨by (with_reducible repeat (first | apply Kd.V_alloc | apply Kd.V_drewN | apply Kd.V_drew)); exact Kd.V_mono (Kd.V_far (p := ⟨gb1196, 2, none⟩) (Kd.V_mono HO_1178001.out (fun k_ hk => (⟨hk, hk.2.2.2.2.2.2.2⟩ : _ ∧ k_ ≠ gb1196))) (fun _ hk => hk.2) (.int .i64 (wrap64 ((wrap64 (((rd_T45 l0_1 x23_1).f2) * a1_0)) + ((rd_T45 l1_1 x30_2).f2))))) (fun _ hk => ⟨hk.1.1, ⟨hk.1.2.1, ⟨hk.1.2.2.1, ⟨hk.1.2.2.2.1, ⟨hk.1.2.2.2.2.1, ⟨hk.1.2.2.2.2.2.1, ⟨hk.1.2.2.2.2.2.2.1, hk.1.2.2.2.2.2.2.2⟩⟩⟩⟩⟩⟩⟩)⟩, ⟨by (with_reducible repeat (first | apply Kd.V_alloc | apply Kd.V_drewN | apply Kd.V_drew)); exact Kd.V_mono (Kd.V_far (p := ⟨gb1196, 2, none⟩) (Kd.V_mono HO_1179001.out (fun k_ hk => (⟨hk, hk.2.2.2.2.2.2.2⟩ : _ ∧ k_ ≠ gb1196))) (fun _ hk => hk.2) (.int .i64 (wrap64 ((wrap64 (((rd_T45 l0_1 x23_1).f2) * a1_0)) + ((rd_T45 l1_1 x30_2).f2))))) (fun _ hk => ⟨hk.1.1, ⟨hk.1.2.1, ⟨hk.1.2.2.1, ⟨hk.1.2.2.2.1, ⟨hk.1.2.2.2.2.1, ⟨hk.1.2.2.2.2.2.1, ⟨hk.1.2.2.2.2.2.2.1, hk.1.2.2.2.2.2.2.2⟩⟩⟩⟩⟩⟩⟩)⟩, ⟨by (with_reducible repeat (first | refine blk_drewN ?_ _ | refine blk_drew ?_ | refine blk_alloc ?_ _)); refine blk_far ?_ NB1177_1196.out _; (with_reducible repeat (first | refine blk_drewN ?_ _ | refine blk_drew ?_ | refine blk_alloc ?_ _)); exact BK1177.out⟩, ⟨by (with_reducible repeat (first | refine blk_drewN ?_ _ | refine blk_drew ?_ | refine blk_alloc ?_ _)); refine blk_far ?_ NB1178_1196.out _; (with_reducible repeat (first | refine blk_drewN ?_ _ | refine blk_drew ?_ | refine blk_alloc ?_ _)); exact BK1178.out⟩, ⟨by (with_reducible repeat (first | refine blk_drewN ?_ _ | refine blk_drew ?_ | refine blk_alloc ?_ _)); refine blk_far ?_ NB1179_1196.out _; (with_reducible repeat (first | refine blk_drewN ?_ _ | refine blk_drew ?_ | refine blk_alloc ?_ _)); exact BK1179.out⟩, ⟨by (with_reducible repeat (first | refine blk_drewN ?_ _ | refine blk_drew ?_ | refine blk_alloc ?_ _)); refine blk_far ?_ NB1193_1196.out _; (with_reducible repeat (first | refine blk_drewN ?_ _ | refine blk_drew ?_ | refine blk_alloc ?_ _)); exact BK1193.out⟩, ⟨by (with_reducible repeat (first | refine blk_drewN ?_ _ | refine blk_drew ?_ | refine blk_alloc ?_ _)); refine blk_far ?_ NB1195_1196.out _; (with_reducible repeat (first | refine blk_drewN ?_ _ | refine blk_drew ?_ | refine blk_alloc ?_ _)); exact BK1195.out⟩, ⟨by (with_reducible repeat (first | refine blk_drewN ?_ _ | refine blk_drew ?_ | refine blk_alloc ?_ _)); refine blk_put (cs := #[.int .i64 x1197000_3, .int .i64 x1197001_3, .int .i64 x1197002_3, .int .i64 x1197003_3]) ?_ 2 _ rfl; (with_reducible repeat (first | refine blk_drewN ?_ _ | refine blk_drew ?_ | refine blk_alloc ?_ _)); exact BK1196.out⟩, ⟨by repeat (first | (with_reducible first | exact HB.out | apply below_alloc | apply pw_below_drewN | apply below_drew1 | refine below_set ?_ GE1177.out | refine below_set ?_ GE1178.out | refine below_set ?_ GE1179.out | refine below_set ?_ GE1193.out | refine below_set ?_ GE1195.out | refine below_set ?_ GE1196.out) | exact HB.out)⟩⟩
                 ·rw [if_neg c54] at H
                  clear c54
                  by_cases c57 : x35_3 = 3
                  ·subst c57
                   have H1 : (impl_ProductOfSets.l2 k3 x6_2 l0_1 (l0_1.length : Int) x23_1 l1_1 (l1_1.length : Int) x30_2 (wrap64 (3 + 1)) a0_0 l0_1 a1_0 l1_1 ((rd_T45 l0_1 x23_1).f0) ((rd_T45 l0_1 x23_1).f1) ((rd_T45 l0_1 x23_1).f2) ((rd_T45 l0_1 x23_1).f3) ((rd_T45 l1_1 x30_2).f0) ((rd_T45 l1_1 x30_2).f1) ((rd_T45 l1_1 x30_2).f2) ((rd_T45 l1_1 x30_2).f3) x1197000_3 x1197001_3 x1197002_3 (wrap64 ((wrap64 (((rd_T45 l0_1 x23_1).f3) * a1_0)) + ((rd_T45 l1_1 x30_2).f3)))) = some (r1, r2, r3) := by rw [if_pos rfl] at H; exact H
                   clear H
                   have H := H1
                   clear H1
                   have H' := Aside0.mk H
                   clear H
                   try go_wp2
                   have n0_ := Aside0.mk (Kd.R_drew HO_6.out)
                   have n1_ := Aside0.mk (Kd.V_drew HO_21.out)
                   have n2_ := Aside0.mk (Kd.V_drew HO_28.out)
                   have n3_ := Aside0.mk (Kd.V_drew HO_1178001.out)
                   have n4_ := Aside0.mk (Kd.V_drew HO_1179001.out)
                   have n5_ := Aside0.mk (blk_drew BK1177.out)
                   have n6_ := Aside0.mk (blk_drew BK1178.out)
                   have n7_ := Aside0.mk (blk_drew BK1179.out)
                   have n8_ := Aside0.mk (blk_drew BK1193.out)
                   have n9_ := Aside0.mk (blk_drew BK1195.out)
                   have n10_ := Aside0.mk (blk_drew BK1196.out)
                   have n11_ := Aside0.mk (below_drew1 HB.out)
                   clear HO_6
                   clear HO_21
                   clear HO_28
                   clear HO_1178001
                   clear HO_1179001
                   clear BK1177
                   clear BK1178
                   clear BK1179
                   clear BK1193
                   clear BK1195
                   clear BK1196
                   clear HB
                   have HO_6 := n0_
                   have HO_21 := n1_
                   have HO_28 := n2_
                   have HO_1178001 := n3_
                   have HO_1179001 := n4_
                   have BK1177 := n5_
                   have BK1178 := n6_
                   have BK1179 := n7_
                   have BK1193 := n8_
                   have BK1195 := n9_
                   have BK1196 := n10_
                   have HB := n11_
                   clear n0_ n1_ n2_ n3_ n4_ n5_ n6_ n7_ n8_ n9_ n10_ n11_
                   refine start_ (n := 13) (S := fun w' => w'.cell? ⟨gb1193, 0, none⟩ = some (.int .i64 ((rd_T45 l0_1 x23_1).f0)) ∧ w'.cell? ⟨gb1193, 1, none⟩ = some (.int .i64 ((rd_T45 l0_1 x23_1).f1)) ∧ w'.cell? ⟨gb1193, 2, none⟩ = some (.int .i64 ((rd_T45 l0_1 x23_1).f2)) ∧ w'.cell? ⟨gb1193, 3, none⟩ = some (.int .i64 ((rd_T45 l0_1 x23_1).f3)) ∧ w'.cell? ⟨gb1178, 0, none⟩ = some (.int .i64 a1_0) ∧ w'.cell? ⟨gb1178, 1, none⟩ = some (.slice (some ad1194) l1_1.length c1_1) ∧ w'.cell? ⟨gb1195, 0, none⟩ = some (.int .i64 ((rd_T45 l1_1 x30_2).f0)) ∧ w'.cell? ⟨gb1195, 1, none⟩ = some (.int .i64 ((rd_T45 l1_1 x30_2).f1)) ∧ w'.cell? ⟨gb1195, 2, none⟩ = some (.int .i64 ((rd_T45 l1_1 x30_2).f2)) ∧ w'.cell? ⟨gb1195, 3, none⟩ = some (.int .i64 ((rd_T45 l1_1 x30_2).f3))) (ds := []) #[false, false, false, false, false, false, false, false, false, false, false, false, false] (by kernel_rfl) rfl rfl ⟨(blk_cell BK1193.out 0).trans rfl, (blk_cell BK1193.out 1).trans rfl, (blk_cell BK1193.out 2).trans rfl, (blk_cell BK1193.out 3).trans rfl, (blk_cell BK1178.out 0).trans rfl, (blk_cell BK1178.out 1).trans rfl, (blk_cell BK1195.out 0).trans rfl, (blk_cell BK1195.out 1).trans rfl, (blk_cell BK1195.out 2).trans rfl, (blk_cell BK1195.out 3).trans rfl⟩ (fun hHeld => ?_); refine with_tabW impl_ProductOfSets.tab14 impl_ProductOfSets.bits14 (fun HT_ HW_ => ?_)
                   generalize wr.drew = w58 at HO_6 HO_21 HO_28 HO_1178001 HO_1179001 BK1177 BK1178 BK1179 BK1193 BK1195 BK1196 HB hHeld ⊢
                   refine pure_ (i := 0) (N := some 38) (v := ?_) (a' := ?_) #[true, false, false, false, false, false, false, false, false, false, false, false, false] rfl rfl (any_of HT_.out (by kernel_rfl)) (fun _ _ _ h => h) (Or.inl ⟨by rfl, ?_⟩) ?_ ?_
                   rotate_left
                   ·intro w'
                    go_simp
                    with_reducible rfl
                   rotate_left
                   ·simp only [Act.put, List.setIfInBounds_toArray, List.set_cons_zero, List.set_cons_succ, i64_w, i32_w]
                    rfl
                   refine pure_ (i := 1) (N := some 39) (v := ?_) (a' := ?_) #[true, true, false, false, false, false, false, false, false, false, false, false, false] rfl rfl (any_of HT_.out (by kernel_rfl)) (fun _ _ _ h => h) (Or.inl ⟨by rfl, ?_⟩) ?_ ?_
                   rotate_left
                   ·intro w'
                    go_simp
                    with_reducible rfl
                   rotate_left
                   ·simp only [Act.put, List.setIfInBounds_toArray, List.set_cons_zero, List.set_cons_succ, i64_w, i32_w]
                    rfl
                   refine pure_ (i := 2) (N := some 40) (v := ?_) (a' := ?_) #[true, true, true, false, false, false, false, false, false, false, false, false, false] rfl rfl (any_of HT_.out (by kernel_rfl)) (fun _ _ _ h => h) (Or.inl ⟨by rfl, ?_⟩) ?_ ?_
                   rotate_left
                   ·intro w'
                    go_simp
                    with_reducible rfl
                   rotate_left
                   ·simp only [Act.put, List.setIfInBounds_toArray, List.set_cons_zero, List.set_cons_succ, i64_w, i32_w]
                    rfl
                   refine pure_ (i := 4) (N := some 42) (v := ?_) (a' := ?_) #[true, true, true, false, true, false, false, false, false, false, false, false, false] rfl rfl (any_of HT_.out (by kernel_rfl)) (fun _ _ _ h => h) (Or.inl ⟨by rfl, ?_⟩) ?_ ?_
                   rotate_left
                   ·intro w'
                    go_simp
                    with_reducible rfl
                   rotate_left
                   ·simp only [Act.put, List.setIfInBounds_toArray, List.set_cons_zero, List.set_cons_succ, i64_w, i32_w]
                    rfl
                   refine pure_ (i := 7) (N := some 45) (v := ?_) (a' := ?_) #[true, true, true, false, true, false, false, true, false, false, false, false, false] rfl rfl (any_of HT_.out (by kernel_rfl)) (fun _ _ _ h => h) (Or.inl ⟨by rfl, ?_⟩) ?_ ?_
                   rotate_left
                   ·intro w'
                    go_simp
                    with_reducible rfl
                   rotate_left
                   ·simp only [Act.put, List.setIfInBounds_toArray, List.set_cons_zero, List.set_cons_succ, i64_w, i32_w]
                    rfl
                   refine pure_ (i := 8) (N := some 46) (v := ?_) (a' := ?_) #[true, true, true, false, true, false, false, true, true, false, false, false, false] rfl rfl (any_of HT_.out (by kernel_rfl)) (fun _ _ _ h => h) (Or.inl ⟨by rfl, ?_⟩) ?_ ?_
                   rotate_left
                   ·intro w'
                    go_simp
                    with_reducible rfl
                   rotate_left
                   ·simp only [Act.put, List.setIfInBounds_toArray, List.set_cons_zero, List.set_cons_succ, i64_w, i32_w]
                    rfl
                   refine take_ (i := 3) (N := some 41) (v := ?_) (a' := ?_) #[true, true, true, true, true, false, false, true, true, false, false, false, false] rfl rfl (take_ofW HT_.out HW_.out (by kernel_rfl)) (fun _ _ _ h => h) (Or.inl ⟨by rfl, ?_⟩) hHeld ?_ ?_
                   rotate_left
                   ·rintro w' ⟨s0, s1, s2, s3, s4, s5, s6, s7, s8, s9⟩
                    go_simp
                    with_reducible rfl
                   rotate_left
                   ·simp only [Act.put, List.setIfInBounds_toArray, List.set_cons_zero, List.set_cons_succ, i64_w, i32_w]
                    rfl
                   refine take_ (i := 5) (N := some 43) (v := ?_) (a' := ?_) #[true, true, true, true, true, true, false, true, true, false, false, false, false] rfl rfl (take_ofW HT_.out HW_.out (by kernel_rfl)) (fun _ _ _ h => h) (Or.inl ⟨by rfl, ?_⟩) hHeld ?_ ?_
                   rotate_left
                   ·rintro w' ⟨s0, s1, s2, s3, s4, s5, s6, s7, s8, s9⟩
                    go_simp
                    with_reducible rfl
                   rotate_left
                   ·simp only [Act.put, List.setIfInBounds_toArray, List.set_cons_zero, List.set_cons_succ, i64_w, i32_w]
                    rfl
                   refine pure_ (i := 6) (N := some 44) (v := ?_) (a' := ?_) #[true, true, true, true, true, true, true, true, true, false, false, false, false] rfl rfl (any_of HT_.out (by kernel_rfl)) (fun _ _ _ h => h) (Or.inl ⟨by rfl, ?_⟩) ?_ ?_
                   rotate_left
                   ·intro w'
                    go_simp
                    with_reducible rfl
                   rotate_left
                   ·simp only [Act.put, List.setIfInBounds_toArray, List.set_cons_zero, List.set_cons_succ, i64_w, i32_w]
                    rfl
                   refine take_ (i := 9) (N := some 47) (v := ?_) (a' := ?_) #[true, true, true, true, true, true, true, true, true, true, false, false, false] rfl rfl (take_ofW HT_.out HW_.out (by kernel_rfl)) (fun _ _ _ h => h) (Or.inl ⟨by rfl, ?_⟩) hHeld ?_ ?_
                   rotate_left
                   ·rintro w' ⟨s0, s1, s2, s3, s4, s5, s6, s7, s8, s9⟩
                    go_simp
                    with_reducible rfl
                   rotate_left
                   ·simp only [Act.put, List.setIfInBounds_toArray, List.set_cons_zero, List.set_cons_succ, i64_w, i32_w]
                    rfl
                   refine pure_ (i := 10) (N := some 48) (v := ?_) (a' := ?_) #[true, true, true, true, true, true, true, true, true, true, true, false, false] rfl rfl (any_of HT_.out (by kernel_rfl)) (fun _ _ _ h => h) (Or.inl ⟨by rfl, ?_⟩) ?_ ?_
                   rotate_left
                   ·intro w'
                    go_simp
                    with_reducible rfl
                   rotate_left
                   ·simp only [Act.put, List.setIfInBounds_toArray, List.set_cons_zero, List.set_cons_succ, i64_w, i32_w]
                    rfl
                   refine pure_ (i := 11) (N := some 49) (v := ?_) (a' := ?_) #[true, true, true, true, true, true, true, true, true, true, true, true, false] rfl rfl (any_of HT_.out (by kernel_rfl)) (fun _ _ _ h => h) (Or.inl ⟨by rfl, ?_⟩) ?_ ?_
                   rotate_left
                   ·intro w'
                    go_simp
                    with_reducible rfl
                   rotate_left
                   ·simp only [Act.put, List.setIfInBounds_toArray, List.set_cons_zero, List.set_cons_succ, i64_w, i32_w]
                    rfl
                   refine one_ (i := 12) (N := none) #[true, true, true, true, true, true, true, true, true, true, true, true, true] rfl rfl (one_of HT_.out (by kernel_rfl)) (by decide) (fun K hK => ?_)
                   have hs59 : w58.cell? ⟨gb1196, 3, none⟩ = some (.int .i64 x1197003_3) := (blk_cell BK1196.out 3).trans rfl
                   have hfs59 := blk_frozen BK1196.out 3
                   have hns59_0 := NB1177_1196.out
                   have hns59_1 := NB1178_1196.out
                   have hns59_2 := NB1179_1196.out
                   have hns59_3 := NB1193_1196.out
                   have hns59_4 := NB1195_1196.out
                   have hms59_0 := NB1196_1177.out
                   have hms59_1 := NB1196_1178.out
                   have hms59_2 := NB1196_1179.out
                   have hms59_3 := NB1196_1193.out
                   have hms59_4 := NB1196_1195.out
                   refine skip_ (w1 := ?_) (by rfl) rfl ?_ ?_
                   rotate_left
                   ·go_simp
                    rfl
                   refine hK.out _ _ ⟨((cell_far (p := ⟨gb1196, _, none⟩) NB1193_1196.out _).trans (hHeld.1)), ((cell_far (p := ⟨gb1196, _, none⟩) NB1193_1196.out _).trans (hHeld.2.1)), ((cell_far (p := ⟨gb1196, _, none⟩) NB1193_1196.out _).trans (hHeld.2.2.1)), ((cell_far (p := ⟨gb1196, _, none⟩) NB1193_1196.out _).trans (hHeld.2.2.2.1)), ((cell_far (p := ⟨gb1196, _, none⟩) NB1178_1196.out _).trans (hHeld.2.2.2.2.1)), ((cell_far (p := ⟨gb1196, _, none⟩) NB1178_1196.out _).trans (hHeld.2.2.2.2.2.1)), ((cell_far (p := ⟨gb1196, _, none⟩) NB1195_1196.out _).trans (hHeld.2.2.2.2.2.2.1)), ((cell_far (p := ⟨gb1196, _, none⟩) NB1195_1196.out _).trans (hHeld.2.2.2.2.2.2.2.1)), ((cell_far (p := ⟨gb1196, _, none⟩) NB1195_1196.out _).trans (hHeld.2.2.2.2.2.2.2.2.1)), ((cell_far (p := ⟨gb1196, _, none⟩) NB1195_1196.out _).trans (hHeld.2.2.2.2.2.2.2.2.2))⟩ (fun hHeld => ?_)
                   clear hK K
                   refine done_ (done_of HT_.out (by kernel_rfl)) ?_
                   try go_wp2
                   go_roundg k3
                   case measure => have := HK1.out; have := HK2.out; have := HK3.out; omega
                   case rel => exact ⟨(wrap64 (3 + 1)), (x1197000_3), (x1197001_3), (x1197002_3), (wrap64 ((wrap64 (((rd_T45 l0_1 x23_1).f3) * a1_0)) + ((rd_T45 l1_1 x30_2).f3))), (by first | rfl | (simp; done) | (simp [*]; done) | (simp; decide +kernel)), H', ⟨by have := HK1.out; have := HK2.out; have := HK3.out; omega⟩, ⟨by (with_reducible repeat (first | apply Kd.R_alloc | apply Kd.R_drewN | apply Kd.R_drew)); exact Kd.R_mono (Kd.R_far (p := ⟨gb1196, 3, none⟩) (Kd.R_mono HO_6.out (fun k_ hk => (⟨hk, hk.2.2.2⟩ : _ ∧ k_ ≠ gb1196))) (fun _ hk => hk.2) (.int .i64 (wrap64 ((wrap64 (((rd_T45 l0_1 x23_1).f3) * a1_0)) + ((rd_T45 l1_1 x30_2).f3))))) (fun _ hk => ⟨hk.1.1, ⟨hk.1.2.1, ⟨hk.1.2.2.1, hk.1.2.2.2⟩⟩⟩)⟩, ⟨by (with_reducible repeat (first | apply Kd.V_alloc | apply Kd.V_drewN | apply Kd.V_drew)); exact Kd.V_mono (Kd.V_far (p := ⟨gb1196, 3, none⟩) (Kd.V_mono HO_21.out (fun k_ hk => (⟨hk, hk.2.2.2.2.2.2.2⟩ : _ ∧ k_ ≠ gb1196))) (fun _ hk => hk.2) (.int .i64 (wrap64 ((wrap64 (((rd_T45 l0_1 x23_1).f3) * a1_0)) + ((rd_T45 l1_1 x30_2).f3))))) (fun _ hk => ⟨hk.1.1, ⟨hk.1.2.1, ⟨hk.1.2.2.1, ⟨hk.1.2.2.2.1, ⟨hk.1.2.2.2.2.1, ⟨hk.1.2.2.2.2.2.1, ⟨hk.1.2.2.2.2.2.2.1, hk.1.2.2.2.2.2.2.2⟩⟩⟩⟩⟩⟩⟩)⟩, ⟨by (with_reducible repeat (first | apply Kd.V_alloc | apply Kd.V_drewN | apply Kd.V_drew)); exact Kd.V_mono (Kd.V_far (p := ⟨gb1196, 3, none⟩) (Kd.V_mono HO_28.out (fun k_ hk => (⟨hk, hk.2.2.2.2.2.2.2⟩ : _ ∧ k_ ≠ gb1196))) (fun _ hk => hk.2) (.int .i64 (wrap64 ((wrap64 (((rd_T45 l0_1 x23_1).f3) * a1_0)) + ((rd_T45 l1_1 x30_2).f3))))) (fun _ hk => ⟨hk.1.1, ⟨hk.1.2.1, ⟨hk.1.2.2.1, ⟨hk.1.2.2.2.1, ⟨hk.1.2.2.2.2.1, ⟨hk.1.2.2.2.2.2.1, ⟨hk.1.2.2.2.2.2.2.1, hk.1.2.2.2.2.2.2.2⟩⟩⟩⟩⟩⟩⟩)⟩, ⟨by (with_reducible repeat (first | apply Kd.V_alloc | apply Kd.V_drewN | apply Kd.V_drew)); exact Kd.V_mono (Kd.V_far (p := ⟨gb1196, 3, none⟩) (Kd.V_mono HO_1178001.out (fun k_ hk => (⟨hk, hk.2.2.2.2.2.2.2⟩ : _ ∧ k_ ≠ gb1196))) (fun _ hk => hk.2) (.int .i64 (wrap64 ((wrap64 (((rd_T45 l0_1 x23_1).f3) * a1_0)) + ((rd_T45 l1_1 x30_2).f3))))) (fun _ hk => ⟨hk.1.1, ⟨hk.1.2.1, ⟨hk.1.2.2.1, ⟨hk.1.2.2.2.1, ⟨hk.1.2.2.2.2.1, ⟨hk.1.2.2.2.2.2.1, ⟨hk.1.2.2.2.2.2.2.1, hk.1.2.2.2.2.2.2.2⟩⟩⟩⟩⟩⟩⟩)⟩, ⟨by (with_reducible repeat (first | apply Kd.V_alloc | apply Kd.V_drewN | apply Kd.V_drew)); exact Kd.V_mono (Kd.V_far (p := ⟨gb1196, 3, none⟩) (Kd.V_mono HO_1179001.out (fun k_ hk => (⟨hk, hk.2.2.2.2.2.2.2⟩ : _ ∧ k_ ≠ gb1196))) (fun _ hk => hk.2) (.int .i64 (wrap64 ((wrap64 (((rd_T45 l0_1 x23_1).f3) * a1_0)) + ((rd_T45 l1_1 x30_2).f3))))) (fun _ hk => ⟨hk.1.1, ⟨hk.1.2.1, ⟨hk.1.2.2.1, ⟨hk.1.2.2.2.1, ⟨hk.1.2.2.2.2.1, ⟨hk.1.2.2.2.2.2.1, ⟨hk.1.2.2.2.2.2.2.1, hk.1.2.2.2.2.2.2.2⟩⟩⟩⟩⟩⟩⟩)⟩, ⟨by (with_reducible repeat (first | refine blk_drewN ?_ _ | refine blk_drew ?_ | refine blk_alloc ?_ _)); refine blk_far ?_ NB1177_1196.out _; (with_reducible repeat (first | refine blk_drewN ?_ _ | refine blk_drew ?_ | refine blk_alloc ?_ _)); exact BK1177.out⟩, ⟨by (with_reducible repeat (first | refine blk_drewN ?_ _ | refine blk_drew ?_ | refine blk_alloc ?_ _)); refine blk_far ?_ NB1178_1196.out _; (with_reducible repeat (first | refine blk_drewN ?_ _ | refine blk_drew ?_ | refine blk_alloc ?_ _)); exact BK1178.out⟩, ⟨by (with_reducible repeat (first | refine blk_drewN ?_ _ | refine blk_drew ?_ | refine blk_alloc ?_ _)); refine blk_far ?_ NB1179_1196.out _; (with_reducible repeat (first | refine blk_drewN ?_ _ | refine blk_drew ?_ | refine blk_alloc ?_ _)); exact BK1179.out⟩, ⟨by (with_reducible repeat (first | refine blk_drewN ?_ _ | refine blk_drew ?_ | refine blk_alloc ?_ _)); refine blk_far ?_ NB1193_1196.out _; (with_reducible repeat (first | refine blk_drewN ?_ _ | refine blk_drew ?_ | refine blk_alloc ?_ _)); exact BK1193.out⟩, ⟨by (with_reducible repeat (first | refine blk_drewN ?_ _ | refine blk_drew ?_ | refine blk_alloc ?_ _)); refine blk_far ?_ NB1195_1196.out _; (with_reducible repeat (first | refine blk_drewN ?_ _ | refine blk_drew ?_ | refine blk_alloc ?_ _)); exact BK1195.out⟩, ⟨by (with_reducible repeat (first | refine blk_drewN ?_ _ | refine blk_drew ?_ | refine blk_alloc ?_ _)); refine blk_put (cs := #[.int .i64 x1197000_3, .int .i64 x1197001_3, .int .i64 x1197002_3, .int .i64 x1197003_3]) ?_ 3 _ rfl; (with_reducible repeat (first | refine blk_drewN ?_ _ | refine blk_drew ?_ | refine blk_alloc ?_ _)); exact BK1196.out⟩, ⟨by repeat (first | (with_reducible first | exact HB.out | apply below_alloc | apply pw_below_drewN | apply below_drew1 | refine below_set ?_ GE1177.out | refine below_set ?_ GE1178.out | refine below_set ?_ GE1179.out | refine below_set ?_ GE1193.out | refine below_set ?_ GE1195.out | refine below_set ?_ GE1196.out) | exact HB.out)⟩⟩
                  ·rw [if_neg c57] at H
                   clear c57
                   exact absurd H (by simp)
              ·rw [if_neg c47] at H
               have c47b0 : decide (x35_3 < 4) = false := decide_eq_false c47
               clear c47
               by_cases c60 : x6_2.length < 4398046511104
               ·rw [if_pos c60] at H
                have LMc60 := Aside0.mk c60
                clear c60
                obtain ⟨y1197, hy1197⟩ : ∃ y_ : List (S45), y_ = (x6_2 ++ [(⟨x1197000_3, x1197001_3, x1197002_3, x1197003_3⟩ : S45)]) := ⟨_, rfl⟩
                replace H : (impl_ProductOfSets.l1 k3 y1197 l0_1 (l0_1.length : Int) x23_1 l1_1 (l1_1.length : Int) (wrap64 (x30_2 + 1)) a0_0 l0_1 a1_0 l1_1 ((rd_T45 l0_1 x23_1).f0) ((rd_T45 l0_1 x23_1).f1) ((rd_T45 l0_1 x23_1).f2) ((rd_T45 l0_1 x23_1).f3)) = some (r1, r2, r3) := by first | (rw [hy1197]; with_reducible exact H) | (have H2_ := (Option.bind_some _ _).symm.trans H; rw [hy1197]; with_reducible exact H2_) | (have H2_ := (Option.bind_some _ _).symm.trans H; with_reducible exact H2_) | with_reducible exact H | (rw [hy1197]; exact H) | exact H
                have Ny1197 := Aside0.mk hy1197
                clear hy1197
                have H' := Aside0.mk H
                clear H
                have hnb61 := NB1196_1177.out
                have hnc61 := NB1177_1196.out
                have hnb62 := NB1196_1178.out
                have hnc62 := NB1178_1196.out
                have hnb63 := NB1196_1179.out
                have hnc63 := NB1179_1196.out
                have hnb64 := NB1196_1193.out
                have hnc64 := NB1193_1196.out
                have hnb65 := NB1196_1195.out
                have hnc65 := NB1195_1196.out
                have hcz66_0 : wr.cell? ⟨gb1196, 0, none⟩ = some (.int .i64 x1197000_3) := (blk_cell BK1196.out 0).trans rfl
                have hcz66_1 : wr.cell? ⟨gb1196, 1, none⟩ = some (.int .i64 x1197001_3) := (blk_cell BK1196.out 1).trans rfl
                have hcz66_2 : wr.cell? ⟨gb1196, 2, none⟩ = some (.int .i64 x1197002_3) := (blk_cell BK1196.out 2).trans rfl
                have hcz66_3 : wr.cell? ⟨gb1196, 3, none⟩ = some (.int .i64 x1197003_3) := (blk_cell BK1196.out 3).trans rfl
                have hfz66_0 := blk_frozen BK1196.out 0
                have hfz66_1 := blk_frozen BK1196.out 1
                have hfz66_2 := blk_frozen BK1196.out 2
                have hfz66_3 := blk_frozen BK1196.out 3
                go_wp2_with (first | ((with_reducible refine gate_builtin (b := .append) (xs := #[.tmp 51, .tmp 53]) rfl ?_); at_builtin; refine Kd.R_append k45 (w0 := w) w.heap.size rfl (.tmp 51) (.tmp 53) 24 45 (.agg #[(.int .i64 0), (.int .i64 0), (.int .i64 0), (.int .i64 0)]) 32 rfl Try.underlying24 info45 rfl (by decide) (by omega) u6 x6_2 (⟨x1197000_3, x1197001_3, x1197002_3, x1197003_3⟩ : S45) [.int .i64 x1197000_3, .int .i64 x1197001_3, .int .i64 x1197002_3, .int .i64 x1197003_3] (fun k_ => (w.heap.size ≤ k_) ∧ k_ ≠ gb1193 ∧ k_ ≠ gb1195 ∧ k_ ≠ gb1196) (fun _ => False) rfl rfl ?aP (fun _ hk => hk.elim) ?aF ?aO ?aB ?aS ?aL ?_; (case aP => exact k45_mkM _ _ _ (⟨x1197000_3, x1197001_3, x1197002_3, x1197003_3⟩ : S45)); (case aB => exact (by repeat (first | (with_reducible first | exact HB.out | apply below_alloc | apply pw_below_drewN | apply below_drew1 | refine below_set ?_ GE1177.out | refine below_set ?_ GE1178.out | refine below_set ?_ GE1179.out | refine below_set ?_ GE1193.out | refine below_set ?_ GE1195.out | refine below_set ?_ GE1196.out) | exact HB.out))); (case aF => exact (fun k_ hk => ⟨(Nat.le_trans (below_size (by repeat (first | (with_reducible first | exact HB.out | apply below_alloc | apply pw_below_drewN | apply below_drew1 | refine below_set ?_ GE1177.out | refine below_set ?_ GE1178.out | refine below_set ?_ GE1179.out | refine below_set ?_ GE1193.out | refine below_set ?_ GE1195.out | refine below_set ?_ GE1196.out) | exact HB.out))) hk), Kd.freshB (g := gb1193) (o := .cells #[.int .i64 ((rd_T45 l0_1 x23_1).f0), .int .i64 ((rd_T45 l0_1 x23_1).f1), .int .i64 ((rd_T45 l0_1 x23_1).f2), .int .i64 ((rd_T45 l0_1 x23_1).f3)] 45 (0, 0)) (by (with_reducible repeat (first | refine blk_drewN ?_ _ | refine blk_drew ?_ | refine blk_alloc ?_ _)); exact BK1193.out) k_ hk, Kd.freshB (g := gb1195) (o := .cells #[.int .i64 ((rd_T45 l1_1 x30_2).f0), .int .i64 ((rd_T45 l1_1 x30_2).f1), .int .i64 ((rd_T45 l1_1 x30_2).f2), .int .i64 ((rd_T45 l1_1 x30_2).f3)] 45 (0, 0)) (by (with_reducible repeat (first | refine blk_drewN ?_ _ | refine blk_drew ?_ | refine blk_alloc ?_ _)); exact BK1195.out) k_ hk, Kd.freshB (g := gb1196) (o := .cells #[.int .i64 x1197000_3, .int .i64 x1197001_3, .int .i64 x1197002_3, .int .i64 x1197003_3] 45 (0, 0)) (by (with_reducible repeat (first | refine blk_drewN ?_ _ | refine blk_drew ?_ | refine blk_alloc ?_ _)); exact BK1196.out) k_ hk⟩)); (case aO => exact (by (with_reducible repeat (first | apply Kd.R_alloc | apply Kd.R_drewN | apply Kd.R_drew)); exact HO_6.out)); (case aS => exact (below_size (by repeat (first | (with_reducible first | exact HB.out | apply below_alloc | apply pw_below_drewN | apply below_drew1 | refine below_set ?_ GE1177.out | refine below_set ?_ GE1178.out | refine below_set ?_ GE1179.out | refine below_set ?_ GE1193.out | refine below_set ?_ GE1195.out | refine below_set ?_ GE1196.out) | exact HB.out)))); (case aL => have := LMc60.out; omega); intro v1198 w67 ho hb hg hat; rw [← Ny1197.out] at ho; have n0_ := Aside0.mk (Kd.V_afterv (ok := (fun k_ => ((P0_1_ k_ ∨ P1_1_ k_) ∨ w.heap.size ≤ k_) ∧ k_ ≠ gb1177 ∧ k_ ≠ gb1178 ∧ k_ ≠ gb1179 ∧ k_ ≠ gb1193 ∧ k_ ≠ gb1195 ∧ k_ ≠ gb1196)) (by (with_reducible repeat (first | apply Kd.V_alloc | apply Kd.V_drewN | apply Kd.V_drew)); exact Kd.V_mono HO_21.out (fun _ hk => ⟨⟨hk.1, ⟨hk.2.2.1, ⟨hk.2.2.2.1, ⟨hk.2.2.2.2.1, ⟨hk.2.2.2.2.2.1, ⟨hk.2.2.2.2.2.2.1, hk.2.2.2.2.2.2.2⟩⟩⟩⟩⟩⟩, hk.2.1⟩)) hg hat); have n1_ := Aside0.mk (Kd.V_afterv (ok := (fun k_ => ((P0_1_ k_ ∨ P1_1_ k_) ∨ w.heap.size ≤ k_) ∧ k_ ≠ gb1177 ∧ k_ ≠ gb1178 ∧ k_ ≠ gb1179 ∧ k_ ≠ gb1193 ∧ k_ ≠ gb1195 ∧ k_ ≠ gb1196)) (by (with_reducible repeat (first | apply Kd.V_alloc | apply Kd.V_drewN | apply Kd.V_drew)); exact Kd.V_mono HO_28.out (fun _ hk => ⟨⟨hk.1, ⟨hk.2.2.1, ⟨hk.2.2.2.1, ⟨hk.2.2.2.2.1, ⟨hk.2.2.2.2.2.1, ⟨hk.2.2.2.2.2.2.1, hk.2.2.2.2.2.2.2⟩⟩⟩⟩⟩⟩, hk.2.1⟩)) hg hat); have n2_ := Aside0.mk (Kd.V_afterv (ok := (fun k_ => ((P0_1_ k_ ∨ P1_1_ k_) ∨ w.heap.size ≤ k_) ∧ k_ ≠ gb1177 ∧ k_ ≠ gb1178 ∧ k_ ≠ gb1179 ∧ k_ ≠ gb1193 ∧ k_ ≠ gb1195 ∧ k_ ≠ gb1196)) (by (with_reducible repeat (first | apply Kd.V_alloc | apply Kd.V_drewN | apply Kd.V_drew)); exact Kd.V_mono HO_1178001.out (fun _ hk => ⟨⟨hk.1, ⟨hk.2.2.1, ⟨hk.2.2.2.1, ⟨hk.2.2.2.2.1, ⟨hk.2.2.2.2.2.1, ⟨hk.2.2.2.2.2.2.1, hk.2.2.2.2.2.2.2⟩⟩⟩⟩⟩⟩, hk.2.1⟩)) hg hat); have n3_ := Aside0.mk (Kd.V_afterv (ok := (fun k_ => ((P0_1_ k_ ∨ P1_1_ k_) ∨ w.heap.size ≤ k_) ∧ k_ ≠ gb1177 ∧ k_ ≠ gb1178 ∧ k_ ≠ gb1179 ∧ k_ ≠ gb1193 ∧ k_ ≠ gb1195 ∧ k_ ≠ gb1196)) (by (with_reducible repeat (first | apply Kd.V_alloc | apply Kd.V_drewN | apply Kd.V_drew)); exact Kd.V_mono HO_1179001.out (fun _ hk => ⟨⟨hk.1, ⟨hk.2.2.1, ⟨hk.2.2.2.1, ⟨hk.2.2.2.2.1, ⟨hk.2.2.2.2.2.1, ⟨hk.2.2.2.2.2.2.1, hk.2.2.2.2.2.2.2⟩⟩⟩⟩⟩⟩, hk.2.1⟩)) hg hat); have n4_ := Aside0.mk (blk_grown (g := gb1177) (o := .cells #[.int .i64 a0_0, .slice (some ad1192) l0_1.length c0_1] 26 (0, 0)) (by (with_reducible repeat (first | refine blk_drewN ?_ _ | refine blk_drew ?_ | refine blk_alloc ?_ _)); exact BK1177.out) hg (Kd.R_ne HO_6.out BK1177.out (by decide))); have n5_ := Aside0.mk (blk_grown (g := gb1178) (o := .cells #[.int .i64 a1_0, .slice (some ad1194) l1_1.length c1_1] 26 (0, 0)) (by (with_reducible repeat (first | refine blk_drewN ?_ _ | refine blk_drew ?_ | refine blk_alloc ?_ _)); exact BK1178.out) hg (Kd.R_ne HO_6.out BK1178.out (by decide))); have n6_ := Aside0.mk (blk_grown (g := gb1179) (o := .cells #[.int .i64 0, .slice none 0 0] 26 (0, 0)) (by (with_reducible repeat (first | refine blk_drewN ?_ _ | refine blk_drew ?_ | refine blk_alloc ?_ _)); exact BK1179.out) hg (Kd.R_ne HO_6.out BK1179.out (by decide))); have n7_ := Aside0.mk (blk_grown (g := gb1193) (o := .cells #[.int .i64 ((rd_T45 l0_1 x23_1).f0), .int .i64 ((rd_T45 l0_1 x23_1).f1), .int .i64 ((rd_T45 l0_1 x23_1).f2), .int .i64 ((rd_T45 l0_1 x23_1).f3)] 45 (0, 0)) (by (with_reducible repeat (first | refine blk_drewN ?_ _ | refine blk_drew ?_ | refine blk_alloc ?_ _)); exact BK1193.out) hg (Kd.R_away HO_6.out (fun _ hk => hk.2.1))); have n8_ := Aside0.mk (blk_grown (g := gb1195) (o := .cells #[.int .i64 ((rd_T45 l1_1 x30_2).f0), .int .i64 ((rd_T45 l1_1 x30_2).f1), .int .i64 ((rd_T45 l1_1 x30_2).f2), .int .i64 ((rd_T45 l1_1 x30_2).f3)] 45 (0, 0)) (by (with_reducible repeat (first | refine blk_drewN ?_ _ | refine blk_drew ?_ | refine blk_alloc ?_ _)); exact BK1195.out) hg (Kd.R_away HO_6.out (fun _ hk => hk.2.2.1))); have n9_ := Aside0.mk (blk_grown (g := gb1196) (o := .cells #[.int .i64 x1197000_3, .int .i64 x1197001_3, .int .i64 x1197002_3, .int .i64 x1197003_3] 45 (0, 0)) (by (with_reducible repeat (first | refine blk_drewN ?_ _ | refine blk_drew ?_ | refine blk_alloc ?_ _)); exact BK1196.out) hg (Kd.R_away HO_6.out (fun _ hk => hk.2.2.2))); have n10_ := Aside0.mk (hb); have n11_ := Aside0.mk (ho); clear HO_21; clear HO_28; clear HO_1178001; clear HO_1179001; clear BK1177; clear BK1178; clear BK1179; clear BK1193; clear BK1195; clear BK1196; clear HB; clear HO_6; have HO_21 := n0_; have HO_28 := n1_; have HO_1178001 := n2_; have HO_1179001 := n3_; have BK1177 := n4_; have BK1178 := n5_; have BK1179 := n6_; have BK1193 := n7_; have BK1195 := n8_; have BK1196 := n9_; have HB := n10_; have HO1199 := n11_; clear n0_ n1_ n2_ n3_ n4_ n5_ n6_ n7_ n8_ n9_ n10_ n11_; clear ho hb hg hat))
                go_roundg k3
                case measure => have := HK1.out; have := HK2.out; have := HK3.out; omega
                case rel => exact ⟨(y1197), (wrap64 (x30_2 + 1)), (by first | rfl | (simp; done) | (simp [*]; done) | (simp; decide +kernel)), H', ⟨by have := HK1.out; have := HK2.out; have := HK3.out; omega⟩, ⟨by (with_reducible repeat (first | apply Kd.R_alloc | apply Kd.R_drewN | apply Kd.R_drew)); exact Kd.R_mono HO1199.out (fun _ hk => ⟨hk.1, hk.2.1⟩)⟩, ⟨by (with_reducible repeat (first | apply Kd.V_alloc | apply Kd.V_drewN | apply Kd.V_drew)); exact Kd.V_mono HO_21.out (fun _ hk => ⟨hk.1.1, ⟨hk.2, ⟨hk.1.2.1, ⟨hk.1.2.2.1, ⟨hk.1.2.2.2.1, hk.1.2.2.2.2.1⟩⟩⟩⟩⟩)⟩, ⟨by (with_reducible repeat (first | apply Kd.V_alloc | apply Kd.V_drewN | apply Kd.V_drew)); exact Kd.V_mono HO_28.out (fun _ hk => ⟨hk.1.1, ⟨hk.2, ⟨hk.1.2.1, ⟨hk.1.2.2.1, ⟨hk.1.2.2.2.1, hk.1.2.2.2.2.1⟩⟩⟩⟩⟩)⟩, ⟨by (with_reducible repeat (first | apply Kd.V_alloc | apply Kd.V_drewN | apply Kd.V_drew)); exact Kd.V_mono HO_1178001.out (fun _ hk => ⟨hk.1.1, ⟨hk.2, ⟨hk.1.2.1, ⟨hk.1.2.2.1, ⟨hk.1.2.2.2.1, hk.1.2.2.2.2.1⟩⟩⟩⟩⟩)⟩, ⟨by (with_reducible repeat (first | apply Kd.V_alloc | apply Kd.V_drewN | apply Kd.V_drew)); exact Kd.V_mono HO_1179001.out (fun _ hk => ⟨hk.1.1, ⟨hk.2, ⟨hk.1.2.1, ⟨hk.1.2.2.1, ⟨hk.1.2.2.2.1, hk.1.2.2.2.2.1⟩⟩⟩⟩⟩)⟩, ⟨by (with_reducible repeat (first | refine blk_drewN ?_ _ | refine blk_drew ?_ | refine blk_alloc ?_ _)); exact BK1177.out⟩, ⟨by (with_reducible repeat (first | refine blk_drewN ?_ _ | refine blk_drew ?_ | refine blk_alloc ?_ _)); exact BK1178.out⟩, ⟨by (with_reducible repeat (first | refine blk_drewN ?_ _ | refine blk_drew ?_ | refine blk_alloc ?_ _)); exact BK1179.out⟩, ⟨by (with_reducible repeat (first | refine blk_drewN ?_ _ | refine blk_drew ?_ | refine blk_alloc ?_ _)); exact BK1193.out⟩, ⟨by repeat (first | (with_reducible first | exact HB.out | apply below_alloc | apply pw_below_drewN | apply below_drew1 | refine below_set ?_ GE1177.out | refine below_set ?_ GE1178.out | refine below_set ?_ GE1179.out | refine below_set ?_ GE1193.out | refine below_set ?_ GE1195.out | refine below_set ?_ GE1196.out) | exact HB.out)⟩⟩
               ·rw [if_neg c60] at H
                exact absurd H (by simp)
           ·rw [if_neg c33] at H
            exact absurd H (by simp)
          ·rw [if_neg c32] at H
           exact absurd H (by simp)
         ·rw [if_neg c31] at H
          have c31b0 : decide (x30_2 < (l1_1.length : Int)) = false := decide_eq_false c31
          clear c31
          have H' := Aside0.mk H
          clear H
          go_wp2
          go_roundg k2
          case measure => have := HK1.out; have := HK2.out; omega
          case rel => exact ⟨(x6_2), (wrap64 (x23_1 + 1)), (by first | rfl | (simp; done) | (simp [*]; done) | (simp; decide +kernel)), H', ⟨by have := HK1.out; have := HK2.out; omega⟩, ⟨by (with_reducible repeat (first | apply Kd.R_alloc | apply Kd.R_drewN | apply Kd.R_drew)); exact Kd.R_mono HO_6.out (fun _ hk => hk.1)⟩, ⟨by (with_reducible repeat (first | apply Kd.V_alloc | apply Kd.V_drewN | apply Kd.V_drew)); exact Kd.V_mono HO_21.out (fun _ hk => ⟨hk.1, ⟨hk.2.1, ⟨hk.2.2.1, ⟨hk.2.2.2.1, hk.2.2.2.2.1⟩⟩⟩⟩)⟩, ⟨by (with_reducible repeat (first | apply Kd.V_alloc | apply Kd.V_drewN | apply Kd.V_drew)); exact Kd.V_mono HO_1178001.out (fun _ hk => ⟨hk.1, ⟨hk.2.1, ⟨hk.2.2.1, ⟨hk.2.2.2.1, hk.2.2.2.2.1⟩⟩⟩⟩)⟩, ⟨by (with_reducible repeat (first | apply Kd.V_alloc | apply Kd.V_drewN | apply Kd.V_drew)); exact Kd.V_mono HO_1179001.out (fun _ hk => ⟨hk.1, ⟨hk.2.1, ⟨hk.2.2.1, ⟨hk.2.2.2.1, hk.2.2.2.2.1⟩⟩⟩⟩)⟩, ⟨by (with_reducible repeat (first | refine blk_drewN ?_ _ | refine blk_drew ?_ | refine blk_alloc ?_ _)); exact BK1177.out⟩, ⟨by (with_reducible repeat (first | refine blk_drewN ?_ _ | refine blk_drew ?_ | refine blk_alloc ?_ _)); exact BK1178.out⟩, ⟨by (with_reducible repeat (first | refine blk_drewN ?_ _ | refine blk_drew ?_ | refine blk_alloc ?_ _)); exact BK1179.out⟩, ⟨by repeat (first | (with_reducible first | exact HB.out | apply below_alloc | apply pw_below_drewN | apply below_drew1 | refine below_set ?_ GE1177.out | refine below_set ?_ GE1178.out | refine below_set ?_ GE1179.out | refine below_set ?_ GE1193.out) | exact HB.out)⟩⟩
      ·rw [if_neg c22] at H
       exact absurd H (by simp)
     ·rw [if_neg c21] at H
      exact absurd H (by simp)
    ·rw [if_neg c20] at H
     have c20b0 : decide (x23_1 < (l0_1.length : Int)) = false := decide_eq_false c20
     clear c20
     replace H := Option.bind_eq_some_iff.mp H
     obtain ⟨⟨t1187, t1188, t1191⟩, A680, H⟩ := H
     replace H : (some (t1187, t1188, t1191)) = some (r1, r2, r3) := H
     have A68 := Aside0.mk A680
     clear A680
     simp only [Option.some.injEq, Prod.mk.injEq] at H
     obtain ⟨rfl, rfl, rfl⟩ := H
     have hnb69 := NB1177_1178.out
     have hnc69 := NB1178_1177.out
     have hnb70 := NB1177_1179.out
     have hnc70 := NB1179_1177.out
     have hcz71_0 : wr.cell? ⟨gb1177, 0, none⟩ = some (.int .i64 a0_0) := (blk_cell BK1177.out 0).trans rfl
     have hcz71_1 : wr.cell? ⟨gb1177, 1, none⟩ = some (.slice A0_1 l0_1.length c0_1) := (blk_cell BK1177.out 1).trans rfl
     have hfz71_0 := blk_frozen BK1177.out 0
     have hfz71_1 := blk_frozen BK1177.out 1
     have hnb72 := NB1178_1179.out
     have hnc72 := NB1179_1178.out
     have hcz73_0 : wr.cell? ⟨gb1178, 0, none⟩ = some (.int .i64 a1_0) := (blk_cell BK1178.out 0).trans rfl
     have hcz73_1 : wr.cell? ⟨gb1178, 1, none⟩ = some (.slice A1_1 l1_1.length c1_1) := (blk_cell BK1178.out 1).trans rfl
     have hfz73_0 := blk_frozen BK1178.out 0
     have hfz73_1 := blk_frozen BK1178.out 1
     obtain ⟨Ao74, co74, eo74⟩ := Kd.R_slice HO_6.out
     subst eo74
     go_wp2_with (first | ((with_reducible refine gate_callee (f := 57) rfl ?_); refine goesL_ (some 63) rfl rfl Try.func57 (by kernel_rfl) rfl #[.int .i64 (wrap64 (a0_0 * a1_0)), .slice Ao74 x6_1.length co74] rfl (by (try simp only [List.map_toArray, List.map_cons, List.map_nil]); first | done | rfl | (simp only [List.length_drop, List.length_take]; rfl)) ?_; (with_reducible refine (impl_limited.calls (wrap64 (a0_0 * a1_0)) _ _ x6_1 t1187 t1188 t1191 _ ?side1 ?side2 A68.out).mono ?_); (case side1 => repeat (first | exact (Kd.R_reads' HO_6.out).2.2 | (with_reducible refine Kd.C_alloc ?_ _) | (with_reducible refine Kd.C_drewN ?_ _) | (with_reducible refine Kd.C_drew ?_))); (case side2 => exact (Kd.R_reads' HO_6.out).2.1); rintro e w75 ⟨v1189, rfl, ho0, hb⟩; refine ⟨_, rfl, ?_⟩; have n0_ := Aside0.mk (Kd.R_elder' (by (with_reducible repeat (first | apply Kd.R_alloc | apply Kd.R_drewN | apply Kd.R_drew)); exact HO_6.out) (Kd.R_base ho0) hb); have n1_ := Aside0.mk (Kd.V_elder' (by (with_reducible repeat (first | apply Kd.V_alloc | apply Kd.V_drewN | apply Kd.V_drew)); exact HO_21.out) (Kd.R_base ho0) hb); have n2_ := Aside0.mk (Kd.V_elder' (by (with_reducible repeat (first | apply Kd.V_alloc | apply Kd.V_drewN | apply Kd.V_drew)); exact HO_1178001.out) (Kd.R_base ho0) hb); have n3_ := Aside0.mk (Kd.V_elder' (by (with_reducible repeat (first | apply Kd.V_alloc | apply Kd.V_drewN | apply Kd.V_drew)); exact HO_1179001.out) (Kd.R_base ho0) hb); have n4_ := Aside0.mk (Kd.R_lower (Kd.R_new' (Kd.R_newM (M := fun k_ => (w.heap.size ≤ k_)) ho0 (below_size (by repeat (first | (with_reducible first | exact HB.out | apply below_alloc | apply pw_below_drewN | apply below_drew1 | refine below_set ?_ GE1177.out | refine below_set ?_ GE1178.out | refine below_set ?_ GE1179.out) | exact HB.out))) (fun k_ h_ => h_)) (Kd.R_lt (by (with_reducible repeat (first | apply Kd.R_alloc | apply Kd.R_drewN | apply Kd.R_drew)); exact HO_6.out))) (below_size (by repeat (first | (with_reducible first | exact HB.out | apply below_alloc | apply pw_below_drewN | apply below_drew1 | refine below_set ?_ GE1177.out | refine below_set ?_ GE1178.out | refine below_set ?_ GE1179.out) | exact HB.out)))); have n5_ := Aside0.mk (blk_below (g := gb1177) (o := .cells #[.int .i64 a0_0, .slice A0_1 l0_1.length c0_1] 26 (0, 0)) (by (with_reducible repeat (first | refine blk_drewN ?_ _ | refine blk_drew ?_ | refine blk_alloc ?_ _)); exact BK1177.out) hb); have n6_ := Aside0.mk (blk_below (g := gb1178) (o := .cells #[.int .i64 a1_0, .slice A1_1 l1_1.length c1_1] 26 (0, 0)) (by (with_reducible repeat (first | refine blk_drewN ?_ _ | refine blk_drew ?_ | refine blk_alloc ?_ _)); exact BK1178.out) hb); have n7_ := Aside0.mk (blk_below (g := gb1179) (o := .cells #[.int .i64 0, .slice none 0 0] 26 (0, 0)) (by (with_reducible repeat (first | refine blk_drewN ?_ _ | refine blk_drew ?_ | refine blk_alloc ?_ _)); exact BK1179.out) hb); have n8_ := Aside0.mk (below_step (by repeat (first | (with_reducible first | exact HB.out | apply below_alloc | apply pw_below_drewN | apply below_drew1 | refine below_set ?_ GE1177.out | refine below_set ?_ GE1178.out | refine below_set ?_ GE1179.out) | exact HB.out)) hb); clear HO_6; clear HO_21; clear HO_1178001; clear HO_1179001; clear BK1177; clear BK1178; clear BK1179; clear HB; have HO_6 := n0_; have HO_21 := n1_; have HO_1178001 := n2_; have HO_1179001 := n3_; have HO1190 := n4_; have BK1177 := n5_; have BK1178 := n6_; have BK1179 := n7_; have HB := n8_; clear n0_ n1_ n2_ n3_ n4_ n5_ n6_ n7_ n8_; (try clear hb); (try clear hb2); (try clear hk); (try clear hi); (try clear ho0); have hcz76_0 : w75.cell? ⟨gb1179, 0, none⟩ = some (.int .i64 0) := (blk_cell BK1179.out 0).trans rfl; have hcz76_1 : w75.cell? ⟨gb1179, 1, none⟩ = some (.slice none 0 0) := (blk_cell BK1179.out 1).trans rfl; have hfz76_0 := blk_frozen BK1179.out 0; have hfz76_1 := blk_frozen BK1179.out 1; obtain ⟨Ao77, co77, eo77⟩ := Kd.R_slice HO1190.out; subst eo77))
     refine bodyPost_ret (results_ct rfl _ _ gb1179 26 #[.int .i64 t1187, .slice Ao77 t1188.length co77] (0, 0) _ rfl (by (with_reducible repeat (first | refine blk_drewN ?_ _ | refine blk_drew ?_ | refine blk_alloc ?_ _)); refine blk_put (cs := #[.int .i64 t1187, .slice none 0 0]) ?_ 1 _ rfl; (with_reducible repeat (first | refine blk_drewN ?_ _ | refine blk_drew ?_ | refine blk_alloc ?_ _)); refine blk_put (cs := #[.int .i64 0, .slice none 0 0]) ?_ 0 _ rfl; (with_reducible repeat (first | refine blk_drewN ?_ _ | refine blk_drew ?_ | refine blk_alloc ?_ _)); exact BK1179.out) Try.underlying26 rfl (by kernel_rfl)) rfl ?_
     exact ⟨_, by first | rfl | (simp [errW_none, errW_some] <;> rfl) | (simp [*, errW_none, errW_some] <;> rfl), by (with_reducible repeat (first | apply Kd.R_alloc | apply Kd.R_drewN | apply Kd.R_drew)); exact Kd.R_mono (Kd.R_far (p := ⟨gb1179, 1, none⟩) (Kd.R_far (p := ⟨gb1179, 0, none⟩) (Kd.R_types HO1190.out BK1179.out (by decide)) (fun _ hk => hk.2) (.int .i64 t1187)) (fun _ hk => hk.2) (.slice Ao77 t1188.length co77)) (fun _ hk => hk.1.1.1), by repeat (first | (with_reducible first | exact HB.out | apply below_alloc | apply pw_below_drewN | apply below_drew1 | refine below_set ?_ GE1177.out | refine below_set ?_ GE1178.out | refine below_set ?_ GE1179.out) | exact HB.out)⟩
 ·replace c4 := Bool.eq_false_iff.mpr c4
  subst c4
  have H1 : (some (0, ([] : List (S45)), 1)) = some (r1, r2, r3) := by rw [if_neg (show ¬ (false = true) by decide)] at H; exact H
  clear H
  have H := H1
  clear H1
  simp only [Option.some.injEq, Prod.mk.injEq] at H
  obtain ⟨rfl, rfl, rfl⟩ := H
  go_enter Try.func35, Try.ntmps35
  go_wp2_with (first | ((with_reducible refine gate_dst (N := 2) rfl ?_); refine box_event ?hg (N := 2) ?hd (cs := #[.int .i64 a0_0, .slice A0_1 l0_1.length c0_1]) (t := 26) ?hr ?_; (case hd => rfl); (case hg => rfl); (case hr => first | (go_simp; done) | (go_simp; rfl)); intro gb1177 hg w78 hbox hb; have n0_ := Aside0.mk (Kd.V_below (Kd.V_elderB (by (with_reducible repeat (first | apply Kd.V_alloc | apply Kd.V_drewN | apply Kd.V_drew)); exact HO0_1.out) gb1177 (Nat.le_of_eq hg.symm)) hb); have n1_ := Aside0.mk (Kd.V_below (Kd.V_elderB (by (with_reducible repeat (first | apply Kd.V_alloc | apply Kd.V_drewN | apply Kd.V_drew)); exact HO1_1.out) gb1177 (Nat.le_of_eq hg.symm)) hb); have n2_ := Aside0.mk (below_step (by repeat (first | (with_reducible first | exact HB.out | apply below_alloc | apply pw_below_drewN | apply below_drew1) | exact HB.out)) hb); have n3_ := Aside0.mk (hbox); have n4_ := Aside0.mk ((by rw [hg]; exact (below_size (by repeat (first | (with_reducible first | exact HB.out | apply below_alloc | apply pw_below_drewN | apply below_drew1) | exact HB.out))) : w.heap.size ≤ gb1177)); have n5_ := Aside0.mk ((by rw [hg]; exact (below_size (by repeat (first | (with_reducible first | exact HB.out | apply below_alloc | apply pw_below_drewN | apply below_drew1) | exact HB.out))) : w.heap.size ≤ gb1177)); clear HO0_1; clear HO1_1; clear HB; have HO0_1 := n0_; have HO1_1 := n1_; have HB := n2_; have BK1177 := n3_; have GW1177 := n4_; have GE1177 := n5_; clear n0_ n1_ n2_ n3_ n4_ n5_; clear hb hbox hg) | ((with_reducible refine gate_dst (N := 3) rfl ?_); refine box_event ?hg (N := 3) ?hd (cs := #[.int .i64 a1_0, .slice A1_1 l1_1.length c1_1]) (t := 26) ?hr ?_; (case hd => rfl); (case hg => rfl); (case hr => first | (go_simp; done) | (go_simp; rfl)); intro gb1178 hg w79 hbox hb; have n0_ := Aside0.mk (Kd.V_below (Kd.V_elderB (by (with_reducible repeat (first | apply Kd.V_alloc | apply Kd.V_drewN | apply Kd.V_drew)); exact HO0_1.out) gb1178 (Nat.le_of_eq hg.symm)) hb); have n1_ := Aside0.mk (Kd.V_below (Kd.V_elderB (by (with_reducible repeat (first | apply Kd.V_alloc | apply Kd.V_drewN | apply Kd.V_drew)); exact HO1_1.out) gb1178 (Nat.le_of_eq hg.symm)) hb); have n2_ := Aside0.mk (blk_below (g := gb1177) (o := .cells #[.int .i64 a0_0, .slice A0_1 l0_1.length c0_1] 26 (0, 0)) (by (with_reducible repeat (first | refine blk_drewN ?_ _ | refine blk_drew ?_ | refine blk_alloc ?_ _)); exact BK1177.out) hb); have n3_ := Aside0.mk (below_step (by repeat (first | (with_reducible first | exact HB.out | apply below_alloc | apply pw_below_drewN | apply below_drew1 | refine below_set ?_ GE1177.out) | exact HB.out)) hb); have n4_ := Aside0.mk (hbox); have n5_ := Aside0.mk ((by rw [hg]; exact (below_size (by repeat (first | (with_reducible first | exact HB.out | apply below_alloc | apply pw_below_drewN | apply below_drew1 | refine below_set ?_ GE1177.out) | exact HB.out))) : w.heap.size ≤ gb1178)); have n6_ := Aside0.mk ((by rw [hg]; exact (below_size (by repeat (first | (with_reducible first | exact HB.out | apply below_alloc | apply pw_below_drewN | apply below_drew1 | refine below_set ?_ GE1177.out) | exact HB.out))) : w.heap.size ≤ gb1178)); have n7_ := Aside0.mk ((by rw [hg]; exact Nat.ne_of_lt (blk_lt (g := gb1177) (o := .cells #[.int .i64 a0_0, .slice A0_1 l0_1.length c0_1] 26 (0, 0)) (by (with_reducible repeat (first | refine blk_drewN ?_ _ | refine blk_drew ?_ | refine blk_alloc ?_ _)); exact BK1177.out)) : gb1177 ≠ gb1178)); have n8_ := Aside0.mk ((by rw [hg]; exact Nat.ne_of_gt (blk_lt (g := gb1177) (o := .cells #[.int .i64 a0_0, .slice A0_1 l0_1.length c0_1] 26 (0, 0)) (by (with_reducible repeat (first | refine blk_drewN ?_ _ | refine blk_drew ?_ | refine blk_alloc ?_ _)); exact BK1177.out)) : gb1178 ≠ gb1177)); clear HO0_1; clear HO1_1; clear BK1177; clear HB; have HO0_1 := n0_; have HO1_1 := n1_; have BK1177 := n2_; have HB := n3_; have BK1178 := n4_; have GW1178 := n5_; have GE1178 := n6_; have NB1177_1178 := n7_; have NB1178_1177 := n8_; clear n0_ n1_ n2_ n3_ n4_ n5_ n6_ n7_ n8_; clear hb hbox hg) | ((with_reducible refine gate_dst (N := 4) rfl ?_); refine box_event ?hg (N := 4) ?hd (cs := #[.int .i64 0, .slice none 0 0]) (t := 26) ?hr ?_; (case hd => rfl); (case hg => rfl); (case hr => first | (go_simp; done) | (go_simp; rfl)); intro gb1179 hg w80 hbox hb; have n0_ := Aside0.mk (Kd.V_below (Kd.V_elderB (by (with_reducible repeat (first | apply Kd.V_alloc | apply Kd.V_drewN | apply Kd.V_drew)); exact HO0_1.out) gb1179 (Nat.le_of_eq hg.symm)) hb); have n1_ := Aside0.mk (Kd.V_below (Kd.V_elderB (by (with_reducible repeat (first | apply Kd.V_alloc | apply Kd.V_drewN | apply Kd.V_drew)); exact HO1_1.out) gb1179 (Nat.le_of_eq hg.symm)) hb); have n2_ := Aside0.mk (blk_below (g := gb1177) (o := .cells #[.int .i64 a0_0, .slice A0_1 l0_1.length c0_1] 26 (0, 0)) (by (with_reducible repeat (first | refine blk_drewN ?_ _ | refine blk_drew ?_ | refine blk_alloc ?_ _)); exact BK1177.out) hb); have n3_ := Aside0.mk (blk_below (g := gb1178) (o := .cells #[.int .i64 a1_0, .slice A1_1 l1_1.length c1_1] 26 (0, 0)) (by (with_reducible repeat (first | refine blk_drewN ?_ _ | refine blk_drew ?_ | refine blk_alloc ?_ _)); exact BK1178.out) hb); have n4_ := Aside0.mk (below_step (by repeat (first | (with_reducible first | exact HB.out | apply below_alloc | apply pw_below_drewN | apply below_drew1 | refine below_set ?_ GE1177.out | refine below_set ?_ GE1178.out) | exact HB.out)) hb); have n5_ := Aside0.mk (hbox); have n6_ := Aside0.mk ((by rw [hg]; exact (below_size (by repeat (first | (with_reducible first | exact HB.out | apply below_alloc | apply pw_below_drewN | apply below_drew1 | refine below_set ?_ GE1177.out | refine below_set ?_ GE1178.out) | exact HB.out))) : w.heap.size ≤ gb1179)); have n7_ := Aside0.mk ((by rw [hg]; exact (below_size (by repeat (first | (with_reducible first | exact HB.out | apply below_alloc | apply pw_below_drewN | apply below_drew1 | refine below_set ?_ GE1177.out | refine below_set ?_ GE1178.out) | exact HB.out))) : w.heap.size ≤ gb1179)); have n8_ := Aside0.mk ((by rw [hg]; exact Nat.ne_of_lt (blk_lt (g := gb1177) (o := .cells #[.int .i64 a0_0, .slice A0_1 l0_1.length c0_1] 26 (0, 0)) (by (with_reducible repeat (first | refine blk_drewN ?_ _ | refine blk_drew ?_ | refine blk_alloc ?_ _)); exact BK1177.out)) : gb1177 ≠ gb1179)); have n9_ := Aside0.mk ((by rw [hg]; exact Nat.ne_of_gt (blk_lt (g := gb1177) (o := .cells #[.int .i64 a0_0, .slice A0_1 l0_1.length c0_1] 26 (0, 0)) (by (with_reducible repeat (first | refine blk_drewN ?_ _ | refine blk_drew ?_ | refine blk_alloc ?_ _)); exact BK1177.out)) : gb1179 ≠ gb1177)); have n10_ := Aside0.mk ((by rw [hg]; exact Nat.ne_of_lt (blk_lt (g := gb1178) (o := .cells #[.int .i64 a1_0, .slice A1_1 l1_1.length c1_1] 26 (0, 0)) (by (with_reducible repeat (first | refine blk_drewN ?_ _ | refine blk_drew ?_ | refine blk_alloc ?_ _)); exact BK1178.out)) : gb1178 ≠ gb1179)); have n11_ := Aside0.mk ((by rw [hg]; exact Nat.ne_of_gt (blk_lt (g := gb1178) (o := .cells #[.int .i64 a1_0, .slice A1_1 l1_1.length c1_1] 26 (0, 0)) (by (with_reducible repeat (first | refine blk_drewN ?_ _ | refine blk_drew ?_ | refine blk_alloc ?_ _)); exact BK1178.out)) : gb1179 ≠ gb1178)); clear HO0_1; clear HO1_1; clear BK1177; clear BK1178; clear HB; have HO0_1 := n0_; have HO1_1 := n1_; have BK1177 := n2_; have BK1178 := n3_; have HB := n4_; have BK1179 := n5_; have GW1179 := n6_; have GE1179 := n7_; have NB1177_1179 := n8_; have NB1179_1177 := n9_; have NB1178_1179 := n10_; have NB1179_1178 := n11_; clear n0_ n1_ n2_ n3_ n4_ n5_ n6_ n7_ n8_ n9_ n10_ n11_; clear hb hbox hg; have hnb81 := NB1177_1178.out; have hnc81 := NB1178_1177.out; have hnb82 := NB1177_1179.out; have hnc82 := NB1179_1177.out; have hcz83_0 : w80.cell? ⟨gb1177, 0, none⟩ = some (.int .i64 a0_0) := (blk_cell BK1177.out 0).trans rfl; have hcz83_1 : w80.cell? ⟨gb1177, 1, none⟩ = some (.slice A0_1 l0_1.length c0_1) := (blk_cell BK1177.out 1).trans rfl; have hfz83_0 := blk_frozen BK1177.out 0; have hfz83_1 := blk_frozen BK1177.out 1; have hnb84 := NB1178_1179.out; have hnc84 := NB1179_1178.out; have hcz85_0 : w80.cell? ⟨gb1178, 0, none⟩ = some (.int .i64 a1_0) := (blk_cell BK1178.out 0).trans rfl; have hcz85_1 : w80.cell? ⟨gb1178, 1, none⟩ = some (.slice A1_1 l1_1.length c1_1) := (blk_cell BK1178.out 1).trans rfl; have hfz85_0 := blk_frozen BK1178.out 0; have hfz85_1 := blk_frozen BK1178.out 1) | ((with_reducible refine gate_dst (N := 15) rfl ?_); refine Kd.N_lit k26 _ 26 ?hg (N' := 15) ?hd (xs := ([(⟨a0_0, l0_1⟩ : S26), (⟨a1_0, l1_1⟩ : S26)] : List (S26))) (inner := [.int .i64 a0_0, .slice A0_1 l0_1.length c0_1, .int .i64 a1_0, .slice A1_1 l1_1.length c1_1]) (ok := (fun k_ => ((P0_1_ k_ ∨ P1_1_ k_) ∨ w.heap.size ≤ k_) ∧ k_ ≠ gb1177 ∧ k_ ≠ gb1178 ∧ k_ ≠ gb1179)) (okp := (fun k_ => ((P0_1_ k_ ∨ P1_1_ k_) ∨ w.heap.size ≤ k_) ∧ k_ ≠ gb1177 ∧ k_ ≠ gb1178 ∧ k_ ≠ gb1179)) ?hr ?hp (fun _ hk => hk) ((show ∀ k_, w80.heap.size ≤ k_ → (fun k_ => ((P0_1_ k_ ∨ P1_1_ k_) ∨ w.heap.size ≤ k_) ∧ k_ ≠ gb1177 ∧ k_ ≠ gb1178 ∧ k_ ≠ gb1179) k_ from fun k_ hk => ⟨(.inr (Nat.le_trans (below_size (by repeat (first | (with_reducible first | exact HB.out | apply below_alloc | apply pw_below_drewN | apply below_drew1 | refine below_set ?_ GE1177.out | refine below_set ?_ GE1178.out | refine below_set ?_ GE1179.out) | exact HB.out))) hk)), Kd.freshB (g := gb1177) (o := .cells #[.int .i64 a0_0, .slice A0_1 l0_1.length c0_1] 26 (0, 0)) (by (with_reducible repeat (first | refine blk_drewN ?_ _ | refine blk_drew ?_ | refine blk_alloc ?_ _)); exact BK1177.out) k_ hk, Kd.freshB (g := gb1178) (o := .cells #[.int .i64 a1_0, .slice A1_1 l1_1.length c1_1] 26 (0, 0)) (by (with_reducible repeat (first | refine blk_drewN ?_ _ | refine blk_drew ?_ | refine blk_alloc ?_ _)); exact BK1178.out) k_ hk, Kd.freshB (g := gb1179) (o := .cells #[.int .i64 0, .slice none 0 0] 26 (0, 0)) (by (with_reducible repeat (first | refine blk_drewN ?_ _ | refine blk_drew ?_ | refine blk_alloc ?_ _)); exact BK1179.out) k_ hk⟩) _ (Nat.le_refl _)) (Below.refl _ _) (Nat.le_refl _) (by simp) ?_; (case hd => rfl); (case hg => rfl); (case hr => first | (go_simp; done) | (go_simp; rfl)); (case hp => exact (Reps.c2 (show Kd.FK k26 _ _ (⟨a0_0, l0_1⟩ : S26) [.int .i64 a0_0, .slice A0_1 l0_1.length c0_1] from (k26_mkF _ _ (⟨a0_0, l0_1⟩ : S26) (Kd.V_reads' (Kd.V_mono (ok' := (fun k_ => ((P0_1_ k_ ∨ P1_1_ k_) ∨ w.heap.size ≤ k_) ∧ k_ ≠ gb1177 ∧ k_ ≠ gb1178 ∧ k_ ≠ gb1179)) (HO0_1.out) (fun k_ hk => ⟨hk.1.1.1, ⟨hk.1.1.2, ⟨hk.1.2, hk.2⟩⟩⟩))).2.1 (Kd.V_F (Kd.V_mono (ok' := (fun k_ => ((P0_1_ k_ ∨ P1_1_ k_) ∨ w.heap.size ≤ k_) ∧ k_ ≠ gb1177 ∧ k_ ≠ gb1178 ∧ k_ ≠ gb1179)) (HO0_1.out) (fun k_ hk => ⟨hk.1.1.1, ⟨hk.1.1.2, ⟨hk.1.2, hk.2⟩⟩⟩))))) (Reps.c2 (show Kd.FK k26 _ _ (⟨a1_0, l1_1⟩ : S26) [.int .i64 a1_0, .slice A1_1 l1_1.length c1_1] from (k26_mkF _ _ (⟨a1_0, l1_1⟩ : S26) (Kd.V_reads' (Kd.V_mono (ok' := (fun k_ => ((P0_1_ k_ ∨ P1_1_ k_) ∨ w.heap.size ≤ k_) ∧ k_ ≠ gb1177 ∧ k_ ≠ gb1178 ∧ k_ ≠ gb1179)) (HO1_1.out) (fun k_ hk => ⟨hk.1.1.1, ⟨hk.1.1.2, ⟨hk.1.2, hk.2⟩⟩⟩))).2.1 (Kd.V_F (Kd.V_mono (ok' := (fun k_ => ((P0_1_ k_ ∨ P1_1_ k_) ∨ w.heap.size ≤ k_) ∧ k_ ≠ gb1177 ∧ k_ ≠ gb1178 ∧ k_ ≠ gb1179)) (HO1_1.out) (fun k_ hk => ⟨hk.1.1.1, ⟨hk.1.1.2, ⟨hk.1.2, hk.2⟩⟩⟩))))) (Reps.none _ _)))); intro v1181 w86 ho87 hb hg_ hnew_; clear hg_ hnew_; (first | rw [← Ny1180.out] at ho87 | (simp only [Int.reduceToNat] at ho87; rw [← Ny1180.out] at ho87)); have n0_ := Aside0.mk (Kd.V_elder' (by (with_reducible repeat (first | apply Kd.V_alloc | apply Kd.V_drewN | apply Kd.V_drew)); exact HO0_1.out) (Kd.N_base ho87) hb); have n1_ := Aside0.mk (Kd.V_elder' (by (with_reducible repeat (first | apply Kd.V_alloc | apply Kd.V_drewN | apply Kd.V_drew)); exact HO1_1.out) (Kd.N_base ho87) hb); have n2_ := Aside0.mk (Kd.N_lower ho87 (below_size (by repeat (first | (with_reducible first | exact HB.out | apply below_alloc | apply pw_below_drewN | apply below_drew1 | refine below_set ?_ GE1177.out | refine below_set ?_ GE1178.out | refine below_set ?_ GE1179.out) | exact HB.out)))); have n3_ := Aside0.mk (blk_below (g := gb1177) (o := .cells #[.int .i64 a0_0, .slice A0_1 l0_1.length c0_1] 26 (0, 0)) (by (with_reducible repeat (first | refine blk_drewN ?_ _ | refine blk_drew ?_ | refine blk_alloc ?_ _)); exact BK1177.out) hb); have n4_ := Aside0.mk (blk_below (g := gb1178) (o := .cells #[.int .i64 a1_0, .slice A1_1 l1_1.length c1_1] 26 (0, 0)) (by (with_reducible repeat (first | refine blk_drewN ?_ _ | refine blk_drew ?_ | refine blk_alloc ?_ _)); exact BK1178.out) hb); have n5_ := Aside0.mk (blk_below (g := gb1179) (o := .cells #[.int .i64 0, .slice none 0 0] 26 (0, 0)) (by (with_reducible repeat (first | refine blk_drewN ?_ _ | refine blk_drew ?_ | refine blk_alloc ?_ _)); exact BK1179.out) hb); have n6_ := Aside0.mk (below_step (by repeat (first | (with_reducible first | exact HB.out | apply below_alloc | apply pw_below_drewN | apply below_drew1 | refine below_set ?_ GE1177.out | refine below_set ?_ GE1178.out | refine below_set ?_ GE1179.out) | exact HB.out)) hb); clear HO0_1; clear HO1_1; clear BK1177; clear BK1178; clear BK1179; clear HB; have HO0_1 := n0_; have HO1_1 := n1_; have HO1182 := n2_; have BK1177 := n3_; have BK1178 := n4_; have BK1179 := n5_; have HB := n6_; clear n0_ n1_ n2_ n3_ n4_ n5_ n6_; clear hb ho87; obtain ⟨Ao88, co88, eo88⟩ := Kd.N_slice HO1182.out; subst eo88) | ((with_reducible refine gate_callee (f := 71) rfl ?_); refine goesL_ (some 16) rfl rfl Try.func71 (by kernel_rfl) rfl #[.slice Ao88 y1180.length co88] rfl (by (try simp only [List.map_toArray, List.map_cons, List.map_nil]); first | done | rfl | (simp only [List.length_drop, List.length_take]; rfl)) ?_; (with_reducible refine (impl_areSets.calls k _ _ y1180 false _ ?side1 ?side2 A3.out).mono ?_); (case side1 => repeat (first | exact (Kd.N_reads' HO1182.out).2.2 | (with_reducible refine Kd.C_alloc ?_ _) | (with_reducible refine Kd.C_drewN ?_ _) | (with_reducible refine Kd.C_drew ?_))); (case side2 => exact (Kd.N_reads' HO1182.out).2.1); rintro e w89 ⟨rfl, hb⟩; refine ⟨_, rfl, ?_⟩; have n0_ := Aside0.mk (Kd.V_below (by (with_reducible repeat (first | apply Kd.V_alloc | apply Kd.V_drewN | apply Kd.V_drew)); exact HO0_1.out) hb); have n1_ := Aside0.mk (Kd.V_below (by (with_reducible repeat (first | apply Kd.V_alloc | apply Kd.V_drewN | apply Kd.V_drew)); exact HO1_1.out) hb); have n2_ := Aside0.mk (Kd.N_below (by (with_reducible repeat (first | apply Kd.N_alloc | apply Kd.N_drewN | apply Kd.N_drew)); exact HO1182.out) hb); have n3_ := Aside0.mk (blk_below (g := gb1177) (o := .cells #[.int .i64 a0_0, .slice A0_1 l0_1.length c0_1] 26 (0, 0)) (by (with_reducible repeat (first | refine blk_drewN ?_ _ | refine blk_drew ?_ | refine blk_alloc ?_ _)); exact BK1177.out) hb); have n4_ := Aside0.mk (blk_below (g := gb1178) (o := .cells #[.int .i64 a1_0, .slice A1_1 l1_1.length c1_1] 26 (0, 0)) (by (with_reducible repeat (first | refine blk_drewN ?_ _ | refine blk_drew ?_ | refine blk_alloc ?_ _)); exact BK1178.out) hb); have n5_ := Aside0.mk (blk_below (g := gb1179) (o := .cells #[.int .i64 0, .slice none 0 0] 26 (0, 0)) (by (with_reducible repeat (first | refine blk_drewN ?_ _ | refine blk_drew ?_ | refine blk_alloc ?_ _)); exact BK1179.out) hb); have n6_ := Aside0.mk (below_step (by repeat (first | (with_reducible first | exact HB.out | apply below_alloc | apply pw_below_drewN | apply below_drew1 | refine below_set ?_ GE1177.out | refine below_set ?_ GE1178.out | refine below_set ?_ GE1179.out) | exact HB.out)) hb); clear HO0_1; clear HO1_1; clear HO1182; clear BK1177; clear BK1178; clear BK1179; clear HB; have HO0_1 := n0_; have HO1_1 := n1_; have HO1182 := n2_; have BK1177 := n3_; have BK1178 := n4_; have BK1179 := n5_; have HB := n6_; clear n0_ n1_ n2_ n3_ n4_ n5_ n6_; (try clear hb); (try clear hb2); (try clear hk); (try clear hi); have hcz90_0 : w89.cell? ⟨gb1179, 0, none⟩ = some (.int .i64 0) := (blk_cell BK1179.out 0).trans rfl; have hcz90_1 : w89.cell? ⟨gb1179, 1, none⟩ = some (.slice none 0 0) := (blk_cell BK1179.out 1).trans rfl; have hfz90_0 := blk_frozen BK1179.out 0; have hfz90_1 := blk_frozen BK1179.out 1))
  refine bodyPost_ret (results_ct rfl _ _ gb1179 26 #[.int .i64 0, .slice none 0 0] (0, 0) _ rfl (by (with_reducible repeat (first | refine blk_drewN ?_ _ | refine blk_drew ?_ | refine blk_alloc ?_ _)); refine blk_put (cs := #[.int .i64 0, .slice none 0 0]) ?_ 1 _ rfl; (with_reducible repeat (first | refine blk_drewN ?_ _ | refine blk_drew ?_ | refine blk_alloc ?_ _)); refine blk_put (cs := #[.int .i64 0, .slice none 0 0]) ?_ 0 _ rfl; (with_reducible repeat (first | refine blk_drewN ?_ _ | refine blk_drew ?_ | refine blk_alloc ?_ _)); exact BK1179.out) Try.underlying26 rfl (by kernel_rfl)) rfl ?_
  exact ⟨_, by first | rfl | (simp [errW_none, errW_some] <;> rfl) | (simp [*, errW_none, errW_some] <;> rfl), by first | exact Kd.R_nil _ _ _ _ _ | exact Kd.N_nil _ _ _ _ _ | exact Kd.V_nil _ _ _ _ _ | exact Kd.Q_nil _ _ _ _ _ | exact Kd.S_nil _ _ _ _ _, by repeat (first | (with_reducible first | exact HB.out | apply below_alloc | apply pw_below_drewN | apply below_drew1 | refine below_set ?_ GE1177.out | refine below_set ?_ GE1178.out | refine below_set ?_ GE1179.out) | exact HB.out)⟩
end Go.Proofs.Ytnjmgmdpkogocaa.Q
namespace Go.Proofs.Ytnjmgmdpkogocaa
open Go Go.RowKit Go.Proofs Go.Proofs.YtnjmgmdpkogocaaW.PrintWords Go.Proofs.YtnjmgmdpkogocaaW.PrintMore Go.Proofs.Ytnjmgmdpkogocaa.Q
set_option linter.unusedVariables false
set_option linter.unusedSimpArgs false
def prodT (D : Int) (a b : T4) : T4 := ⟨a.a * D + b.a, a.b * D + b.b, a.c * D + b.c, a.d * D + b.d⟩
def prodL (D : Int) (ts us : List T4) : List T4 := ts.flatMap fun a => us.map (prodT D a)
def prodR (C : Int) (ts : List T4) (D : Int) (us : List T4) : (Int × List T4) × Int := if isS C ts = true then if isS D us = true then limR (C * D) (prodL D ts us) else ((0, []), 1) else ((0, []), 1)
theorem prodR_len (C : Int) (ts : List T4) (D : Int) (us : List T4) : (prodR C ts D us).1.2.length ≤ 1048576 := by
  unfold prodR
  split
  · split
    · exact limR_len _ _
    · simp
  · simp
theorem mul_small2 {x D : Int} (hx : 0 ≤ x ∧ x < 100) (hD : 0 ≤ D ∧ D < 100) : 0 ≤ x * D ∧ x * D ≤ 10000 := by
  refine ⟨Int.mul_nonneg hx.1 hD.1, ?_⟩
  have := Int.mul_le_mul (show x ≤ 100 by omega) (show D ≤ 100 by omega) hD.1 (show (0 : Int) ≤ 100 by omega)
  omega
theorem wrMul {x D : Int} (hx : 0 ≤ x ∧ x < 100) (hD : 0 ≤ D ∧ D < 100) : wrap64 (x * D) = x * D := by
  have h := mul_small2 hx hD
  generalize x * D = p at h
  unfold wrap64; omega
theorem pwr {x D y : Int} (hx : 0 ≤ x ∧ x < 100) (hD : 0 ≤ D ∧ D < 100) (hy : 0 ≤ y ∧ y < 100) : wrap64 (wrap64 (x * D) + y) = x * D + y := by
  rw [wrMul hx hD]
  have h := mul_small2 hx hD
  generalize x * D = p at h
  unfold wrap64; omega
theorem wq0 : wrap64 (0 + 1) = 1 := by unfold wrap64; omega
theorem wq1 : wrap64 (1 + 1) = 2 := by unfold wrap64; omega
theorem wq2 : wrap64 (2 + 1) = 3 := by unfold wrap64; omega
theorem wq3 : wrap64 (3 + 1) = 4 := by unfold wrap64; omega
def Sm (x : STile) : Prop := (0 ≤ x.f0 ∧ x.f0 < 100) ∧ (0 ≤ x.f1 ∧ x.f1 < 100) ∧ (0 ≤ x.f2 ∧ x.f2 < 100) ∧ (0 ≤ x.f3 ∧ x.f3 < 100)
theorem sm_tiles {C : Int} {l : List STile} (h : isS C (l.map toT) = true) : ∀ x ∈ l, Sm x := by
  intro x hx
  have h1 := isS_lens h
  have := isS_cols h (toT x) (List.mem_map_of_mem hx)
  simp only [toT] at this
  unfold Sm
  omega
def restP (D : Int) (l u : List STile) (m : Nat) : List T4 := prodL D ((l.drop m).map toT) (u.map toT)
theorem restP_step {D : Int} {l u : List STile} {m : Nat} (h : m < l.length) : restP D l u m = (u.map toT).map (prodT D (toT l[m])) ++ restP D l u (m + 1) := by
  unfold restP prodL
  rw [List.drop_eq_getElem_cons h, List.map_cons, List.flatMap_cons]
theorem restP_end {D : Int} {l u : List STile} {m : Nat} (h : l.length ≤ m) : restP D l u m = [] := by
  unfold restP prodL
  rw [List.drop_of_length_le h]; rfl
theorem row_step {D : Int} {u : List STile} {j : Nat} (t : T4) (h : j < u.length) (acc : List STile) (r : List T4) :
    acc.map toT ++ (((u.drop j).map toT).map (prodT D t) ++ r) = (acc ++ [toS (prodT D t (toT u[j]))]).map toT ++ (((u.drop (j + 1)).map toT).map (prodT D t) ++ r) := by
  rw [List.drop_eq_getElem_cons h]
  simp only [List.map_cons, List.map_append, List.map_nil, List.append_assoc, List.cons_append, List.nil_append, toT_toS]
theorem specProd_row (C : Int) (l : List STile) (D : Int) (u : List STile) (hl : l.length ≤ 16) (hu : u.length ≤ 16) (hD : 0 ≤ D ∧ D < 100) (ht : ∀ x ∈ l, Sm x) (hs : ∀ x ∈ u, Sm x) (m : Nat) (hm : m < l.length) (G : List T4 → Int × List STile)
    (hR : ∀ acc : List STile, acc.length ≤ 16 * (m + 1) → Ev (fun k => spec_l01Product.l0 k acc ((m + 1 : Nat) : Int) C l D u) (G (acc.map toT ++ restP D l u (m + 1)))) :
    ∀ e j (acc : List STile), j + e = u.length → acc.length ≤ 16 * m + j → Ev (fun k => spec_l01Product.l1 k acc (m : Int) (j : Int) C l D u) (G (acc.map toT ++ (((u.drop j).map toT).map (prodT D (toT l[m])) ++ restP D l u (m + 1)))) := by
  have m1 : (0 : Int) ≤ (m : Int) := Int.natCast_nonneg m
  have m2 : (m : Int) < (l.length : Int) := by omega
  have m9 : m < 1000000000 := by omega
  intro e
  induction e with
  | zero =>
    intro j acc hj ha
    have b1 : ¬ (j : Int) < (u.length : Int) := by omega
    rw [List.drop_of_length_le (by omega), List.map_nil, List.map_nil, List.nil_append]
    exact Ev.step (fun k => by rw [spec_l01Product.l1, if_neg b1, wrap_succ m m9]) (hR acc (by omega))
  | succ e ih =>
    intro j acc hj ha
    have hlt : j < u.length := by omega
    have j1 : (0 : Int) ≤ (j : Int) := Int.natCast_nonneg j
    have j2 : (j : Int) < (u.length : Int) := by omega
    have j9 : j < 1000000000 := by omega
    have b3 : acc.length < 4398046511104 := by omega
    obtain ⟨xa, xb, xc, xd⟩ := ht _ (List.getElem_mem hm)
    obtain ⟨ya, yb, yc, yd⟩ := hs _ (List.getElem_mem hlt)
    have hi := ih (j + 1) (acc ++ [toS (prodT D (toT l[m]) (toT u[j]))]) (by omega) (by rw [List.length_append, List.length_singleton]; omega)
    rw [row_step (toT l[m]) hlt acc]
    have s0 : ∀ k (a b c d : Int), spec_l01Product.l2 (k + 1) acc (m : Int) (j : Int) 0 C l D u a b c d = spec_l01Product.l2 k acc (m : Int) (j : Int) 1 C l D u (l[m].f0 * D + u[j].f0) b c d := fun k a b c d => by
      rw [spec_l01Product.l2, if_pos (by decide), if_pos m1, if_pos m2, if_pos (by decide), if_pos j1, if_pos j2, rdT_get l m hm, rdT_get u j hlt, pwr xa hD ya, wq0]
    have s1 : ∀ k (a b c d : Int), spec_l01Product.l2 (k + 1) acc (m : Int) (j : Int) 1 C l D u a b c d = spec_l01Product.l2 k acc (m : Int) (j : Int) 2 C l D u a (l[m].f1 * D + u[j].f1) c d := fun k a b c d => by
      rw [spec_l01Product.l2, if_pos (by decide), if_pos m1, if_pos m2, if_neg (by decide), if_pos (by decide), if_pos j1, if_pos j2, rdT_get l m hm, rdT_get u j hlt, pwr xb hD yb, wq1]
    have s2 : ∀ k (a b c d : Int), spec_l01Product.l2 (k + 1) acc (m : Int) (j : Int) 2 C l D u a b c d = spec_l01Product.l2 k acc (m : Int) (j : Int) 3 C l D u a b (l[m].f2 * D + u[j].f2) d := fun k a b c d => by
      rw [spec_l01Product.l2, if_pos (by decide), if_pos m1, if_pos m2, if_neg (by decide), if_neg (by decide), if_pos (by decide), if_pos j1, if_pos j2, rdT_get l m hm, rdT_get u j hlt, pwr xc hD yc, wq2]
    have s3 : ∀ k (a b c d : Int), spec_l01Product.l2 (k + 1) acc (m : Int) (j : Int) 3 C l D u a b c d = spec_l01Product.l2 k acc (m : Int) (j : Int) 4 C l D u a b c (l[m].f3 * D + u[j].f3) := fun k a b c d => by
      rw [spec_l01Product.l2, if_pos (by decide), if_pos m1, if_pos m2, if_neg (by decide), if_neg (by decide), if_neg (by decide), if_pos (by decide), if_pos j1, if_pos j2, rdT_get l m hm, rdT_get u j hlt, pwr xd hD yd, wq3]
    have s4 : ∀ k (a b c d : Int), spec_l01Product.l2 (k + 1) acc (m : Int) (j : Int) 4 C l D u a b c d = spec_l01Product.l1 k (acc ++ [⟨a, b, c, d⟩]) (m : Int) ((j + 1 : Nat) : Int) C l D u := fun k a b c d => by
      rw [spec_l01Product.l2, if_neg (by decide), if_pos b3, wrap_succ j j9]
    refine Ev.step (f := fun k => spec_l01Product.l2 k acc (m : Int) (j : Int) 0 C l D u 0 0 0 0) (fun k => by rw [spec_l01Product.l1, if_pos j2]) ?_
    exact Ev.step (fun k => s0 k _ _ _ _) (Ev.step (fun k => s1 k _ _ _ _) (Ev.step (fun k => s2 k _ _ _ _) (Ev.step (fun k => s3 k _ _ _ _) (Ev.step (fun k => s4 k _ _ _ _) hi))))
theorem specProd_l0 (C : Int) (l : List STile) (D : Int) (u : List STile) (hl : l.length ≤ 16) (hu : u.length ≤ 16) (hC : 0 ≤ C ∧ C < 100) (hD : 0 ≤ D ∧ D < 100) (ht : ∀ x ∈ l, Sm x) (hs : ∀ x ∈ u, Sm x) : ∀ d m (acc : List STile), m + d = l.length → acc.length ≤ 16 * m →
    Ev (fun k => spec_l01Product.l0 k acc (m : Int) C l D u) (C * D, (sortT (acc.map toT ++ restP D l u m)).map toS) := by
  intro d
  induction d with
  | zero =>
    intro m acc hm ha
    have b1 : ¬ (m : Int) < (l.length : Int) := by omega
    refine Ev.step (fun k => ?_) (Ev.now _)
    rw [spec_l01Product.l0, if_neg b1, wrMul hC hD, specMade_f _ acc (by omega), restP_end (by omega), List.append_nil]; rfl
  | succ d ih =>
    intro m acc hm ha
    have b1 : (m : Int) < (l.length : Int) := by omega
    have h := specProd_row C l D u hl hu hD ht hs m (by omega) (fun z => (C * D, (sortT z).map toS)) (fun acc ha => ih (m + 1) acc (by omega) ha) u.length 0 acc (by omega) (by omega)
    rw [List.drop_zero, ← restP_step (by omega)] at h
    exact Ev.step (fun k => by rw [spec_l01Product.l0, if_pos b1]; rfl) h
theorem specProd_ev (C : Int) (l : List STile) (D : Int) (u : List STile) (hl : l.length ≤ 35184372088832) (hu : u.length ≤ 35184372088832) : Ev (fun k => spec_ProductOfSets.f k C l D u) (flat (prodR C (l.map toT) D (u.map toT))) := by
  have hin : inLim l.length = true := by simpa [inLim] using hl
  have hin2 : inLim u.length = true := by simpa [inLim] using hu
  have e1 : spec_l01Is.f C l = some (isS C (l.map toT)) := by rw [spec_l01Is.f, if_pos hin]
  have e2 : spec_l01Is.f D u = some (isS D (u.map toT)) := by rw [spec_l01Is.f, if_pos hin2]
  have hf : Ev (fun k => spec_ProductOfSets.j0 k true C l D u) (0, ([] : List STile), 1) := Ev.step (f := fun _ => some _) (fun k => by rw [spec_ProductOfSets.j0, if_pos rfl]) (Ev.now _)
  unfold prodR
  cases h1 : isS C (l.map toT)
  · exact Ev.congr (fun k => by rw [spec_ProductOfSets.f, e1, h1]; rfl) hf
  · cases h2 : isS D (u.map toT)
    · exact Ev.congr (fun k => by rw [spec_ProductOfSets.f, e1, h1, e2, h2]; rfl) hf
    · have a1 := isS_lens h1
      have a2 := isS_lens h2
      rw [List.length_map] at a1 a2
      have h := specProd_l0 C l D u (by omega) (by omega) (by omega) (by omega) (sm_tiles h1) (sm_tiles h2) l.length 0 [] (by omega) (by simp)
      rw [List.map_nil, List.nil_append] at h
      have hr : restP D l u 0 = prodL D (l.map toT) (u.map toT) := by unfold restP; rw [List.drop_zero]
      rw [hr] at h
      refine Ev.congr (f := fun k => spec_ProductOfSets.j0 k false C l D u) (fun k => by rw [spec_ProductOfSets.f, e1, h1, e2, h2]; rfl) ?_
      refine Ev.step (f := fun k => (spec_l01Product.f k C l D u).bind fun b => (spec_l01Told.f b.1 b.2).bind fun c => some (c.1, c.2.1, c.2.2)) (fun k => by rw [spec_ProductOfSets.j0, if_neg (by simp)]) ?_
      refine Ev.bind (a := (C * D, (sortT (prodL D (l.map toT) (u.map toT))).map toS)) (Ev.congr (fun k => by rw [spec_l01Product.f]; rfl) h) ?_
      refine Ev.congr (fun k => ?_) (Ev.now _)
      rw [told_f]; rfl
theorem implProd_row (C : Int) (l : List STile) (D : Int) (u : List STile) (hl : l.length ≤ 16) (hu : u.length ≤ 16) (hD : 0 ≤ D ∧ D < 100) (ht : ∀ x ∈ l, Sm x) (hs : ∀ x ∈ u, Sm x) (m : Nat) (hm : m < l.length) (G : List T4 → Int × List STile × Int)
    (hR : ∀ acc : List STile, acc.length ≤ 16 * (m + 1) → Ev (fun k => impl_ProductOfSets.l0 k acc l (l.length : Int) ((m + 1 : Nat) : Int) C l D u) (G (acc.map toT ++ restP D l u (m + 1)))) :
    ∀ e j (acc : List STile), j + e = u.length → acc.length ≤ 16 * m + j → Ev (fun k => impl_ProductOfSets.l1 k acc l (l.length : Int) (m : Int) u (u.length : Int) (j : Int) C l D u l[m].f0 l[m].f1 l[m].f2 l[m].f3) (G (acc.map toT ++ (((u.drop j).map toT).map (prodT D (toT l[m])) ++ restP D l u (m + 1)))) := by
  have m1 : (0 : Int) ≤ (m : Int) := Int.natCast_nonneg m
  have m2 : (m : Int) < (l.length : Int) := by omega
  have m9 : m < 1000000000 := by omega
  intro e
  induction e with
  | zero =>
    intro j acc hj ha
    have b1 : ¬ (j : Int) < (u.length : Int) := by omega
    rw [List.drop_of_length_le (by omega), List.map_nil, List.map_nil, List.nil_append]
    exact Ev.step (fun k => by rw [impl_ProductOfSets.l1, if_neg b1, wrap_succ m m9]) (hR acc (by omega))
  | succ e ih =>
    intro j acc hj ha
    have hlt : j < u.length := by omega
    have j1 : (0 : Int) ≤ (j : Int) := Int.natCast_nonneg j
    have j2 : (j : Int) < (u.length : Int) := by omega
    have j9 : j < 1000000000 := by omega
    have b3 : acc.length < 4398046511104 := by omega
    obtain ⟨xa, xb, xc, xd⟩ := ht _ (List.getElem_mem hm)
    obtain ⟨ya, yb, yc, yd⟩ := hs _ (List.getElem_mem hlt)
    have hi := ih (j + 1) (acc ++ [toS (prodT D (toT l[m]) (toT u[j]))]) (by omega) (by rw [List.length_append, List.length_singleton]; omega)
    rw [row_step (toT l[m]) hlt acc]
    have s0 : ∀ k (a b c d : Int), impl_ProductOfSets.l2 (k + 1) acc l (l.length : Int) (m : Int) u (u.length : Int) (j : Int) 0 C l D u l[m].f0 l[m].f1 l[m].f2 l[m].f3 u[j].f0 u[j].f1 u[j].f2 u[j].f3 a b c d = impl_ProductOfSets.l2 k acc l (l.length : Int) (m : Int) u (u.length : Int) (j : Int) 1 C l D u l[m].f0 l[m].f1 l[m].f2 l[m].f3 u[j].f0 u[j].f1 u[j].f2 u[j].f3 (l[m].f0 * D + u[j].f0) b c d := fun k a b c d => by
      rw [impl_ProductOfSets.l2, if_pos (by decide), if_pos (by decide), pwr xa hD ya, wq0]
    have s1 : ∀ k (a b c d : Int), impl_ProductOfSets.l2 (k + 1) acc l (l.length : Int) (m : Int) u (u.length : Int) (j : Int) 1 C l D u l[m].f0 l[m].f1 l[m].f2 l[m].f3 u[j].f0 u[j].f1 u[j].f2 u[j].f3 a b c d = impl_ProductOfSets.l2 k acc l (l.length : Int) (m : Int) u (u.length : Int) (j : Int) 2 C l D u l[m].f0 l[m].f1 l[m].f2 l[m].f3 u[j].f0 u[j].f1 u[j].f2 u[j].f3 a (l[m].f1 * D + u[j].f1) c d := fun k a b c d => by
      rw [impl_ProductOfSets.l2, if_pos (by decide), if_neg (by decide), if_pos (by decide), pwr xb hD yb, wq1]
    have s2 : ∀ k (a b c d : Int), impl_ProductOfSets.l2 (k + 1) acc l (l.length : Int) (m : Int) u (u.length : Int) (j : Int) 2 C l D u l[m].f0 l[m].f1 l[m].f2 l[m].f3 u[j].f0 u[j].f1 u[j].f2 u[j].f3 a b c d = impl_ProductOfSets.l2 k acc l (l.length : Int) (m : Int) u (u.length : Int) (j : Int) 3 C l D u l[m].f0 l[m].f1 l[m].f2 l[m].f3 u[j].f0 u[j].f1 u[j].f2 u[j].f3 a b (l[m].f2 * D + u[j].f2) d := fun k a b c d => by
      rw [impl_ProductOfSets.l2, if_pos (by decide), if_neg (by decide), if_neg (by decide), if_pos (by decide), pwr xc hD yc, wq2]
    have s3 : ∀ k (a b c d : Int), impl_ProductOfSets.l2 (k + 1) acc l (l.length : Int) (m : Int) u (u.length : Int) (j : Int) 3 C l D u l[m].f0 l[m].f1 l[m].f2 l[m].f3 u[j].f0 u[j].f1 u[j].f2 u[j].f3 a b c d = impl_ProductOfSets.l2 k acc l (l.length : Int) (m : Int) u (u.length : Int) (j : Int) 4 C l D u l[m].f0 l[m].f1 l[m].f2 l[m].f3 u[j].f0 u[j].f1 u[j].f2 u[j].f3 a b c (l[m].f3 * D + u[j].f3) := fun k a b c d => by
      rw [impl_ProductOfSets.l2, if_pos (by decide), if_neg (by decide), if_neg (by decide), if_neg (by decide), if_pos (by decide), pwr xd hD yd, wq3]
    have s4 : ∀ k (a b c d : Int), impl_ProductOfSets.l2 (k + 1) acc l (l.length : Int) (m : Int) u (u.length : Int) (j : Int) 4 C l D u l[m].f0 l[m].f1 l[m].f2 l[m].f3 u[j].f0 u[j].f1 u[j].f2 u[j].f3 a b c d = impl_ProductOfSets.l1 k (acc ++ [⟨a, b, c, d⟩]) l (l.length : Int) (m : Int) u (u.length : Int) ((j + 1 : Nat) : Int) C l D u l[m].f0 l[m].f1 l[m].f2 l[m].f3 := fun k a b c d => by
      rw [impl_ProductOfSets.l2, if_neg (by decide), if_pos b3, wrap_succ j j9]
    refine Ev.step (f := fun k => impl_ProductOfSets.l2 k acc l (l.length : Int) (m : Int) u (u.length : Int) (j : Int) 0 C l D u l[m].f0 l[m].f1 l[m].f2 l[m].f3 u[j].f0 u[j].f1 u[j].f2 u[j].f3 0 0 0 0) (fun k => by rw [impl_ProductOfSets.l1, if_pos j2, if_pos j1, if_pos j2, rdT_get u j hlt]) ?_
    exact Ev.step (fun k => s0 k _ _ _ _) (Ev.step (fun k => s1 k _ _ _ _) (Ev.step (fun k => s2 k _ _ _ _) (Ev.step (fun k => s3 k _ _ _ _) (Ev.step (fun k => s4 k _ _ _ _) hi))))
theorem implProd_l0 (C : Int) (l : List STile) (D : Int) (u : List STile) (hl : l.length ≤ 16) (hu : u.length ≤ 16) (hC : 0 ≤ C ∧ C < 100) (hD : 0 ≤ D ∧ D < 100) (ht : ∀ x ∈ l, Sm x) (hs : ∀ x ∈ u, Sm x) : ∀ d m (acc : List STile), m + d = l.length → acc.length ≤ 16 * m →
    Ev (fun k => impl_ProductOfSets.l0 k acc l (l.length : Int) (m : Int) C l D u) (flat (limR (C * D) (acc.map toT ++ restP D l u m))) := by
  intro d
  induction d with
  | zero =>
    intro m acc hm ha
    have b1 : ¬ (m : Int) < (l.length : Int) := by omega
    refine Ev.step (fun k => ?_) (Ev.now _)
    rw [impl_ProductOfSets.l0, if_neg b1, wrMul hC hD, limited_f _ acc (by omega), restP_end (by omega), List.append_nil]; rfl
  | succ d ih =>
    intro m acc hm ha
    have b1 : (m : Int) < (l.length : Int) := by omega
    have h := implProd_row C l D u hl hu hD ht hs m (by omega) (fun z => flat (limR (C * D) z)) (fun acc ha => ih (m + 1) acc (by omega) ha) u.length 0 acc (by omega) (by omega)
    rw [List.drop_zero, ← restP_step (by omega)] at h
    exact Ev.step (fun k => by rw [impl_ProductOfSets.l0, if_pos b1, if_pos (Int.natCast_nonneg m), if_pos b1, rdT_get l m (by omega)]; rfl) h
theorem implProd_ev (C : Int) (l : List STile) (D : Int) (u : List STile) (hl : l.length ≤ 35184372088832) (hu : u.length ≤ 35184372088832) : Ev (fun k => impl_ProductOfSets.f k C l D u) (flat (prodR C (l.map toT) D (u.map toT))) := by
  refine Ev.congr (f := fun k => (impl_areSets.f k [(⟨C, l⟩ : SSet), (⟨D, u⟩ : SSet)]).bind fun t => if t = true then impl_ProductOfSets.l0 k [] l (l.length : Int) 0 C l D u else some (0, [], 1)) (fun k => by rw [impl_ProductOfSets.f]) ?_
  refine Ev.bind (areSets_ev C l D u hl hu) ?_
  unfold prodR
  cases h1 : isS C (l.map toT)
  · exact Ev.now _
  · cases h2 : isS D (u.map toT)
    · exact Ev.now _
    · have a1 := isS_lens h1
      have a2 := isS_lens h2
      rw [List.length_map] at a1 a2
      have h := implProd_l0 C l D u (by omega) (by omega) (by omega) (by omega) (sm_tiles h1) (sm_tiles h2) l.length 0 [] (by omega) (by simp)
      rw [List.map_nil, List.nil_append] at h
      have hr : restP D l u 0 = prodL D (l.map toT) (u.map toT) := by unfold restP; rw [List.drop_zero]
      rw [hr] at h
      exact Ev.congr (fun k => if_pos rfl) h
theorem specProductOfSets_any (C : Int) (A : Option Addr) (ts : List T4) (n c : Nat) (D : Int) (A' : Option Addr) (us : List T4) (n' c' : Nat) (w : World) (hn : n = ts.length) (hA : RT w A ts) (hnc : n ≤ c) (hl : n ≤ 35184372088832) (hn' : n' = us.length) (hA' : RT w A' us) (hnc' : n' ≤ c') (hl' : n' ≤ 35184372088832) :
    Calls Try.prog 34 #[.agg #[.int .i64 C, .slice A n c], .agg #[.int .i64 D, .slice A' n' c']] w fun e w' => ∃ v xc xs code, prodR C ts D us = ((xc, xs), code) ∧ e = .returned (.tuple #[.agg #[.int .i64 xc, v], .int .i64 code]) ∧ OW w' w.heap.size w'.heap.size 45 4 v xs.length (tcells xs) ∧ Below w.heap.size w w' := by
  subst hn hn'
  obtain ⟨k, hk⟩ := (specProd_ev C (ts.map toS) D (us.map toS) (by simpa using hl) (by simpa using hl')).rounds
  rw [map_toTS, map_toTS] at hk
  have h := spec_ProductOfSets.calls k C A c (ts.map toS) D A' c' (us.map toS) _ _ _ w (C_of_rt hA (by omega)) (by simpa using hnc) (C_of_rt hA' (by omega)) (by simpa using hnc') hk
  rw [List.length_map, List.length_map] at h
  exact h.mono fun e w' ⟨v, he, hR, hB⟩ => ⟨v, _, _, _, rfl, he, ow_of_RT hR, hB⟩
theorem implProductOfSets_any (C : Int) (A : Option Addr) (ts : List T4) (n c : Nat) (D : Int) (A' : Option Addr) (us : List T4) (n' c' : Nat) (w : World) (hn : n = ts.length) (hA : RT w A ts) (hnc : n ≤ c) (hl : n ≤ 35184372088832) (hn' : n' = us.length) (hA' : RT w A' us) (hnc' : n' ≤ c') (hl' : n' ≤ 35184372088832) :
    Calls Try.prog 35 #[.agg #[.int .i64 C, .slice A n c], .agg #[.int .i64 D, .slice A' n' c']] w fun e w' => ∃ v xc xs code, prodR C ts D us = ((xc, xs), code) ∧ e = .returned (.tuple #[.agg #[.int .i64 xc, v], .int .i64 code]) ∧ OW w' w.heap.size w'.heap.size 45 4 v xs.length (tcells xs) ∧ Below w.heap.size w w' := by
  subst hn hn'
  obtain ⟨k, hk⟩ := (implProd_ev C (ts.map toS) D (us.map toS) (by simpa using hl) (by simpa using hl')).rounds
  rw [map_toTS, map_toTS] at hk
  have h := impl_ProductOfSets.calls k C (fun _ => True) A c (ts.map toS) D (fun _ => True) A' c' (us.map toS) _ _ _ w (V_of_rt hA (by omega) hnc) (V_of_rt hA' (by omega) hnc') hk
  rw [List.length_map, List.length_map] at h
  exact h.mono fun e w' ⟨v, he, hR, hB⟩ => ⟨v, _, _, _, rfl, he, ow_of_RT hR, hB⟩
end Go.Proofs.Ytnjmgmdpkogocaa

/-
  Parts of the proof, in their order: QImplSetIsFilling, QImplIsFilling, PFill, Law1, Law2, Good, GoodE, QSpecIsFilling, QLawsSzInt64S, QLawsSzInt64SS, QLawsToInt64S, QLawsToInt64SS, Law3, LawIsFilling, Open, OpenT.
-/
import Derived.Test.YtgdmflmglkakgaaPk1
import Derived.Deep.RegionHeld3
import Derived.ProofKit
import Derived.OpenShut
import Derived.ShutString
import Derived.ChangeOld
import Derived.SizedLaws
import Derived.ChangeSlices
import Derived.Deep.Slices
namespace Go.Proofs.Ytgdmflmglkakgaa.Q
open Go.RowKit Go.Proofs.YtgdmflmglkakgaaW.PrintWords Go.Proofs.YtgdmflmglkakgaaW.PrintLast Go.Proofs.YtgdmflmglkakgaaW.PrintMore
attribute [local go_sem] max2_int min2_int max_two min_two max_three min_three max_four min_four
set_option linter.unusedVariables false
set_option linter.unusedSimpArgs false
mutual
def impl_Set_isFilling.l0 : Nat → List (List Int) → List (List Int) → Int → Int → Int → List (S63) → Option (Bool)
 | 0, _, _, _, _, _, _ => none
 | k + 1, x1, x9, x10, x11, x137000, x137001 => if x11 < x10 then (if 0 ≤ x11 then (if x11 < (x9.length : Int) then (impl_Set_isFilling.l1 k x1 x11 (rd_L1 x9 x11) x9 x10 x11 (rd_L1 x9 x11) ((rd_L1 x9 x11).length : Int) 0 x137000 x137001) else (none)) else (none)) else (some true)
def impl_Set_isFilling.l1 : Nat → List (List Int) → Int → List Int → List (List Int) → Int → Int → List Int → Int → Int → Int → List (S63) → Option (Bool)
 | 0, _, _, _, _, _, _, _, _, _, _, _ => none
 | k + 1, x1, x5, x6, x9, x10, x11, x16, x17, x18, x137000, x137001 => if x18 < x17 then (if 0 ≤ x18 then (if x18 < (x16.length : Int) then (if x18 > 0 then (if 0 ≤ (wrap64 (x18 - 1)) then (if (wrap64 (x18 - 1)) < (x6.length : Int) then (if 0 ≤ (rd x6 (wrap64 (x18 - 1))) then (if (rd x6 (wrap64 (x18 - 1))) < (x137001.length : Int) then (if 0 ≤ (rd x16 x18) then (if (rd x16 x18) < (x137001.length : Int) then (if ((rd_T63 x137001 (rd x6 (wrap64 (x18 - 1)))).f2) = ((rd_T63 x137001 (rd x16 x18)).f0) then (if x5 > 0 then (if 0 ≤ (wrap64 (x5 - 1)) then (if (wrap64 (x5 - 1)) < (x1.length : Int) then (if x18 < ((rd_L1 x1 (wrap64 (x5 - 1))).length : Int) then (if 0 ≤ (rd (rd_L1 x1 (wrap64 (x5 - 1))) x18) then (if (rd (rd_L1 x1 (wrap64 (x5 - 1))) x18) < (x137001.length : Int) then (if ((rd_T63 x137001 (rd (rd_L1 x1 (wrap64 (x5 - 1))) x18)).f3) = ((rd_T63 x137001 (rd x16 x18)).f1) then (impl_Set_isFilling.l1 k x1 x5 x6 x9 x10 x11 x16 x17 (wrap64 (x18 + 1)) x137000 x137001) else (some false)) else (none)) else (none)) else (none)) else (none)) else (none)) else (impl_Set_isFilling.l1 k x1 x5 x6 x9 x10 x11 x16 x17 (wrap64 (x18 + 1)) x137000 x137001)) else (some false)) else (none)) else (none)) else (none)) else (none)) else (none)) else (none)) else (if x5 > 0 then (if 0 ≤ (wrap64 (x5 - 1)) then (if (wrap64 (x5 - 1)) < (x1.length : Int) then (if x18 < ((rd_L1 x1 (wrap64 (x5 - 1))).length : Int) then (if 0 ≤ (rd (rd_L1 x1 (wrap64 (x5 - 1))) x18) then (if (rd (rd_L1 x1 (wrap64 (x5 - 1))) x18) < (x137001.length : Int) then (if 0 ≤ (rd x16 x18) then (if (rd x16 x18) < (x137001.length : Int) then (if ((rd_T63 x137001 (rd (rd_L1 x1 (wrap64 (x5 - 1))) x18)).f3) = ((rd_T63 x137001 (rd x16 x18)).f1) then (impl_Set_isFilling.l1 k x1 x5 x6 x9 x10 x11 x16 x17 (wrap64 (x18 + 1)) x137000 x137001) else (some false)) else (none)) else (none)) else (none)) else (none)) else (none)) else (none)) else (none)) else (impl_Set_isFilling.l1 k x1 x5 x6 x9 x10 x11 x16 x17 (wrap64 (x18 + 1)) x137000 x137001))) else (none)) else (none)) else (impl_Set_isFilling.l0 k x1 x9 x10 (wrap64 (x11 + 1)) x137000 x137001)
end
def impl_Set_isFilling.f (k : Nat) (a0_0 : Int) (l0_1 : List (S63)) (l1 : List (List Int)) : Option (Bool) := impl_Set_isFilling.l0 k l1 l1 (l1.length : Int) 0 a0_0 l0_1
theorem impl_Set_isFilling.mono_l : ∀ k, (∀ y0 y1 y2 y3 y4 y5, LeO (impl_Set_isFilling.l0 k y0 y1 y2 y3 y4 y5) (impl_Set_isFilling.l0 (k + 1) y0 y1 y2 y3 y4 y5)) ∧ (∀ y0 y1 y2 y3 y4 y5 y6 y7 y8 y9 y10, LeO (impl_Set_isFilling.l1 k y0 y1 y2 y3 y4 y5 y6 y7 y8 y9 y10) (impl_Set_isFilling.l1 (k + 1) y0 y1 y2 y3 y4 y5 y6 y7 y8 y9 y10))
 | 0 => ⟨fun _ _ _ _ _ _ r h => by simp [impl_Set_isFilling.l0] at h, fun _ _ _ _ _ _ _ _ _ _ _ r h => by simp [impl_Set_isFilling.l1] at h⟩
 | k + 1 => by
  obtain ⟨ih0, ih1⟩ := impl_Set_isFilling.mono_l k
  refine ⟨?_, ?_⟩
  ·intro y0 y1 y2 y3 y4 y5
   unfold impl_Set_isFilling.l0
   repeat' first
   | (with_reducible exact ih0 _ _ _ _ _ _)
   | (with_reducible exact ih1 _ _ _ _ _ _ _ _ _ _ _)
   | (with_reducible exact LeO.refl _)
   | (with_reducible exact LeO.none _)
   | (with_reducible refine LeO.ite ?_ ?_)
   | (with_reducible refine LeO.bind ?_ (fun _ => ?_))
   | exact ih0 _ _ _ _ _ _
   | exact ih1 _ _ _ _ _ _ _ _ _ _ _
   | exact LeO.none _
   | refine LeO.ite ?_ ?_
   | refine LeO.bind ?_ (fun _ => ?_)
  ·intro y0 y1 y2 y3 y4 y5 y6 y7 y8 y9 y10
   unfold impl_Set_isFilling.l1
   repeat' first
   | (with_reducible exact ih0 _ _ _ _ _ _)
   | (with_reducible exact ih1 _ _ _ _ _ _ _ _ _ _ _)
   | (with_reducible exact LeO.refl _)
   | (with_reducible exact LeO.none _)
   | (with_reducible refine LeO.ite ?_ ?_)
   | (with_reducible refine LeO.bind ?_ (fun _ => ?_))
   | exact ih0 _ _ _ _ _ _
   | exact ih1 _ _ _ _ _ _ _ _ _ _ _
   | exact LeO.none _
   | refine LeO.ite ?_ ?_
   | refine LeO.bind ?_ (fun _ => ?_)
theorem impl_Set_isFilling.mono : ∀ a0 a1 a2 k, LeO (impl_Set_isFilling.f k a0 a1 a2) (impl_Set_isFilling.f (k + 1) a0 a1 a2) := by
 intro a0 a1 a2 k
 obtain ⟨ih0, ih1⟩ := impl_Set_isFilling.mono_l k
 unfold impl_Set_isFilling.f
 repeat' first
   | (with_reducible exact ih0 _ _ _ _ _ _)
   | (with_reducible exact ih1 _ _ _ _ _ _ _ _ _ _ _)
   | (with_reducible exact LeO.refl _)
   | (with_reducible exact LeO.none _)
   | (with_reducible refine LeO.ite ?_ ?_)
   | (with_reducible refine LeO.bind ?_ (fun _ => ?_))
   | exact ih0 _ _ _ _ _ _
   | exact ih1 _ _ _ _ _ _ _ _ _ _ _
   | exact LeO.none _
   | refine LeO.ite ?_ ?_
   | refine LeO.bind ?_ (fun _ => ?_)
set_option maxHeartbeats 8000000 in
set_option maxRecDepth 100000 in
theorem impl_Set_isFilling.calls (k : Nat) (a0_0 : Int) (A0_1 : Option Addr) (c0_1 : Nat) (l0_1 : List (S63)) (A1 : Option Addr) (c1 : Nat) (l1 : List (List Int)) (r : Bool) (w : World) (hr0_1 : Kd.C k63 w A0_1 l0_1.length l0_1) (hc0_1 : l0_1.length ≤ c0_1) (hr1 : Kd.C (Kd.slice 2 (Kd.int .i64)) w A1 l1.length l1) (hc1 : l1.length ≤ c1) (h : impl_Set_isFilling.f k a0_0 l0_1 l1 = some r) :
  Calls Try.prog 34 #[.agg #[.int .i64 a0_0, .slice A0_1 l0_1.length c0_1], .slice A1 l1.length c1] w fun e w' => e = .returned (.bool r) ∧ Below w.heap.size w w' := by
 have hu32 := Try.underlying32
 have HR0_1 := Aside0.mk hr0_1
 have HC0_1 := Aside0.mk hc0_1
 clear hr0_1 hc0_1
 have HR1 := Aside0.mk hr1
 have HC1 := Aside0.mk hc1
 clear hr1 hc1
 have HB := Aside0.mk (Below.refl w.heap.size w)
 have H : (impl_Set_isFilling.l0 k l1 l1 (l1.length : Int) 0 a0_0 l0_1) = some r := h
 clear h
 have H' := Aside0.mk H
 clear H
 go_enter Try.func34, Try.ntmps34
 go_wp2_with (first | ((with_reducible refine gate_dst (N := 2) rfl ?_); refine box_event ?hg (N := 2) ?hd (cs := #[.int .i64 a0_0, .slice A0_1 l0_1.length c0_1]) (t := 32) ?hr ?_; (case hd => rfl); (case hg => rfl); (case hr => first | (go_simp; done) | (go_simp; rfl)); intro gb136 hg w3 hbox hb; have n0_ := Aside0.mk (below_step (by repeat (first | (with_reducible first | exact HB.out | apply below_alloc | apply pw_below_drewN | apply below_drew1) | exact HB.out)) hb); have n1_ := Aside0.mk (hbox); have n2_ := Aside0.mk ((by rw [hg]; exact (below_size (by repeat (first | (with_reducible first | exact HB.out | apply below_alloc | apply pw_below_drewN | apply below_drew1) | exact HB.out))) : w.heap.size ≤ gb136)); have n3_ := Aside0.mk ((by rw [hg]; exact (below_size (by repeat (first | (with_reducible first | exact HB.out | apply below_alloc | apply pw_below_drewN | apply below_drew1) | exact HB.out))) : w.heap.size ≤ gb136)); clear HB; have HB := n0_; have BK136 := n1_; have GW136 := n2_; have GE136 := n3_; clear n0_ n1_ n2_ n3_; clear hb hbox hg))
 repeat (go_quiet (first | ((with_reducible refine gate_dst (N := 2) rfl ?_); refine box_event ?hg (N := 2) ?hd (cs := #[.int .i64 a0_0, .slice A0_1 l0_1.length c0_1]) (t := 32) ?hr ?_; (case hd => rfl); (case hg => rfl); (case hr => first | (go_simp; done) | (go_simp; rfl)); intro gb136 hg w3 hbox hb; have n0_ := Aside0.mk (below_step (by repeat (first | (with_reducible first | exact HB.out | apply below_alloc | apply pw_below_drewN | apply below_drew1) | exact HB.out)) hb); have n1_ := Aside0.mk (hbox); have n2_ := Aside0.mk ((by rw [hg]; exact (below_size (by repeat (first | (with_reducible first | exact HB.out | apply below_alloc | apply pw_below_drewN | apply below_drew1) | exact HB.out))) : w.heap.size ≤ gb136)); have n3_ := Aside0.mk ((by rw [hg]; exact (below_size (by repeat (first | (with_reducible first | exact HB.out | apply below_alloc | apply pw_below_drewN | apply below_drew1) | exact HB.out))) : w.heap.size ≤ gb136)); clear HB; have HB := n0_; have BK136 := n1_; have GW136 := n2_; have GE136 := n3_; clear n0_ n1_ n2_ n3_; clear hb hbox hg)); try go_wp2_with (first | ((with_reducible refine gate_dst (N := 2) rfl ?_); refine box_event ?hg (N := 2) ?hd (cs := #[.int .i64 a0_0, .slice A0_1 l0_1.length c0_1]) (t := 32) ?hr ?_; (case hd => rfl); (case hg => rfl); (case hr => first | (go_simp; done) | (go_simp; rfl)); intro gb136 hg w3 hbox hb; have n0_ := Aside0.mk (below_step (by repeat (first | (with_reducible first | exact HB.out | apply below_alloc | apply pw_below_drewN | apply below_drew1) | exact HB.out)) hb); have n1_ := Aside0.mk (hbox); have n2_ := Aside0.mk ((by rw [hg]; exact (below_size (by repeat (first | (with_reducible first | exact HB.out | apply below_alloc | apply pw_below_drewN | apply below_drew1) | exact HB.out))) : w.heap.size ≤ gb136)); have n3_ := Aside0.mk ((by rw [hg]; exact (below_size (by repeat (first | (with_reducible first | exact HB.out | apply below_alloc | apply pw_below_drewN | apply below_drew1) | exact HB.out))) : w.heap.size ≤ gb136)); clear HB; have HB := n0_; have BK136 := n1_; have GW136 := n2_; have GE136 := n3_; clear n0_ n1_ n2_ n3_; clear hb hbox hg)))
 go_loopg [11] k (fun kq v11 w' => ∃ (x11_1 : Int), v11 = .int .i64 x11_1 ∧ Aside0 (impl_Set_isFilling.l0 kq l1 l1 (l1.length : Int) x11_1 a0_0 l0_1 = some r) ∧ Aside0 (kq ≤ k) ∧ Aside0 (w'.heap[gb136]? = some (.cells #[.int .i64 a0_0, (.slice A0_1 l0_1.length c0_1)] 32 (0, 0))) ∧ Aside0 (Below w.heap.size w w'))
 case atStart => exact ⟨(0), (by first | rfl | (simp; done) | (simp [*]; done)), H', ⟨Nat.le_refl _⟩, ⟨by (with_reducible repeat (first | refine blk_drewN ?_ _ | refine blk_drew ?_ | refine blk_alloc ?_ _)); exact BK136.out⟩, ⟨by repeat (first | (with_reducible first | exact HB.out | apply below_alloc | apply pw_below_drewN | apply below_drew1 | refine below_set ?_ GE136.out) | exact HB.out)⟩⟩
 case round =>
  clear H'
  try clear c1
  try clear p2
  try clear c3
  obtain ⟨x11_1, rfl, HA, HK1, BK136, HB⟩ := hrel
  cases gk with
  | zero => exact absurd HA.out (by simp [impl_Set_isFilling.l0])
  | succ k1 =>
   have H := HA.out
   clear HA
   simp only [impl_Set_isFilling.l0] at H
   by_cases c4 : x11_1 < (l1.length : Int)
   ·rw [if_pos c4] at H
    have c4b0 : decide (x11_1 < (l1.length : Int)) = true := decide_eq_true c4
    clear c4
    by_cases c5 : 0 ≤ x11_1
    ·rw [if_pos c5] at H
     have c5b0 : decide (0 ≤ x11_1) = true := decide_eq_true c5
     clear c5
     by_cases c6 : x11_1 < (l1.length : Int)
     ·rw [if_pos c6] at H
      have c6b0 : decide (x11_1 < (l1.length : Int)) = true := decide_eq_true c6
      clear c6
      have H' := Aside0.mk H
      clear H
      have p137 : 0 ≤ (x11_1 : Int) := of_decide_eq_true (by first | (with_reducible assumption) | assumption)
      have q137 : x11_1 < (l1.length : Int) := of_decide_eq_true (by first | (with_reducible assumption) | assumption)
      obtain ⟨ad137, A137_0, c137_0, e137, hx137_0, hl137_0, hi137_0⟩ := at_L1 HR1.out x11_1 p137 q137
      cases e137
      replace hx137_0 := (HB.out.cell (World.block_lt_of_cell? w _ hx137_0)).trans hx137_0
      have HR137_0 := Aside0.mk hi137_0
      have HC137_0 := Aside0.mk hl137_0
      clear hi137_0 hl137_0
      replace p137 := eq_true p137
      replace q137 := eq_true q137
      go_wp2
      repeat (go_quiet (fail); try go_wp2)
      go_loopg [18] k1 (fun kq v18 w' => ∃ (x18_2 : Int), v18 = .int .i64 x18_2 ∧ Aside0 (impl_Set_isFilling.l1 kq l1 x11_1 (rd_L1 l1 x11_1) l1 (l1.length : Int) x11_1 (rd_L1 l1 x11_1) ((rd_L1 l1 x11_1).length : Int) x18_2 a0_0 l0_1 = some r) ∧ Aside0 (kq ≤ k1) ∧ Aside0 (w'.heap[gb136]? = some (.cells #[.int .i64 a0_0, (.slice A0_1 l0_1.length c0_1)] 32 (0, 0))) ∧ Aside0 (Below w.heap.size w w'))
      case atStart => exact ⟨(0), (by first | rfl | (simp; done) | (simp [*]; done)), H', ⟨Nat.le_refl _⟩, ⟨by (with_reducible repeat (first | refine blk_drewN ?_ _ | refine blk_drew ?_ | refine blk_alloc ?_ _)); exact BK136.out⟩, ⟨by repeat (first | (with_reducible first | exact HB.out | apply below_alloc | apply pw_below_drewN | apply below_drew1 | refine below_set ?_ GE136.out) | exact HB.out)⟩⟩
      case round =>
       clear H'
       try clear c1
       try clear p1
       try clear q1
       try clear hx1
       try clear p2
       try clear c3
       try clear c4
       try clear c4b0
       try clear c5
       try clear c5b0
       try clear c6
       try clear c6b0
       try clear hx137_0
       try clear p137
       try clear p2
       try clear q137
       obtain ⟨x18_2, rfl, HA, HK2, BK136, HB⟩ := hrel
       cases gk with
       | zero => exact absurd HA.out (by simp [impl_Set_isFilling.l1])
       | succ k2 =>
        have H := HA.out
        clear HA
        simp only [impl_Set_isFilling.l1] at H
        by_cases c7 : x18_2 < ((rd_L1 l1 x11_1).length : Int)
        ·rw [if_pos c7] at H
         have c7b0 : decide (x18_2 < ((rd_L1 l1 x11_1).length : Int)) = true := decide_eq_true c7
         clear c7
         by_cases c8 : 0 ≤ x18_2
         ·rw [if_pos c8] at H
          have c8b0 : decide (0 ≤ x18_2) = true := decide_eq_true c8
          clear c8
          by_cases c9 : x18_2 < ((rd_L1 l1 x11_1).length : Int)
          ·rw [if_pos c9] at H
           have c9b0 : decide (x18_2 < ((rd_L1 l1 x11_1).length : Int)) = true := decide_eq_true c9
           clear c9
           by_cases c10 : x18_2 > 0
           ·rw [if_pos c10] at H
            have c10b0 : decide (0 < x18_2) = true := decide_eq_true c10
            clear c10
            obtain ⟨ji11, hji11⟩ : ∃ j_ : Int, (wrap64 (x18_2 - 1)) = j_ := ⟨_, rfl⟩
            replace H : (if 0 ≤ (ji11) then (if (ji11) < ((rd_L1 l1 x11_1).length : Int) then (if 0 ≤ (rd (rd_L1 l1 x11_1) (ji11)) then (if (rd (rd_L1 l1 x11_1) (ji11)) < (l0_1.length : Int) then (if 0 ≤ (rd (rd_L1 l1 x11_1) x18_2) then (if (rd (rd_L1 l1 x11_1) x18_2) < (l0_1.length : Int) then (if ((rd_T63 l0_1 (rd (rd_L1 l1 x11_1) (ji11))).f2) = ((rd_T63 l0_1 (rd (rd_L1 l1 x11_1) x18_2)).f0) then (if x11_1 > 0 then (if 0 ≤ (wrap64 (x11_1 - 1)) then (if (wrap64 (x11_1 - 1)) < (l1.length : Int) then (if x18_2 < ((rd_L1 l1 (wrap64 (x11_1 - 1))).length : Int) then (if 0 ≤ (rd (rd_L1 l1 (wrap64 (x11_1 - 1))) x18_2) then (if (rd (rd_L1 l1 (wrap64 (x11_1 - 1))) x18_2) < (l0_1.length : Int) then (if ((rd_T63 l0_1 (rd (rd_L1 l1 (wrap64 (x11_1 - 1))) x18_2)).f3) = ((rd_T63 l0_1 (rd (rd_L1 l1 x11_1) x18_2)).f1) then (impl_Set_isFilling.l1 k2 l1 x11_1 (rd_L1 l1 x11_1) l1 (l1.length : Int) x11_1 (rd_L1 l1 x11_1) ((rd_L1 l1 x11_1).length : Int) (wrap64 (x18_2 + 1)) a0_0 l0_1) else (some false)) else (none)) else (none)) else (none)) else (none)) else (none)) else (impl_Set_isFilling.l1 k2 l1 x11_1 (rd_L1 l1 x11_1) l1 (l1.length : Int) x11_1 (rd_L1 l1 x11_1) ((rd_L1 l1 x11_1).length : Int) (wrap64 (x18_2 + 1)) a0_0 l0_1)) else (some false)) else (none)) else (none)) else (none)) else (none)) else (none)) else (none)) = some r := by first | (rw [hji11] at H; exact H) | (simp only [hji11] at H ⊢; exact H)
            have hji11w : (IntKind.i64.wrap (x18_2 - 1)) = ji11 := (i64_w _).trans hji11
            by_cases c12 : 0 ≤ (ji11)
            ·rw [if_pos c12] at H
             have c12b0 : decide (0 ≤ (ji11)) = true := decide_eq_true c12
             clear c12
             by_cases c13 : (ji11) < ((rd_L1 l1 x11_1).length : Int)
             ·rw [if_pos c13] at H
              have c13b0 : decide ((ji11) < ((rd_L1 l1 x11_1).length : Int)) = true := decide_eq_true c13
              clear c13
              by_cases c14 : 0 ≤ (rd (rd_L1 l1 x11_1) (ji11))
              ·rw [if_pos c14] at H
               have c14b0 : decide (0 ≤ (rd (rd_L1 l1 x11_1) (ji11))) = true := decide_eq_true c14
               clear c14
               by_cases c15 : (rd (rd_L1 l1 x11_1) (ji11)) < (l0_1.length : Int)
               ·rw [if_pos c15] at H
                have c15b0 : decide ((rd (rd_L1 l1 x11_1) (ji11)) < (l0_1.length : Int)) = true := decide_eq_true c15
                clear c15
                by_cases c16 : 0 ≤ (rd (rd_L1 l1 x11_1) x18_2)
                ·rw [if_pos c16] at H
                 have c16b0 : decide (0 ≤ (rd (rd_L1 l1 x11_1) x18_2)) = true := decide_eq_true c16
                 clear c16
                 by_cases c17 : (rd (rd_L1 l1 x11_1) x18_2) < (l0_1.length : Int)
                 ·rw [if_pos c17] at H
                  have c17b0 : decide ((rd (rd_L1 l1 x11_1) x18_2) < (l0_1.length : Int)) = true := decide_eq_true c17
                  clear c17
                  by_cases c18 : ((rd_T63 l0_1 (rd (rd_L1 l1 x11_1) (ji11))).f2) = ((rd_T63 l0_1 (rd (rd_L1 l1 x11_1) x18_2)).f0)
                  ·rw [if_pos c18] at H
                   have c18b0 : (((rd_T63 l0_1 (rd (rd_L1 l1 x11_1) (ji11))).f2) == ((rd_T63 l0_1 (rd (rd_L1 l1 x11_1) x18_2)).f0)) = true := beq_iff_eq.mpr c18
                   have c18b1 : (((rd_T63 l0_1 (rd (rd_L1 l1 x11_1) (ji11))).f2) != ((rd_T63 l0_1 (rd (rd_L1 l1 x11_1) x18_2)).f0)) = false := bne_eq_false_iff_eq.mpr c18
                   clear c18
                   by_cases c19 : x11_1 > 0
                   ·rw [if_pos c19] at H
                    have c19b0 : decide (0 < x11_1) = true := decide_eq_true c19
                    clear c19
                    obtain ⟨ji20, hji20⟩ : ∃ j_ : Int, (wrap64 (x11_1 - 1)) = j_ := ⟨_, rfl⟩
                    replace H : (if 0 ≤ (ji20) then (if (ji20) < (l1.length : Int) then (if x18_2 < ((rd_L1 l1 (ji20)).length : Int) then (if 0 ≤ (rd (rd_L1 l1 (ji20)) x18_2) then (if (rd (rd_L1 l1 (ji20)) x18_2) < (l0_1.length : Int) then (if ((rd_T63 l0_1 (rd (rd_L1 l1 (ji20)) x18_2)).f3) = ((rd_T63 l0_1 (rd (rd_L1 l1 x11_1) x18_2)).f1) then (impl_Set_isFilling.l1 k2 l1 x11_1 (rd_L1 l1 x11_1) l1 (l1.length : Int) x11_1 (rd_L1 l1 x11_1) ((rd_L1 l1 x11_1).length : Int) (wrap64 (x18_2 + 1)) a0_0 l0_1) else (some false)) else (none)) else (none)) else (none)) else (none)) else (none)) = some r := by first | (rw [hji20] at H; exact H) | (simp only [hji20] at H ⊢; exact H)
                    have hji20w : (IntKind.i64.wrap (x11_1 - 1)) = ji20 := (i64_w _).trans hji20
                    by_cases c21 : 0 ≤ (ji20)
                    ·rw [if_pos c21] at H
                     have c21b0 : decide (0 ≤ (ji20)) = true := decide_eq_true c21
                     clear c21
                     by_cases c22 : (ji20) < (l1.length : Int)
                     ·rw [if_pos c22] at H
                      have c22b0 : decide ((ji20) < (l1.length : Int)) = true := decide_eq_true c22
                      clear c22
                      by_cases c23 : x18_2 < ((rd_L1 l1 (ji20)).length : Int)
                      ·rw [if_pos c23] at H
                       have c23b0 : decide (x18_2 < ((rd_L1 l1 (ji20)).length : Int)) = true := decide_eq_true c23
                       clear c23
                       by_cases c24 : 0 ≤ (rd (rd_L1 l1 (ji20)) x18_2)
                       ·rw [if_pos c24] at H
                        have c24b0 : decide (0 ≤ (rd (rd_L1 l1 (ji20)) x18_2)) = true := decide_eq_true c24
                        clear c24
                        by_cases c25 : (rd (rd_L1 l1 (ji20)) x18_2) < (l0_1.length : Int)
                        ·rw [if_pos c25] at H
                         have c25b0 : decide ((rd (rd_L1 l1 (ji20)) x18_2) < (l0_1.length : Int)) = true := decide_eq_true c25
                         clear c25
                         by_cases c26 : ((rd_T63 l0_1 (rd (rd_L1 l1 (ji20)) x18_2)).f3) = ((rd_T63 l0_1 (rd (rd_L1 l1 x11_1) x18_2)).f1)
                         ·rw [if_pos c26] at H
                          have c26b0 : (((rd_T63 l0_1 (rd (rd_L1 l1 (ji20)) x18_2)).f3) == ((rd_T63 l0_1 (rd (rd_L1 l1 x11_1) x18_2)).f1)) = true := beq_iff_eq.mpr c26
                          have c26b1 : (((rd_T63 l0_1 (rd (rd_L1 l1 (ji20)) x18_2)).f3) != ((rd_T63 l0_1 (rd (rd_L1 l1 x11_1) x18_2)).f1)) = false := bne_eq_false_iff_eq.mpr c26
                          clear c26
                          have H' := Aside0.mk H
                          clear H
                          have p138 : 0 ≤ (x18_2 : Int) := of_decide_eq_true (by first | (with_reducible assumption) | assumption)
                          have q138 : x18_2 < ((rd_L1 l1 x11_1).length : Int) := of_decide_eq_true (by first | (with_reducible assumption) | assumption)
                          obtain ⟨ad138, e138, hx138_0⟩ := Kd.at_int HR137_0.out x18_2 p138 q138
                          cases e138
                          replace hx138_0 := (HB.out.cell (World.block_lt_of_cell? w _ hx138_0)).trans hx138_0
                          replace p138 := eq_true p138
                          replace q138 := eq_true q138
                          have hcz27_0 : wr.cell? ⟨gb136, 0, none⟩ = some (.int .i64 a0_0) := (blk_cell BK136.out 0).trans rfl
                          have hcz27_1 : wr.cell? ⟨gb136, 1, none⟩ = some (.slice A0_1 l0_1.length c0_1) := (blk_cell BK136.out 1).trans rfl
                          have hfz27_0 := blk_frozen BK136.out 0
                          have hfz27_1 := blk_frozen BK136.out 1
                          have p139 : 0 ≤ ((ji11) : Int) := of_decide_eq_true (by first | (with_reducible assumption) | assumption)
                          have q139 : (ji11) < ((rd_L1 l1 x11_1).length : Int) := of_decide_eq_true (by first | (with_reducible assumption) | assumption)
                          obtain ⟨ad139, e139, hx139_0⟩ := Kd.at_int HR137_0.out (ji11) p139 q139
                          obtain rfl : ad138 = ad139 := (by injection e139)
                          replace hx139_0 := (HB.out.cell (World.block_lt_of_cell? w _ hx139_0)).trans hx139_0
                          replace p139 := eq_true p139
                          replace q139 := eq_true q139
                          have p140 : 0 ≤ ((rd (rd_L1 l1 x11_1) (ji11)) : Int) := of_decide_eq_true (by first | (with_reducible assumption) | assumption)
                          have q140 : (rd (rd_L1 l1 x11_1) (ji11)) < (l0_1.length : Int) := of_decide_eq_true (by first | (with_reducible assumption) | assumption)
                          obtain ⟨ad140, e140, hx140_0, hx140_1, hx140_2, hx140_3⟩ := at_T63 HR0_1.out (rd (rd_L1 l1 x11_1) (ji11)) p140 q140
                          cases e140
                          replace hx140_0 := (HB.out.cell (World.block_lt_of_cell? w _ hx140_0)).trans hx140_0
                          replace hx140_1 := (HB.out.cell (World.block_lt_of_cell? w _ hx140_1)).trans hx140_1
                          replace hx140_2 := (HB.out.cell (World.block_lt_of_cell? w _ hx140_2)).trans hx140_2
                          replace hx140_3 := (HB.out.cell (World.block_lt_of_cell? w _ hx140_3)).trans hx140_3
                          replace p140 := eq_true p140
                          replace q140 := eq_true q140
                          have p141 : 0 ≤ ((rd (rd_L1 l1 x11_1) x18_2) : Int) := of_decide_eq_true (by first | (with_reducible assumption) | assumption)
                          have q141 : (rd (rd_L1 l1 x11_1) x18_2) < (l0_1.length : Int) := of_decide_eq_true (by first | (with_reducible assumption) | assumption)
                          obtain ⟨ad141, e141, hx141_0, hx141_1, hx141_2, hx141_3⟩ := at_T63 HR0_1.out (rd (rd_L1 l1 x11_1) x18_2) p141 q141
                          obtain rfl : ad140 = ad141 := (by injection e141)
                          replace hx141_0 := (HB.out.cell (World.block_lt_of_cell? w _ hx141_0)).trans hx141_0
                          replace hx141_1 := (HB.out.cell (World.block_lt_of_cell? w _ hx141_1)).trans hx141_1
                          replace hx141_2 := (HB.out.cell (World.block_lt_of_cell? w _ hx141_2)).trans hx141_2
                          replace hx141_3 := (HB.out.cell (World.block_lt_of_cell? w _ hx141_3)).trans hx141_3
                          replace p141 := eq_true p141
                          replace q141 := eq_true q141
                          have p142 : 0 ≤ ((ji20) : Int) := of_decide_eq_true (by first | (with_reducible assumption) | assumption)
                          have q142 : (ji20) < (l1.length : Int) := of_decide_eq_true (by first | (with_reducible assumption) | assumption)
                          obtain ⟨ad142, A142_0, c142_0, e142, hx142_0, hl142_0, hi142_0⟩ := at_L1 HR1.out (ji20) p142 q142
                          obtain rfl : ad137 = ad142 := (by injection e142)
                          replace hx142_0 := (HB.out.cell (World.block_lt_of_cell? w _ hx142_0)).trans hx142_0
                          have HR142_0 := Aside0.mk hi142_0
                          have HC142_0 := Aside0.mk hl142_0
                          clear hi142_0 hl142_0
                          replace p142 := eq_true p142
                          replace q142 := eq_true q142
                          have p143 : 0 ≤ (x18_2 : Int) := of_decide_eq_true (by first | (with_reducible assumption) | assumption)
                          have q143 : x18_2 < ((rd_L1 l1 (ji20)).length : Int) := of_decide_eq_true (by first | (with_reducible assumption) | assumption)
                          obtain ⟨ad143, e143, hx143_0⟩ := Kd.at_int HR142_0.out x18_2 p143 q143
                          cases e143
                          replace hx143_0 := (HB.out.cell (World.block_lt_of_cell? w _ hx143_0)).trans hx143_0
                          replace p143 := eq_true p143
                          replace q143 := eq_true q143
                          have p144 : 0 ≤ ((rd (rd_L1 l1 (ji20)) x18_2) : Int) := of_decide_eq_true (by first | (with_reducible assumption) | assumption)
                          have q144 : (rd (rd_L1 l1 (ji20)) x18_2) < (l0_1.length : Int) := of_decide_eq_true (by first | (with_reducible assumption) | assumption)
                          obtain ⟨ad144, e144, hx144_0, hx144_1, hx144_2, hx144_3⟩ := at_T63 HR0_1.out (rd (rd_L1 l1 (ji20)) x18_2) p144 q144
                          obtain rfl : ad140 = ad144 := (by injection e144)
                          replace hx144_0 := (HB.out.cell (World.block_lt_of_cell? w _ hx144_0)).trans hx144_0
                          replace hx144_1 := (HB.out.cell (World.block_lt_of_cell? w _ hx144_1)).trans hx144_1
                          replace hx144_2 := (HB.out.cell (World.block_lt_of_cell? w _ hx144_2)).trans hx144_2
                          replace hx144_3 := (HB.out.cell (World.block_lt_of_cell? w _ hx144_3)).trans hx144_3
                          replace p144 := eq_true p144
                          replace q144 := eq_true q144
                          have p145 : 0 ≤ ((rd (rd_L1 l1 x11_1) x18_2) : Int) := of_decide_eq_true (by first | (with_reducible assumption) | assumption)
                          have q145 : (rd (rd_L1 l1 x11_1) x18_2) < (l0_1.length : Int) := of_decide_eq_true (by first | (with_reducible assumption) | assumption)
                          obtain ⟨ad145, e145, hx145_0, hx145_1, hx145_2, hx145_3⟩ := at_T63 HR0_1.out (rd (rd_L1 l1 x11_1) x18_2) p145 q145
                          obtain rfl : ad140 = ad145 := (by injection e145)
                          replace hx145_0 := (HB.out.cell (World.block_lt_of_cell? w _ hx145_0)).trans hx145_0
                          replace hx145_1 := (HB.out.cell (World.block_lt_of_cell? w _ hx145_1)).trans hx145_1
                          replace hx145_2 := (HB.out.cell (World.block_lt_of_cell? w _ hx145_2)).trans hx145_2
                          replace hx145_3 := (HB.out.cell (World.block_lt_of_cell? w _ hx145_3)).trans hx145_3
                          replace p145 := eq_true p145
                          replace q145 := eq_true q145
                          go_wp2
                          repeat (go_quiet (fail); try go_wp2)
                          go_roundg k2
                          case measure => have := HK1.out; have := HK2.out; omega
                          case rel => exact ⟨(wrap64 (x18_2 + 1)), (by first | rfl | (simp; done) | (simp [*]; done)), H', ⟨by have := HK1.out; have := HK2.out; omega⟩, ⟨by (with_reducible repeat (first | refine blk_drewN ?_ _ | refine blk_drew ?_ | refine blk_alloc ?_ _)); exact BK136.out⟩, ⟨by repeat (first | (with_reducible first | exact HB.out | apply below_alloc | apply pw_below_drewN | apply below_drew1 | refine below_set ?_ GE136.out) | exact HB.out)⟩⟩
                         ·rw [if_neg c26] at H
                          have c26b0 : (((rd_T63 l0_1 (rd (rd_L1 l1 (ji20)) x18_2)).f3) == ((rd_T63 l0_1 (rd (rd_L1 l1 x11_1) x18_2)).f1)) = false := beq_eq_false_iff_ne.mpr c26
                          have c26b1 : (((rd_T63 l0_1 (rd (rd_L1 l1 (ji20)) x18_2)).f3) != ((rd_T63 l0_1 (rd (rd_L1 l1 x11_1) x18_2)).f1)) = true := bne_iff_ne.mpr c26
                          obtain rfl := Option.some.inj H
                          have p138 : 0 ≤ (x18_2 : Int) := of_decide_eq_true (by first | (with_reducible assumption) | assumption)
                          have q138 : x18_2 < ((rd_L1 l1 x11_1).length : Int) := of_decide_eq_true (by first | (with_reducible assumption) | assumption)
                          obtain ⟨ad138, e138, hx138_0⟩ := Kd.at_int HR137_0.out x18_2 p138 q138
                          cases e138
                          replace hx138_0 := (HB.out.cell (World.block_lt_of_cell? w _ hx138_0)).trans hx138_0
                          replace p138 := eq_true p138
                          replace q138 := eq_true q138
                          have hcz28_0 : wr.cell? ⟨gb136, 0, none⟩ = some (.int .i64 a0_0) := (blk_cell BK136.out 0).trans rfl
                          have hcz28_1 : wr.cell? ⟨gb136, 1, none⟩ = some (.slice A0_1 l0_1.length c0_1) := (blk_cell BK136.out 1).trans rfl
                          have hfz28_0 := blk_frozen BK136.out 0
                          have hfz28_1 := blk_frozen BK136.out 1
                          have p139 : 0 ≤ ((ji11) : Int) := of_decide_eq_true (by first | (with_reducible assumption) | assumption)
                          have q139 : (ji11) < ((rd_L1 l1 x11_1).length : Int) := of_decide_eq_true (by first | (with_reducible assumption) | assumption)
                          obtain ⟨ad139, e139, hx139_0⟩ := Kd.at_int HR137_0.out (ji11) p139 q139
                          obtain rfl : ad138 = ad139 := (by injection e139)
                          replace hx139_0 := (HB.out.cell (World.block_lt_of_cell? w _ hx139_0)).trans hx139_0
                          replace p139 := eq_true p139
                          replace q139 := eq_true q139
                          have p140 : 0 ≤ ((rd (rd_L1 l1 x11_1) (ji11)) : Int) := of_decide_eq_true (by first | (with_reducible assumption) | assumption)
                          have q140 : (rd (rd_L1 l1 x11_1) (ji11)) < (l0_1.length : Int) := of_decide_eq_true (by first | (with_reducible assumption) | assumption)
                          obtain ⟨ad140, e140, hx140_0, hx140_1, hx140_2, hx140_3⟩ := at_T63 HR0_1.out (rd (rd_L1 l1 x11_1) (ji11)) p140 q140
                          cases e140
                          replace hx140_0 := (HB.out.cell (World.block_lt_of_cell? w _ hx140_0)).trans hx140_0
                          replace hx140_1 := (HB.out.cell (World.block_lt_of_cell? w _ hx140_1)).trans hx140_1
                          replace hx140_2 := (HB.out.cell (World.block_lt_of_cell? w _ hx140_2)).trans hx140_2
                          replace hx140_3 := (HB.out.cell (World.block_lt_of_cell? w _ hx140_3)).trans hx140_3
                          replace p140 := eq_true p140
                          replace q140 := eq_true q140
                          have p141 : 0 ≤ ((rd (rd_L1 l1 x11_1) x18_2) : Int) := of_decide_eq_true (by first | (with_reducible assumption) | assumption)
                          have q141 : (rd (rd_L1 l1 x11_1) x18_2) < (l0_1.length : Int) := of_decide_eq_true (by first | (with_reducible assumption) | assumption)
                          obtain ⟨ad141, e141, hx141_0, hx141_1, hx141_2, hx141_3⟩ := at_T63 HR0_1.out (rd (rd_L1 l1 x11_1) x18_2) p141 q141
                          obtain rfl : ad140 = ad141 := (by injection e141)
                          replace hx141_0 := (HB.out.cell (World.block_lt_of_cell? w _ hx141_0)).trans hx141_0
                          replace hx141_1 := (HB.out.cell (World.block_lt_of_cell? w _ hx141_1)).trans hx141_1
                          replace hx141_2 := (HB.out.cell (World.block_lt_of_cell? w _ hx141_2)).trans hx141_2
                          replace hx141_3 := (HB.out.cell (World.block_lt_of_cell? w _ hx141_3)).trans hx141_3
                          replace p141 := eq_true p141
                          replace q141 := eq_true q141
                          have p142 : 0 ≤ ((ji20) : Int) := of_decide_eq_true (by first | (with_reducible assumption) | assumption)
                          have q142 : (ji20) < (l1.length : Int) := of_decide_eq_true (by first | (with_reducible assumption) | assumption)
                          obtain ⟨ad142, A142_0, c142_0, e142, hx142_0, hl142_0, hi142_0⟩ := at_L1 HR1.out (ji20) p142 q142
                          obtain rfl : ad137 = ad142 := (by injection e142)
                          replace hx142_0 := (HB.out.cell (World.block_lt_of_cell? w _ hx142_0)).trans hx142_0
                          have HR142_0 := Aside0.mk hi142_0
                          have HC142_0 := Aside0.mk hl142_0
                          clear hi142_0 hl142_0
                          replace p142 := eq_true p142
                          replace q142 := eq_true q142
                          have p143 : 0 ≤ (x18_2 : Int) := of_decide_eq_true (by first | (with_reducible assumption) | assumption)
                          have q143 : x18_2 < ((rd_L1 l1 (ji20)).length : Int) := of_decide_eq_true (by first | (with_reducible assumption) | assumption)
                          obtain ⟨ad143, e143, hx143_0⟩ := Kd.at_int HR142_0.out x18_2 p143 q143
                          cases e143
                          replace hx143_0 := (HB.out.cell (World.block_lt_of_cell? w _ hx143_0)).trans hx143_0
                          replace p143 := eq_true p143
                          replace q143 := eq_true q143
                          have p144 : 0 ≤ ((rd (rd_L1 l1 (ji20)) x18_2) : Int) := of_decide_eq_true (by first | (with_reducible assumption) | assumption)
                          have q144 : (rd (rd_L1 l1 (ji20)) x18_2) < (l0_1.length : Int) := of_decide_eq_true (by first | (with_reducible assumption) | assumption)
                          obtain ⟨ad144, e144, hx144_0, hx144_1, hx144_2, hx144_3⟩ := at_T63 HR0_1.out (rd (rd_L1 l1 (ji20)) x18_2) p144 q144
                          obtain rfl : ad140 = ad144 := (by injection e144)
                          replace hx144_0 := (HB.out.cell (World.block_lt_of_cell? w _ hx144_0)).trans hx144_0
                          replace hx144_1 := (HB.out.cell (World.block_lt_of_cell? w _ hx144_1)).trans hx144_1
                          replace hx144_2 := (HB.out.cell (World.block_lt_of_cell? w _ hx144_2)).trans hx144_2
                          replace hx144_3 := (HB.out.cell (World.block_lt_of_cell? w _ hx144_3)).trans hx144_3
                          replace p144 := eq_true p144
                          replace q144 := eq_true q144
                          have p145 : 0 ≤ ((rd (rd_L1 l1 x11_1) x18_2) : Int) := of_decide_eq_true (by first | (with_reducible assumption) | assumption)
                          have q145 : (rd (rd_L1 l1 x11_1) x18_2) < (l0_1.length : Int) := of_decide_eq_true (by first | (with_reducible assumption) | assumption)
                          obtain ⟨ad145, e145, hx145_0, hx145_1, hx145_2, hx145_3⟩ := at_T63 HR0_1.out (rd (rd_L1 l1 x11_1) x18_2) p145 q145
                          obtain rfl : ad140 = ad145 := (by injection e145)
                          replace hx145_0 := (HB.out.cell (World.block_lt_of_cell? w _ hx145_0)).trans hx145_0
                          replace hx145_1 := (HB.out.cell (World.block_lt_of_cell? w _ hx145_1)).trans hx145_1
                          replace hx145_2 := (HB.out.cell (World.block_lt_of_cell? w _ hx145_2)).trans hx145_2
                          replace hx145_3 := (HB.out.cell (World.block_lt_of_cell? w _ hx145_3)).trans hx145_3
                          replace p145 := eq_true p145
                          replace q145 := eq_true q145
                          go_wp2
                          repeat (go_quiet (fail); try go_wp2)
                          go_ret
                          exact ⟨by first | rfl | (simp [errW_none, errW_some] <;> rfl) | (simp only [← hji11, ← hji20]; first | rfl | (simp [errW_none, errW_some] <;> rfl)) | (simp [*, errW_none, errW_some] <;> rfl), by repeat (first | (with_reducible first | exact HB.out | apply below_alloc | apply pw_below_drewN | apply below_drew1 | refine below_set ?_ GE136.out) | exact HB.out)⟩
                        ·rw [if_neg c25] at H
                         exact absurd H (by simp)
                       ·rw [if_neg c24] at H
                        exact absurd H (by simp)
                      ·rw [if_neg c23] at H
                       exact absurd H (by simp)
                     ·rw [if_neg c22] at H
                      exact absurd H (by simp)
                    ·rw [if_neg c21] at H
                     exact absurd H (by simp)
                   ·rw [if_neg c19] at H
                    have c19b0 : decide (0 < x11_1) = false := decide_eq_false c19
                    clear c19
                    have H' := Aside0.mk H
                    clear H
                    have p138 : 0 ≤ (x18_2 : Int) := of_decide_eq_true (by first | (with_reducible assumption) | assumption)
                    have q138 : x18_2 < ((rd_L1 l1 x11_1).length : Int) := of_decide_eq_true (by first | (with_reducible assumption) | assumption)
                    obtain ⟨ad138, e138, hx138_0⟩ := Kd.at_int HR137_0.out x18_2 p138 q138
                    cases e138
                    replace hx138_0 := (HB.out.cell (World.block_lt_of_cell? w _ hx138_0)).trans hx138_0
                    replace p138 := eq_true p138
                    replace q138 := eq_true q138
                    have hcz29_0 : wr.cell? ⟨gb136, 0, none⟩ = some (.int .i64 a0_0) := (blk_cell BK136.out 0).trans rfl
                    have hcz29_1 : wr.cell? ⟨gb136, 1, none⟩ = some (.slice A0_1 l0_1.length c0_1) := (blk_cell BK136.out 1).trans rfl
                    have hfz29_0 := blk_frozen BK136.out 0
                    have hfz29_1 := blk_frozen BK136.out 1
                    have p139 : 0 ≤ ((ji11) : Int) := of_decide_eq_true (by first | (with_reducible assumption) | assumption)
                    have q139 : (ji11) < ((rd_L1 l1 x11_1).length : Int) := of_decide_eq_true (by first | (with_reducible assumption) | assumption)
                    obtain ⟨ad139, e139, hx139_0⟩ := Kd.at_int HR137_0.out (ji11) p139 q139
                    obtain rfl : ad138 = ad139 := (by injection e139)
                    replace hx139_0 := (HB.out.cell (World.block_lt_of_cell? w _ hx139_0)).trans hx139_0
                    replace p139 := eq_true p139
                    replace q139 := eq_true q139
                    have p140 : 0 ≤ ((rd (rd_L1 l1 x11_1) (ji11)) : Int) := of_decide_eq_true (by first | (with_reducible assumption) | assumption)
                    have q140 : (rd (rd_L1 l1 x11_1) (ji11)) < (l0_1.length : Int) := of_decide_eq_true (by first | (with_reducible assumption) | assumption)
                    obtain ⟨ad140, e140, hx140_0, hx140_1, hx140_2, hx140_3⟩ := at_T63 HR0_1.out (rd (rd_L1 l1 x11_1) (ji11)) p140 q140
                    cases e140
                    replace hx140_0 := (HB.out.cell (World.block_lt_of_cell? w _ hx140_0)).trans hx140_0
                    replace hx140_1 := (HB.out.cell (World.block_lt_of_cell? w _ hx140_1)).trans hx140_1
                    replace hx140_2 := (HB.out.cell (World.block_lt_of_cell? w _ hx140_2)).trans hx140_2
                    replace hx140_3 := (HB.out.cell (World.block_lt_of_cell? w _ hx140_3)).trans hx140_3
                    replace p140 := eq_true p140
                    replace q140 := eq_true q140
                    have p141 : 0 ≤ ((rd (rd_L1 l1 x11_1) x18_2) : Int) := of_decide_eq_true (by first | (with_reducible assumption) | assumption)
                    have q141 : (rd (rd_L1 l1 x11_1) x18_2) < (l0_1.length : Int) := of_decide_eq_true (by first | (with_reducible assumption) | assumption)
                    obtain ⟨ad141, e141, hx141_0, hx141_1, hx141_2, hx141_3⟩ := at_T63 HR0_1.out (rd (rd_L1 l1 x11_1) x18_2) p141 q141
                    obtain rfl : ad140 = ad141 := (by injection e141)
                    replace hx141_0 := (HB.out.cell (World.block_lt_of_cell? w _ hx141_0)).trans hx141_0
                    replace hx141_1 := (HB.out.cell (World.block_lt_of_cell? w _ hx141_1)).trans hx141_1
                    replace hx141_2 := (HB.out.cell (World.block_lt_of_cell? w _ hx141_2)).trans hx141_2
                    replace hx141_3 := (HB.out.cell (World.block_lt_of_cell? w _ hx141_3)).trans hx141_3
                    replace p141 := eq_true p141
                    replace q141 := eq_true q141
                    go_wp2
                    repeat (go_quiet (fail); try go_wp2)
                    go_roundg k2
                    case measure => have := HK1.out; have := HK2.out; omega
                    case rel => exact ⟨(wrap64 (x18_2 + 1)), (by first | rfl | (simp; done) | (simp [*]; done)), H', ⟨by have := HK1.out; have := HK2.out; omega⟩, ⟨by (with_reducible repeat (first | refine blk_drewN ?_ _ | refine blk_drew ?_ | refine blk_alloc ?_ _)); exact BK136.out⟩, ⟨by repeat (first | (with_reducible first | exact HB.out | apply below_alloc | apply pw_below_drewN | apply below_drew1 | refine below_set ?_ GE136.out) | exact HB.out)⟩⟩
                  ·rw [if_neg c18] at H
                   have c18b0 : (((rd_T63 l0_1 (rd (rd_L1 l1 x11_1) (ji11))).f2) == ((rd_T63 l0_1 (rd (rd_L1 l1 x11_1) x18_2)).f0)) = false := beq_eq_false_iff_ne.mpr c18
                   have c18b1 : (((rd_T63 l0_1 (rd (rd_L1 l1 x11_1) (ji11))).f2) != ((rd_T63 l0_1 (rd (rd_L1 l1 x11_1) x18_2)).f0)) = true := bne_iff_ne.mpr c18
                   obtain rfl := Option.some.inj H
                   have p138 : 0 ≤ (x18_2 : Int) := of_decide_eq_true (by first | (with_reducible assumption) | assumption)
                   have q138 : x18_2 < ((rd_L1 l1 x11_1).length : Int) := of_decide_eq_true (by first | (with_reducible assumption) | assumption)
                   obtain ⟨ad138, e138, hx138_0⟩ := Kd.at_int HR137_0.out x18_2 p138 q138
                   cases e138
                   replace hx138_0 := (HB.out.cell (World.block_lt_of_cell? w _ hx138_0)).trans hx138_0
                   replace p138 := eq_true p138
                   replace q138 := eq_true q138
                   have hcz30_0 : wr.cell? ⟨gb136, 0, none⟩ = some (.int .i64 a0_0) := (blk_cell BK136.out 0).trans rfl
                   have hcz30_1 : wr.cell? ⟨gb136, 1, none⟩ = some (.slice A0_1 l0_1.length c0_1) := (blk_cell BK136.out 1).trans rfl
                   have hfz30_0 := blk_frozen BK136.out 0
                   have hfz30_1 := blk_frozen BK136.out 1
                   have p139 : 0 ≤ ((ji11) : Int) := of_decide_eq_true (by first | (with_reducible assumption) | assumption)
                   have q139 : (ji11) < ((rd_L1 l1 x11_1).length : Int) := of_decide_eq_true (by first | (with_reducible assumption) | assumption)
                   obtain ⟨ad139, e139, hx139_0⟩ := Kd.at_int HR137_0.out (ji11) p139 q139
                   obtain rfl : ad138 = ad139 := (by injection e139)
                   replace hx139_0 := (HB.out.cell (World.block_lt_of_cell? w _ hx139_0)).trans hx139_0
                   replace p139 := eq_true p139
                   replace q139 := eq_true q139
                   have p140 : 0 ≤ ((rd (rd_L1 l1 x11_1) (ji11)) : Int) := of_decide_eq_true (by first | (with_reducible assumption) | assumption)
                   have q140 : (rd (rd_L1 l1 x11_1) (ji11)) < (l0_1.length : Int) := of_decide_eq_true (by first | (with_reducible assumption) | assumption)
                   obtain ⟨ad140, e140, hx140_0, hx140_1, hx140_2, hx140_3⟩ := at_T63 HR0_1.out (rd (rd_L1 l1 x11_1) (ji11)) p140 q140
                   cases e140
                   replace hx140_0 := (HB.out.cell (World.block_lt_of_cell? w _ hx140_0)).trans hx140_0
                   replace hx140_1 := (HB.out.cell (World.block_lt_of_cell? w _ hx140_1)).trans hx140_1
                   replace hx140_2 := (HB.out.cell (World.block_lt_of_cell? w _ hx140_2)).trans hx140_2
                   replace hx140_3 := (HB.out.cell (World.block_lt_of_cell? w _ hx140_3)).trans hx140_3
                   replace p140 := eq_true p140
                   replace q140 := eq_true q140
                   have p141 : 0 ≤ ((rd (rd_L1 l1 x11_1) x18_2) : Int) := of_decide_eq_true (by first | (with_reducible assumption) | assumption)
                   have q141 : (rd (rd_L1 l1 x11_1) x18_2) < (l0_1.length : Int) := of_decide_eq_true (by first | (with_reducible assumption) | assumption)
                   obtain ⟨ad141, e141, hx141_0, hx141_1, hx141_2, hx141_3⟩ := at_T63 HR0_1.out (rd (rd_L1 l1 x11_1) x18_2) p141 q141
                   obtain rfl : ad140 = ad141 := (by injection e141)
                   replace hx141_0 := (HB.out.cell (World.block_lt_of_cell? w _ hx141_0)).trans hx141_0
                   replace hx141_1 := (HB.out.cell (World.block_lt_of_cell? w _ hx141_1)).trans hx141_1
                   replace hx141_2 := (HB.out.cell (World.block_lt_of_cell? w _ hx141_2)).trans hx141_2
                   replace hx141_3 := (HB.out.cell (World.block_lt_of_cell? w _ hx141_3)).trans hx141_3
                   replace p141 := eq_true p141
                   replace q141 := eq_true q141
                   go_wp2
                   repeat (go_quiet (fail); try go_wp2)
                   go_ret
                   exact ⟨by first | rfl | (simp [errW_none, errW_some] <;> rfl) | (simp only [← hji11]; first | rfl | (simp [errW_none, errW_some] <;> rfl)) | (simp [*, errW_none, errW_some] <;> rfl), by repeat (first | (with_reducible first | exact HB.out | apply below_alloc | apply pw_below_drewN | apply below_drew1 | refine below_set ?_ GE136.out) | exact HB.out)⟩
                 ·rw [if_neg c17] at H
                  exact absurd H (by simp)
                ·rw [if_neg c16] at H
                 exact absurd H (by simp)
               ·rw [if_neg c15] at H
                exact absurd H (by simp)
              ·rw [if_neg c14] at H
               exact absurd H (by simp)
             ·rw [if_neg c13] at H
              exact absurd H (by simp)
            ·rw [if_neg c12] at H
             exact absurd H (by simp)
           ·rw [if_neg c10] at H
            have c10b0 : decide (0 < x18_2) = false := decide_eq_false c10
            clear c10
            by_cases c31 : x11_1 > 0
            ·rw [if_pos c31] at H
             have c31b0 : decide (0 < x11_1) = true := decide_eq_true c31
             clear c31
             obtain ⟨ji32, hji32⟩ : ∃ j_ : Int, (wrap64 (x11_1 - 1)) = j_ := ⟨_, rfl⟩
             replace H : (if 0 ≤ (ji32) then (if (ji32) < (l1.length : Int) then (if x18_2 < ((rd_L1 l1 (ji32)).length : Int) then (if 0 ≤ (rd (rd_L1 l1 (ji32)) x18_2) then (if (rd (rd_L1 l1 (ji32)) x18_2) < (l0_1.length : Int) then (if 0 ≤ (rd (rd_L1 l1 x11_1) x18_2) then (if (rd (rd_L1 l1 x11_1) x18_2) < (l0_1.length : Int) then (if ((rd_T63 l0_1 (rd (rd_L1 l1 (ji32)) x18_2)).f3) = ((rd_T63 l0_1 (rd (rd_L1 l1 x11_1) x18_2)).f1) then (impl_Set_isFilling.l1 k2 l1 x11_1 (rd_L1 l1 x11_1) l1 (l1.length : Int) x11_1 (rd_L1 l1 x11_1) ((rd_L1 l1 x11_1).length : Int) (wrap64 (x18_2 + 1)) a0_0 l0_1) else (some false)) else (none)) else (none)) else (none)) else (none)) else (none)) else (none)) else (none)) = some r := by first | (rw [hji32] at H; exact H) | (simp only [hji32] at H ⊢; exact H)
             have hji32w : (IntKind.i64.wrap (x11_1 - 1)) = ji32 := (i64_w _).trans hji32
             by_cases c33 : 0 ≤ (ji32)
             ·rw [if_pos c33] at H
              have c33b0 : decide (0 ≤ (ji32)) = true := decide_eq_true c33
              clear c33
              by_cases c34 : (ji32) < (l1.length : Int)
              ·rw [if_pos c34] at H
               have c34b0 : decide ((ji32) < (l1.length : Int)) = true := decide_eq_true c34
               clear c34
               by_cases c35 : x18_2 < ((rd_L1 l1 (ji32)).length : Int)
               ·rw [if_pos c35] at H
                have c35b0 : decide (x18_2 < ((rd_L1 l1 (ji32)).length : Int)) = true := decide_eq_true c35
                clear c35
                by_cases c36 : 0 ≤ (rd (rd_L1 l1 (ji32)) x18_2)
                ·rw [if_pos c36] at H
                 have c36b0 : decide (0 ≤ (rd (rd_L1 l1 (ji32)) x18_2)) = true := decide_eq_true c36
                 clear c36
                 by_cases c37 : (rd (rd_L1 l1 (ji32)) x18_2) < (l0_1.length : Int)
                 ·rw [if_pos c37] at H
                  have c37b0 : decide ((rd (rd_L1 l1 (ji32)) x18_2) < (l0_1.length : Int)) = true := decide_eq_true c37
                  clear c37
                  by_cases c38 : 0 ≤ (rd (rd_L1 l1 x11_1) x18_2)
                  ·rw [if_pos c38] at H
                   have c38b0 : decide (0 ≤ (rd (rd_L1 l1 x11_1) x18_2)) = true := decide_eq_true c38
                   clear c38
                   by_cases c39 : (rd (rd_L1 l1 x11_1) x18_2) < (l0_1.length : Int)
                   ·rw [if_pos c39] at H
                    have c39b0 : decide ((rd (rd_L1 l1 x11_1) x18_2) < (l0_1.length : Int)) = true := decide_eq_true c39
                    clear c39
                    by_cases c40 : ((rd_T63 l0_1 (rd (rd_L1 l1 (ji32)) x18_2)).f3) = ((rd_T63 l0_1 (rd (rd_L1 l1 x11_1) x18_2)).f1)
                    ·rw [if_pos c40] at H
                     have c40b0 : (((rd_T63 l0_1 (rd (rd_L1 l1 (ji32)) x18_2)).f3) == ((rd_T63 l0_1 (rd (rd_L1 l1 x11_1) x18_2)).f1)) = true := beq_iff_eq.mpr c40
                     have c40b1 : (((rd_T63 l0_1 (rd (rd_L1 l1 (ji32)) x18_2)).f3) != ((rd_T63 l0_1 (rd (rd_L1 l1 x11_1) x18_2)).f1)) = false := bne_eq_false_iff_eq.mpr c40
                     clear c40
                     have H' := Aside0.mk H
                     clear H
                     have p138 : 0 ≤ (x18_2 : Int) := of_decide_eq_true (by first | (with_reducible assumption) | assumption)
                     have q138 : x18_2 < ((rd_L1 l1 x11_1).length : Int) := of_decide_eq_true (by first | (with_reducible assumption) | assumption)
                     obtain ⟨ad138, e138, hx138_0⟩ := Kd.at_int HR137_0.out x18_2 p138 q138
                     cases e138
                     replace hx138_0 := (HB.out.cell (World.block_lt_of_cell? w _ hx138_0)).trans hx138_0
                     replace p138 := eq_true p138
                     replace q138 := eq_true q138
                     have hcz41_0 : wr.cell? ⟨gb136, 0, none⟩ = some (.int .i64 a0_0) := (blk_cell BK136.out 0).trans rfl
                     have hcz41_1 : wr.cell? ⟨gb136, 1, none⟩ = some (.slice A0_1 l0_1.length c0_1) := (blk_cell BK136.out 1).trans rfl
                     have hfz41_0 := blk_frozen BK136.out 0
                     have hfz41_1 := blk_frozen BK136.out 1
                     have p146 : 0 ≤ ((ji32) : Int) := of_decide_eq_true (by first | (with_reducible assumption) | assumption)
                     have q146 : (ji32) < (l1.length : Int) := of_decide_eq_true (by first | (with_reducible assumption) | assumption)
                     obtain ⟨ad146, A146_0, c146_0, e146, hx146_0, hl146_0, hi146_0⟩ := at_L1 HR1.out (ji32) p146 q146
                     obtain rfl : ad137 = ad146 := (by injection e146)
                     replace hx146_0 := (HB.out.cell (World.block_lt_of_cell? w _ hx146_0)).trans hx146_0
                     have HR146_0 := Aside0.mk hi146_0
                     have HC146_0 := Aside0.mk hl146_0
                     clear hi146_0 hl146_0
                     replace p146 := eq_true p146
                     replace q146 := eq_true q146
                     have p147 : 0 ≤ (x18_2 : Int) := of_decide_eq_true (by first | (with_reducible assumption) | assumption)
                     have q147 : x18_2 < ((rd_L1 l1 (ji32)).length : Int) := of_decide_eq_true (by first | (with_reducible assumption) | assumption)
                     obtain ⟨ad147, e147, hx147_0⟩ := Kd.at_int HR146_0.out x18_2 p147 q147
                     cases e147
                     replace hx147_0 := (HB.out.cell (World.block_lt_of_cell? w _ hx147_0)).trans hx147_0
                     replace p147 := eq_true p147
                     replace q147 := eq_true q147
                     have p148 : 0 ≤ ((rd (rd_L1 l1 (ji32)) x18_2) : Int) := of_decide_eq_true (by first | (with_reducible assumption) | assumption)
                     have q148 : (rd (rd_L1 l1 (ji32)) x18_2) < (l0_1.length : Int) := of_decide_eq_true (by first | (with_reducible assumption) | assumption)
                     obtain ⟨ad148, e148, hx148_0, hx148_1, hx148_2, hx148_3⟩ := at_T63 HR0_1.out (rd (rd_L1 l1 (ji32)) x18_2) p148 q148
                     cases e148
                     replace hx148_0 := (HB.out.cell (World.block_lt_of_cell? w _ hx148_0)).trans hx148_0
                     replace hx148_1 := (HB.out.cell (World.block_lt_of_cell? w _ hx148_1)).trans hx148_1
                     replace hx148_2 := (HB.out.cell (World.block_lt_of_cell? w _ hx148_2)).trans hx148_2
                     replace hx148_3 := (HB.out.cell (World.block_lt_of_cell? w _ hx148_3)).trans hx148_3
                     replace p148 := eq_true p148
                     replace q148 := eq_true q148
                     have p149 : 0 ≤ ((rd (rd_L1 l1 x11_1) x18_2) : Int) := of_decide_eq_true (by first | (with_reducible assumption) | assumption)
                     have q149 : (rd (rd_L1 l1 x11_1) x18_2) < (l0_1.length : Int) := of_decide_eq_true (by first | (with_reducible assumption) | assumption)
                     obtain ⟨ad149, e149, hx149_0, hx149_1, hx149_2, hx149_3⟩ := at_T63 HR0_1.out (rd (rd_L1 l1 x11_1) x18_2) p149 q149
                     obtain rfl : ad148 = ad149 := (by injection e149)
                     replace hx149_0 := (HB.out.cell (World.block_lt_of_cell? w _ hx149_0)).trans hx149_0
                     replace hx149_1 := (HB.out.cell (World.block_lt_of_cell? w _ hx149_1)).trans hx149_1
                     replace hx149_2 := (HB.out.cell (World.block_lt_of_cell? w _ hx149_2)).trans hx149_2
                     replace hx149_3 := (HB.out.cell (World.block_lt_of_cell? w _ hx149_3)).trans hx149_3
                     replace p149 := eq_true p149
                     replace q149 := eq_true q149
                     go_wp2
                     repeat (go_quiet (fail); try go_wp2)
                     go_roundg k2
                     case measure => have := HK1.out; have := HK2.out; omega
                     case rel => exact ⟨(wrap64 (x18_2 + 1)), (by first | rfl | (simp; done) | (simp [*]; done)), H', ⟨by have := HK1.out; have := HK2.out; omega⟩, ⟨by (with_reducible repeat (first | refine blk_drewN ?_ _ | refine blk_drew ?_ | refine blk_alloc ?_ _)); exact BK136.out⟩, ⟨by repeat (first | (with_reducible first | exact HB.out | apply below_alloc | apply pw_below_drewN | apply below_drew1 | refine below_set ?_ GE136.out) | exact HB.out)⟩⟩
                    ·rw [if_neg c40] at H
                     have c40b0 : (((rd_T63 l0_1 (rd (rd_L1 l1 (ji32)) x18_2)).f3) == ((rd_T63 l0_1 (rd (rd_L1 l1 x11_1) x18_2)).f1)) = false := beq_eq_false_iff_ne.mpr c40
                     have c40b1 : (((rd_T63 l0_1 (rd (rd_L1 l1 (ji32)) x18_2)).f3) != ((rd_T63 l0_1 (rd (rd_L1 l1 x11_1) x18_2)).f1)) = true := bne_iff_ne.mpr c40
                     obtain rfl := Option.some.inj H
                     have p138 : 0 ≤ (x18_2 : Int) := of_decide_eq_true (by first | (with_reducible assumption) | assumption)
                     have q138 : x18_2 < ((rd_L1 l1 x11_1).length : Int) := of_decide_eq_true (by first | (with_reducible assumption) | assumption)
                     obtain ⟨ad138, e138, hx138_0⟩ := Kd.at_int HR137_0.out x18_2 p138 q138
                     cases e138
                     replace hx138_0 := (HB.out.cell (World.block_lt_of_cell? w _ hx138_0)).trans hx138_0
                     replace p138 := eq_true p138
                     replace q138 := eq_true q138
                     have hcz42_0 : wr.cell? ⟨gb136, 0, none⟩ = some (.int .i64 a0_0) := (blk_cell BK136.out 0).trans rfl
                     have hcz42_1 : wr.cell? ⟨gb136, 1, none⟩ = some (.slice A0_1 l0_1.length c0_1) := (blk_cell BK136.out 1).trans rfl
                     have hfz42_0 := blk_frozen BK136.out 0
                     have hfz42_1 := blk_frozen BK136.out 1
                     have p146 : 0 ≤ ((ji32) : Int) := of_decide_eq_true (by first | (with_reducible assumption) | assumption)
                     have q146 : (ji32) < (l1.length : Int) := of_decide_eq_true (by first | (with_reducible assumption) | assumption)
                     obtain ⟨ad146, A146_0, c146_0, e146, hx146_0, hl146_0, hi146_0⟩ := at_L1 HR1.out (ji32) p146 q146
                     obtain rfl : ad137 = ad146 := (by injection e146)
                     replace hx146_0 := (HB.out.cell (World.block_lt_of_cell? w _ hx146_0)).trans hx146_0
                     have HR146_0 := Aside0.mk hi146_0
                     have HC146_0 := Aside0.mk hl146_0
                     clear hi146_0 hl146_0
                     replace p146 := eq_true p146
                     replace q146 := eq_true q146
                     have p147 : 0 ≤ (x18_2 : Int) := of_decide_eq_true (by first | (with_reducible assumption) | assumption)
                     have q147 : x18_2 < ((rd_L1 l1 (ji32)).length : Int) := of_decide_eq_true (by first | (with_reducible assumption) | assumption)
                     obtain ⟨ad147, e147, hx147_0⟩ := Kd.at_int HR146_0.out x18_2 p147 q147
                     cases e147
                     replace hx147_0 := (HB.out.cell (World.block_lt_of_cell? w _ hx147_0)).trans hx147_0
                     replace p147 := eq_true p147
                     replace q147 := eq_true q147
                     have p148 : 0 ≤ ((rd (rd_L1 l1 (ji32)) x18_2) : Int) := of_decide_eq_true (by first | (with_reducible assumption) | assumption)
                     have q148 : (rd (rd_L1 l1 (ji32)) x18_2) < (l0_1.length : Int) := of_decide_eq_true (by first | (with_reducible assumption) | assumption)
                     obtain ⟨ad148, e148, hx148_0, hx148_1, hx148_2, hx148_3⟩ := at_T63 HR0_1.out (rd (rd_L1 l1 (ji32)) x18_2) p148 q148
                     cases e148
                     replace hx148_0 := (HB.out.cell (World.block_lt_of_cell? w _ hx148_0)).trans hx148_0
                     replace hx148_1 := (HB.out.cell (World.block_lt_of_cell? w _ hx148_1)).trans hx148_1
                     replace hx148_2 := (HB.out.cell (World.block_lt_of_cell? w _ hx148_2)).trans hx148_2
                     replace hx148_3 := (HB.out.cell (World.block_lt_of_cell? w _ hx148_3)).trans hx148_3
                     replace p148 := eq_true p148
                     replace q148 := eq_true q148
                     have p149 : 0 ≤ ((rd (rd_L1 l1 x11_1) x18_2) : Int) := of_decide_eq_true (by first | (with_reducible assumption) | assumption)
                     have q149 : (rd (rd_L1 l1 x11_1) x18_2) < (l0_1.length : Int) := of_decide_eq_true (by first | (with_reducible assumption) | assumption)
                     obtain ⟨ad149, e149, hx149_0, hx149_1, hx149_2, hx149_3⟩ := at_T63 HR0_1.out (rd (rd_L1 l1 x11_1) x18_2) p149 q149
                     obtain rfl : ad148 = ad149 := (by injection e149)
                     replace hx149_0 := (HB.out.cell (World.block_lt_of_cell? w _ hx149_0)).trans hx149_0
                     replace hx149_1 := (HB.out.cell (World.block_lt_of_cell? w _ hx149_1)).trans hx149_1
                     replace hx149_2 := (HB.out.cell (World.block_lt_of_cell? w _ hx149_2)).trans hx149_2
                     replace hx149_3 := (HB.out.cell (World.block_lt_of_cell? w _ hx149_3)).trans hx149_3
                     replace p149 := eq_true p149
                     replace q149 := eq_true q149
                     go_wp2
                     repeat (go_quiet (fail); try go_wp2)
                     go_ret
                     exact ⟨by first | rfl | (simp [errW_none, errW_some] <;> rfl) | (simp only [← hji32]; first | rfl | (simp [errW_none, errW_some] <;> rfl)) | (simp [*, errW_none, errW_some] <;> rfl), by repeat (first | (with_reducible first | exact HB.out | apply below_alloc | apply pw_below_drewN | apply below_drew1 | refine below_set ?_ GE136.out) | exact HB.out)⟩
                   ·rw [if_neg c39] at H
                    exact absurd H (by simp)
                  ·rw [if_neg c38] at H
                   exact absurd H (by simp)
                 ·rw [if_neg c37] at H
                  exact absurd H (by simp)
                ·rw [if_neg c36] at H
                 exact absurd H (by simp)
               ·rw [if_neg c35] at H
                exact absurd H (by simp)
              ·rw [if_neg c34] at H
               exact absurd H (by simp)
             ·rw [if_neg c33] at H
              exact absurd H (by simp)
            ·rw [if_neg c31] at H
             have c31b0 : decide (0 < x11_1) = false := decide_eq_false c31
             clear c31
             have H' := Aside0.mk H
             clear H
             have p138 : 0 ≤ (x18_2 : Int) := of_decide_eq_true (by first | (with_reducible assumption) | assumption)
             have q138 : x18_2 < ((rd_L1 l1 x11_1).length : Int) := of_decide_eq_true (by first | (with_reducible assumption) | assumption)
             obtain ⟨ad138, e138, hx138_0⟩ := Kd.at_int HR137_0.out x18_2 p138 q138
             cases e138
             replace hx138_0 := (HB.out.cell (World.block_lt_of_cell? w _ hx138_0)).trans hx138_0
             replace p138 := eq_true p138
             replace q138 := eq_true q138
             go_wp2
             repeat (go_quiet (fail); try go_wp2)
             go_roundg k2
             case measure => have := HK1.out; have := HK2.out; omega
             case rel => exact ⟨(wrap64 (x18_2 + 1)), (by first | rfl | (simp; done) | (simp [*]; done)), H', ⟨by have := HK1.out; have := HK2.out; omega⟩, ⟨by (with_reducible repeat (first | refine blk_drewN ?_ _ | refine blk_drew ?_ | refine blk_alloc ?_ _)); exact BK136.out⟩, ⟨by repeat (first | (with_reducible first | exact HB.out | apply below_alloc | apply pw_below_drewN | apply below_drew1 | refine below_set ?_ GE136.out) | exact HB.out)⟩⟩
          ·rw [if_neg c9] at H
           exact absurd H (by simp)
         ·rw [if_neg c8] at H
          exact absurd H (by simp)
        ·rw [if_neg c7] at H
         have c7b0 : decide (x18_2 < ((rd_L1 l1 x11_1).length : Int)) = false := decide_eq_false c7
         clear c7
         have H' := Aside0.mk H
         clear H
         go_wp2
         repeat (go_quiet (fail); try go_wp2)
         go_roundg k2
         case measure => have := HK1.out; have := HK2.out; omega
         case rel => exact ⟨(wrap64 (x11_1 + 1)), (by first | rfl | (simp; done) | (simp [*]; done)), H', ⟨by have := HK1.out; have := HK2.out; omega⟩, ⟨by (with_reducible repeat (first | refine blk_drewN ?_ _ | refine blk_drew ?_ | refine blk_alloc ?_ _)); exact BK136.out⟩, ⟨by repeat (first | (with_reducible first | exact HB.out | apply below_alloc | apply pw_below_drewN | apply below_drew1 | refine below_set ?_ GE136.out) | exact HB.out)⟩⟩
     ·rw [if_neg c6] at H
      exact absurd H (by simp)
    ·rw [if_neg c5] at H
     exact absurd H (by simp)
   ·rw [if_neg c4] at H
    have c4b0 : decide (x11_1 < (l1.length : Int)) = false := decide_eq_false c4
    clear c4
    obtain rfl := Option.some.inj H
    go_wp2
    repeat (go_quiet (fail); try go_wp2)
    go_ret
    exact ⟨by first | rfl | (simp [errW_none, errW_some] <;> rfl) | (simp [*, errW_none, errW_some] <;> rfl), by repeat (first | (with_reducible first | exact HB.out | apply below_alloc | apply pw_below_drewN | apply below_drew1 | refine below_set ?_ GE136.out) | exact HB.out)⟩
end Go.Proofs.Ytgdmflmglkakgaa.Q
namespace Go.Proofs.Ytgdmflmglkakgaa.Q
open Go.RowKit Go.Proofs.YtgdmflmglkakgaaW.PrintWords Go.Proofs.YtgdmflmglkakgaaW.PrintLast Go.Proofs.YtgdmflmglkakgaaW.PrintMore
attribute [local go_sem] max2_int min2_int max_two min_two max_three min_three max_four min_four
set_option linter.unusedVariables false
set_option linter.unusedSimpArgs false
def impl_IsFilling.f (k : Nat) (a0_0 : Int) (l0_1 : List (S63)) (l1 : List (List Int)) : Option (Bool × Int) := (impl_setCode_at_impl_IsFilling_1.f k a0_0 l0_1 a0_0 l0_1 l1).bind fun t163 => (if t163 = 0 then ((impl_Set_isFilling.f k a0_0 l0_1 l1).bind fun t164 => (some (t164, 0))) else (some (false, t163)))
theorem impl_IsFilling.mono : ∀ a0 a1 a2 k, LeO (impl_IsFilling.f k a0 a1 a2) (impl_IsFilling.f (k + 1) a0 a1 a2) := by
 intro a0 a1 a2 k
 unfold impl_IsFilling.f
 repeat' first
   | (with_reducible exact impl_Set_isFilling.mono _ _ _ _)
   | (with_reducible exact impl_setCode_at_impl_IsFilling_1.mono _ _ _ _ _ _)
   | (with_reducible exact LeO.refl _)
   | (with_reducible exact LeO.none _)
   | (with_reducible refine LeO.ite ?_ ?_)
   | (with_reducible refine LeO.bind ?_ (fun _ => ?_))
   | exact impl_Set_isFilling.mono _ _ _ _
   | exact impl_setCode_at_impl_IsFilling_1.mono _ _ _ _ _ _
   | exact LeO.none _
   | refine LeO.ite ?_ ?_
   | refine LeO.bind ?_ (fun _ => ?_)
set_option maxHeartbeats 8000000 in
set_option maxRecDepth 100000 in
theorem impl_IsFilling.calls (k : Nat) (a0_0 : Int) (A0_1 : Option Addr) (c0_1 : Nat) (l0_1 : List (S63)) (A1 : Option Addr) (c1 : Nat) (l1 : List (List Int)) (r1 : Bool) (r2 : Int) (w : World) (hr0_1 : Kd.C k63 w A0_1 l0_1.length l0_1) (hc0_1 : l0_1.length ≤ c0_1) (hr1 : Kd.C (Kd.slice 2 (Kd.int .i64)) w A1 l1.length l1) (hc1 : l1.length ≤ c1) (h : impl_IsFilling.f k a0_0 l0_1 l1 = some (r1, r2)) :
  Calls Try.prog 12 #[.agg #[.int .i64 a0_0, .slice A0_1 l0_1.length c0_1], .slice A1 l1.length c1] w fun e w' => e = .returned (.tuple #[.bool r1, .int .i64 r2]) ∧ Below w.heap.size w w' := by
 have hu32 := Try.underlying32
 have HR0_1 := Aside0.mk hr0_1
 have HC0_1 := Aside0.mk hc0_1
 clear hr0_1 hc0_1
 have HR1 := Aside0.mk hr1
 have HC1 := Aside0.mk hc1
 clear hr1 hc1
 have HB := Aside0.mk (Below.refl w.heap.size w)
 have H : ((impl_setCode_at_impl_IsFilling_1.f k a0_0 l0_1 a0_0 l0_1 l1).bind fun t163 => (if t163 = 0 then ((impl_Set_isFilling.f k a0_0 l0_1 l1).bind fun t164 => (some (t164, 0))) else (some (false, t163)))) = some (r1, r2) := h
 clear h
 replace H := Option.bind_eq_some_iff.mp H
 obtain ⟨t163, A30, H⟩ := H
 replace H : (if t163 = 0 then ((impl_Set_isFilling.f k a0_0 l0_1 l1).bind fun t164 => (some (t164, 0))) else (some (false, t163))) = some (r1, r2) := H
 have A3 := Aside0.mk A30
 clear A30
 by_cases c4 : t163 = 0
 ·rw [if_pos c4] at H
  have c4b0 : (t163 == 0) = true := beq_iff_eq.mpr c4
  have c4b1 : (t163 != 0) = false := bne_eq_false_iff_eq.mpr c4
  clear c4
  replace H := Option.bind_eq_some_iff.mp H
  obtain ⟨t164, A50, H⟩ := H
  replace H : (some (t164, 0)) = some (r1, r2) := H
  have A5 := Aside0.mk A50
  clear A50
  simp only [Option.some.injEq, Prod.mk.injEq] at H
  obtain ⟨rfl, rfl⟩ := H
  go_enter Try.func12, Try.ntmps12
  go_wp2_with (first | ((with_reducible refine gate_dst (N := 2) rfl ?_); refine box_event ?hg (N := 2) ?hd (cs := #[.int .i64 a0_0, .slice A0_1 l0_1.length c0_1]) (t := 32) ?hr ?_; (case hd => rfl); (case hg => rfl); (case hr => first | (go_simp; done) | (go_simp; rfl)); intro gb161 hg w6 hbox hb; have n0_ := Aside0.mk (below_step (by repeat (first | (with_reducible first | exact HB.out | apply below_alloc | apply pw_below_drewN | apply below_drew1) | exact HB.out)) hb); have n1_ := Aside0.mk (hbox); have n2_ := Aside0.mk ((by rw [hg]; exact (below_size (by repeat (first | (with_reducible first | exact HB.out | apply below_alloc | apply pw_below_drewN | apply below_drew1) | exact HB.out))) : w.heap.size ≤ gb161)); have n3_ := Aside0.mk ((by rw [hg]; exact (below_size (by repeat (first | (with_reducible first | exact HB.out | apply below_alloc | apply pw_below_drewN | apply below_drew1) | exact HB.out))) : w.heap.size ≤ gb161)); clear HB; have HB := n0_; have BK161 := n1_; have GW161 := n2_; have GE161 := n3_; clear n0_ n1_ n2_ n3_; clear hb hbox hg) | ((with_reducible refine gate_dst (N := 3) rfl ?_); refine box_event ?hg (N := 3) ?hd (cs := #[.slice A1 l1.length c1]) (t := 25) ?hr ?_; (case hd => rfl); (case hg => rfl); (case hr => first | (go_simp; done) | (go_simp; rfl)); intro gb162 hg w7 hbox hb; have n0_ := Aside0.mk (blk_below (g := gb161) (o := .cells #[.int .i64 a0_0, .slice A0_1 l0_1.length c0_1] 32 (0, 0)) (by (with_reducible repeat (first | refine blk_drewN ?_ _ | refine blk_drew ?_ | refine blk_alloc ?_ _)); exact BK161.out) hb); have n1_ := Aside0.mk (below_step (by repeat (first | (with_reducible first | exact HB.out | apply below_alloc | apply pw_below_drewN | apply below_drew1 | refine below_set ?_ GE161.out) | exact HB.out)) hb); have n2_ := Aside0.mk (hbox); have n3_ := Aside0.mk ((by rw [hg]; exact (below_size (by repeat (first | (with_reducible first | exact HB.out | apply below_alloc | apply pw_below_drewN | apply below_drew1 | refine below_set ?_ GE161.out) | exact HB.out))) : w.heap.size ≤ gb162)); have n4_ := Aside0.mk ((by rw [hg]; exact (below_size (by repeat (first | (with_reducible first | exact HB.out | apply below_alloc | apply pw_below_drewN | apply below_drew1 | refine below_set ?_ GE161.out) | exact HB.out))) : w.heap.size ≤ gb162)); have n5_ := Aside0.mk ((by rw [hg]; exact Nat.ne_of_lt (blk_lt (g := gb161) (o := .cells #[.int .i64 a0_0, .slice A0_1 l0_1.length c0_1] 32 (0, 0)) (by (with_reducible repeat (first | refine blk_drewN ?_ _ | refine blk_drew ?_ | refine blk_alloc ?_ _)); exact BK161.out)) : gb161 ≠ gb162)); have n6_ := Aside0.mk ((by rw [hg]; exact Nat.ne_of_gt (blk_lt (g := gb161) (o := .cells #[.int .i64 a0_0, .slice A0_1 l0_1.length c0_1] 32 (0, 0)) (by (with_reducible repeat (first | refine blk_drewN ?_ _ | refine blk_drew ?_ | refine blk_alloc ?_ _)); exact BK161.out)) : gb162 ≠ gb161)); clear BK161; clear HB; have BK161 := n0_; have HB := n1_; have BK162 := n2_; have GW162 := n3_; have GE162 := n4_; have NB161_162 := n5_; have NB162_161 := n6_; clear n0_ n1_ n2_ n3_ n4_ n5_ n6_; clear hb hbox hg; have hnb8 := NB161_162.out; have hnc8 := NB162_161.out; have hcz9_0 : w7.cell? ⟨gb161, 0, none⟩ = some (.int .i64 a0_0) := (blk_cell BK161.out 0).trans rfl; have hcz9_1 : w7.cell? ⟨gb161, 1, none⟩ = some (.slice A0_1 l0_1.length c0_1) := (blk_cell BK161.out 1).trans rfl; have hfz9_0 := blk_frozen BK161.out 0; have hfz9_1 := blk_frozen BK161.out 1) | ((with_reducible refine gate_callee (f := 31) rfl ?_); refine goesL_ (some 9) rfl rfl Try.func31 (by kernel_rfl) rfl #[.agg #[.int .i64 a0_0, .slice A0_1 l0_1.length c0_1], .func (.func 32) #[] #[.pointer (some ⟨gb161, 0, none⟩), .pointer (some ⟨gb162, 0, none⟩)]] rfl (by (try simp only [List.map_toArray, List.map_cons, List.map_nil]); first | done | rfl | (simp only [List.length_drop, List.length_take]; rfl)) ?_; (with_reducible refine (impl_setCode_at_impl_IsFilling_1.calls k a0_0 _ _ l0_1 gb161 a0_0 A0_1 c0_1 l0_1 gb162 A1 c1 l1 t163 _ ?side1 ?side2 ?side3 ?side4 ?side5 ?side6 ?side7 ?side8 A3.out).mono ?_); (case side1 => repeat (first | exact (Kd.C_below HR0_1.out HB.out) | (with_reducible refine Kd.C_alloc ?_ _) | (with_reducible refine Kd.C_drewN ?_ _) | (with_reducible refine Kd.C_drew ?_))); (case side2 => exact HC0_1.out); (case side3 => repeat (first | exact (Kd.C_below HR0_1.out HB.out) | (with_reducible refine Kd.C_alloc ?_ _) | (with_reducible refine Kd.C_drewN ?_ _) | (with_reducible refine Kd.C_drew ?_))); (case side4 => exact HC0_1.out); (case side5 => repeat (first | exact (Kd.C_below HR1.out HB.out) | (with_reducible refine Kd.C_alloc ?_ _) | (with_reducible refine Kd.C_drewN ?_ _) | (with_reducible refine Kd.C_drew ?_))); (case side6 => exact HC1.out); (case side7 => exact (by (with_reducible repeat (first | refine blk_drewN ?_ _ | refine blk_drew ?_ | refine blk_alloc ?_ _)); exact BK161.out)); (case side8 => exact (by (with_reducible repeat (first | refine blk_drewN ?_ _ | refine blk_drew ?_ | refine blk_alloc ?_ _)); exact BK162.out)); rintro e w10 ⟨rfl, hb⟩; refine ⟨_, rfl, ?_⟩; have n0_ := Aside0.mk (blk_below (g := gb161) (o := .cells #[.int .i64 a0_0, .slice A0_1 l0_1.length c0_1] 32 (0, 0)) (by (with_reducible repeat (first | refine blk_drewN ?_ _ | refine blk_drew ?_ | refine blk_alloc ?_ _)); exact BK161.out) hb); have n1_ := Aside0.mk (blk_below (g := gb162) (o := .cells #[.slice A1 l1.length c1] 25 (0, 0)) (by (with_reducible repeat (first | refine blk_drewN ?_ _ | refine blk_drew ?_ | refine blk_alloc ?_ _)); exact BK162.out) hb); have n2_ := Aside0.mk (below_step (by repeat (first | (with_reducible first | exact HB.out | apply below_alloc | apply pw_below_drewN | apply below_drew1 | refine below_set ?_ GE161.out | refine below_set ?_ GE162.out) | exact HB.out)) hb); clear BK161; clear BK162; clear HB; have BK161 := n0_; have BK162 := n1_; have HB := n2_; clear n0_ n1_ n2_; (try clear hb); (try clear hb2); (try clear hk); (try clear hi); have hcz11_0 : w10.cell? ⟨gb161, 0, none⟩ = some (.int .i64 a0_0) := (blk_cell BK161.out 0).trans rfl; have hcz11_1 : w10.cell? ⟨gb161, 1, none⟩ = some (.slice A0_1 l0_1.length c0_1) := (blk_cell BK161.out 1).trans rfl; have hfz11_0 := blk_frozen BK161.out 0; have hfz11_1 := blk_frozen BK161.out 1; have hcz12_0 : w10.cell? ⟨gb162, 0, none⟩ = some (.slice A1 l1.length c1) := (blk_cell BK162.out 0).trans rfl; have hfz12_0 := blk_frozen BK162.out 0) | ((with_reducible refine gate_callee (f := 34) rfl ?_); refine goesL_ (some 15) rfl rfl Try.func34 (by kernel_rfl) rfl #[.agg #[.int .i64 a0_0, .slice A0_1 l0_1.length c0_1], .slice A1 l1.length c1] rfl (by (try simp only [List.map_toArray, List.map_cons, List.map_nil]); first | done | rfl | (simp only [List.length_drop, List.length_take]; rfl)) ?_; (with_reducible refine (impl_Set_isFilling.calls k a0_0 _ _ l0_1 _ _ l1 t164 _ ?side1 ?side2 ?side3 ?side4 A5.out).mono ?_); (case side1 => repeat (first | exact (Kd.C_below HR0_1.out HB.out) | (with_reducible refine Kd.C_alloc ?_ _) | (with_reducible refine Kd.C_drewN ?_ _) | (with_reducible refine Kd.C_drew ?_))); (case side2 => exact HC0_1.out); (case side3 => repeat (first | exact (Kd.C_below HR1.out HB.out) | (with_reducible refine Kd.C_alloc ?_ _) | (with_reducible refine Kd.C_drewN ?_ _) | (with_reducible refine Kd.C_drew ?_))); (case side4 => exact HC1.out); rintro e w13 ⟨rfl, hb⟩; refine ⟨_, rfl, ?_⟩; have n0_ := Aside0.mk (blk_below (g := gb161) (o := .cells #[.int .i64 a0_0, .slice A0_1 l0_1.length c0_1] 32 (0, 0)) (by (with_reducible repeat (first | refine blk_drewN ?_ _ | refine blk_drew ?_ | refine blk_alloc ?_ _)); exact BK161.out) hb); have n1_ := Aside0.mk (blk_below (g := gb162) (o := .cells #[.slice A1 l1.length c1] 25 (0, 0)) (by (with_reducible repeat (first | refine blk_drewN ?_ _ | refine blk_drew ?_ | refine blk_alloc ?_ _)); exact BK162.out) hb); have n2_ := Aside0.mk (below_step (by repeat (first | (with_reducible first | exact HB.out | apply below_alloc | apply pw_below_drewN | apply below_drew1 | refine below_set ?_ GE161.out | refine below_set ?_ GE162.out) | exact HB.out)) hb); clear BK161; clear BK162; clear HB; have BK161 := n0_; have BK162 := n1_; have HB := n2_; clear n0_ n1_ n2_; (try clear hb); (try clear hb2); (try clear hk); (try clear hi)))
  go_ret2
  exact ⟨by first | rfl | (simp [errW_none, errW_some] <;> rfl) | (simp [*, errW_none, errW_some] <;> rfl), by repeat (first | (with_reducible first | exact HB.out | apply below_alloc | apply pw_below_drewN | apply below_drew1 | refine below_set ?_ GE161.out | refine below_set ?_ GE162.out) | exact HB.out)⟩
 ·rw [if_neg c4] at H
  have c4b0 : (t163 == 0) = false := beq_eq_false_iff_ne.mpr c4
  have c4b1 : (t163 != 0) = true := bne_iff_ne.mpr c4
  simp only [Option.some.injEq, Prod.mk.injEq] at H
  obtain ⟨rfl, rfl⟩ := H
  go_enter Try.func12, Try.ntmps12
  go_wp2_with (first | ((with_reducible refine gate_dst (N := 2) rfl ?_); refine box_event ?hg (N := 2) ?hd (cs := #[.int .i64 a0_0, .slice A0_1 l0_1.length c0_1]) (t := 32) ?hr ?_; (case hd => rfl); (case hg => rfl); (case hr => first | (go_simp; done) | (go_simp; rfl)); intro gb161 hg w14 hbox hb; have n0_ := Aside0.mk (below_step (by repeat (first | (with_reducible first | exact HB.out | apply below_alloc | apply pw_below_drewN | apply below_drew1) | exact HB.out)) hb); have n1_ := Aside0.mk (hbox); have n2_ := Aside0.mk ((by rw [hg]; exact (below_size (by repeat (first | (with_reducible first | exact HB.out | apply below_alloc | apply pw_below_drewN | apply below_drew1) | exact HB.out))) : w.heap.size ≤ gb161)); have n3_ := Aside0.mk ((by rw [hg]; exact (below_size (by repeat (first | (with_reducible first | exact HB.out | apply below_alloc | apply pw_below_drewN | apply below_drew1) | exact HB.out))) : w.heap.size ≤ gb161)); clear HB; have HB := n0_; have BK161 := n1_; have GW161 := n2_; have GE161 := n3_; clear n0_ n1_ n2_ n3_; clear hb hbox hg) | ((with_reducible refine gate_dst (N := 3) rfl ?_); refine box_event ?hg (N := 3) ?hd (cs := #[.slice A1 l1.length c1]) (t := 25) ?hr ?_; (case hd => rfl); (case hg => rfl); (case hr => first | (go_simp; done) | (go_simp; rfl)); intro gb162 hg w15 hbox hb; have n0_ := Aside0.mk (blk_below (g := gb161) (o := .cells #[.int .i64 a0_0, .slice A0_1 l0_1.length c0_1] 32 (0, 0)) (by (with_reducible repeat (first | refine blk_drewN ?_ _ | refine blk_drew ?_ | refine blk_alloc ?_ _)); exact BK161.out) hb); have n1_ := Aside0.mk (below_step (by repeat (first | (with_reducible first | exact HB.out | apply below_alloc | apply pw_below_drewN | apply below_drew1 | refine below_set ?_ GE161.out) | exact HB.out)) hb); have n2_ := Aside0.mk (hbox); have n3_ := Aside0.mk ((by rw [hg]; exact (below_size (by repeat (first | (with_reducible first | exact HB.out | apply below_alloc | apply pw_below_drewN | apply below_drew1 | refine below_set ?_ GE161.out) | exact HB.out))) : w.heap.size ≤ gb162)); have n4_ := Aside0.mk ((by rw [hg]; exact (below_size (by repeat (first | (with_reducible first | exact HB.out | apply below_alloc | apply pw_below_drewN | apply below_drew1 | refine below_set ?_ GE161.out) | exact HB.out))) : w.heap.size ≤ gb162)); have n5_ := Aside0.mk ((by rw [hg]; exact Nat.ne_of_lt (blk_lt (g := gb161) (o := .cells #[.int .i64 a0_0, .slice A0_1 l0_1.length c0_1] 32 (0, 0)) (by (with_reducible repeat (first | refine blk_drewN ?_ _ | refine blk_drew ?_ | refine blk_alloc ?_ _)); exact BK161.out)) : gb161 ≠ gb162)); have n6_ := Aside0.mk ((by rw [hg]; exact Nat.ne_of_gt (blk_lt (g := gb161) (o := .cells #[.int .i64 a0_0, .slice A0_1 l0_1.length c0_1] 32 (0, 0)) (by (with_reducible repeat (first | refine blk_drewN ?_ _ | refine blk_drew ?_ | refine blk_alloc ?_ _)); exact BK161.out)) : gb162 ≠ gb161)); clear BK161; clear HB; have BK161 := n0_; have HB := n1_; have BK162 := n2_; have GW162 := n3_; have GE162 := n4_; have NB161_162 := n5_; have NB162_161 := n6_; clear n0_ n1_ n2_ n3_ n4_ n5_ n6_; clear hb hbox hg; have hnb16 := NB161_162.out; have hnc16 := NB162_161.out; have hcz17_0 : w15.cell? ⟨gb161, 0, none⟩ = some (.int .i64 a0_0) := (blk_cell BK161.out 0).trans rfl; have hcz17_1 : w15.cell? ⟨gb161, 1, none⟩ = some (.slice A0_1 l0_1.length c0_1) := (blk_cell BK161.out 1).trans rfl; have hfz17_0 := blk_frozen BK161.out 0; have hfz17_1 := blk_frozen BK161.out 1) | ((with_reducible refine gate_callee (f := 31) rfl ?_); refine goesL_ (some 9) rfl rfl Try.func31 (by kernel_rfl) rfl #[.agg #[.int .i64 a0_0, .slice A0_1 l0_1.length c0_1], .func (.func 32) #[] #[.pointer (some ⟨gb161, 0, none⟩), .pointer (some ⟨gb162, 0, none⟩)]] rfl (by (try simp only [List.map_toArray, List.map_cons, List.map_nil]); first | done | rfl | (simp only [List.length_drop, List.length_take]; rfl)) ?_; (with_reducible refine (impl_setCode_at_impl_IsFilling_1.calls k a0_0 _ _ l0_1 gb161 a0_0 A0_1 c0_1 l0_1 gb162 A1 c1 l1 t163 _ ?side1 ?side2 ?side3 ?side4 ?side5 ?side6 ?side7 ?side8 A3.out).mono ?_); (case side1 => repeat (first | exact (Kd.C_below HR0_1.out HB.out) | (with_reducible refine Kd.C_alloc ?_ _) | (with_reducible refine Kd.C_drewN ?_ _) | (with_reducible refine Kd.C_drew ?_))); (case side2 => exact HC0_1.out); (case side3 => repeat (first | exact (Kd.C_below HR0_1.out HB.out) | (with_reducible refine Kd.C_alloc ?_ _) | (with_reducible refine Kd.C_drewN ?_ _) | (with_reducible refine Kd.C_drew ?_))); (case side4 => exact HC0_1.out); (case side5 => repeat (first | exact (Kd.C_below HR1.out HB.out) | (with_reducible refine Kd.C_alloc ?_ _) | (with_reducible refine Kd.C_drewN ?_ _) | (with_reducible refine Kd.C_drew ?_))); (case side6 => exact HC1.out); (case side7 => exact (by (with_reducible repeat (first | refine blk_drewN ?_ _ | refine blk_drew ?_ | refine blk_alloc ?_ _)); exact BK161.out)); (case side8 => exact (by (with_reducible repeat (first | refine blk_drewN ?_ _ | refine blk_drew ?_ | refine blk_alloc ?_ _)); exact BK162.out)); rintro e w18 ⟨rfl, hb⟩; refine ⟨_, rfl, ?_⟩; have n0_ := Aside0.mk (blk_below (g := gb161) (o := .cells #[.int .i64 a0_0, .slice A0_1 l0_1.length c0_1] 32 (0, 0)) (by (with_reducible repeat (first | refine blk_drewN ?_ _ | refine blk_drew ?_ | refine blk_alloc ?_ _)); exact BK161.out) hb); have n1_ := Aside0.mk (blk_below (g := gb162) (o := .cells #[.slice A1 l1.length c1] 25 (0, 0)) (by (with_reducible repeat (first | refine blk_drewN ?_ _ | refine blk_drew ?_ | refine blk_alloc ?_ _)); exact BK162.out) hb); have n2_ := Aside0.mk (below_step (by repeat (first | (with_reducible first | exact HB.out | apply below_alloc | apply pw_below_drewN | apply below_drew1 | refine below_set ?_ GE161.out | refine below_set ?_ GE162.out) | exact HB.out)) hb); clear BK161; clear BK162; clear HB; have BK161 := n0_; have BK162 := n1_; have HB := n2_; clear n0_ n1_ n2_; (try clear hb); (try clear hb2); (try clear hk); (try clear hi)))
  go_ret2
  exact ⟨by first | rfl | (simp [errW_none, errW_some] <;> rfl) | (simp [*, errW_none, errW_some] <;> rfl), by repeat (first | (with_reducible first | exact HB.out | apply below_alloc | apply pw_below_drewN | apply below_drew1 | refine below_set ?_ GE161.out | refine below_set ?_ GE162.out) | exact HB.out)⟩
end Go.Proofs.Ytgdmflmglkakgaa.Q
namespace Go.Proofs.Ytgdmflmglkakgaa
open Go Go.RowKit Go.Proofs Go.Proofs.YtgdmflmglkakgaaW.PrintWords Go.Proofs.YtgdmflmglkakgaaW.PrintMore Go.Proofs.Ytgdmflmglkakgaa.Q
set_option linter.unusedVariables false
set_option linter.unusedSimpArgs false
theorem getD_at {α : Type} {xs : List α} {i : Nat} {d : α} (h : i < xs.length) : xs.getD i d = xs[i] := by simp [List.getD, List.getElem?_eq_getElem h]
theorem wrapS (m : Nat) (h : m < 1000000000) : wrap64 ((m : Int) + 1) = ((m + 1 : Nat) : Int) := by unfold wrap64; omega
theorem wrapP (m : Nat) (h : m < 1000000000) : wrap64 (((m + 1 : Nat) : Int) - 1) = (m : Int) := by unfold wrap64; omega
theorem rdL_row (x : List (List Int)) (i : Nat) : rd_L1 x (i : Int) = x.getD i [] := by simp [rd_L1]
theorem rdL_cell (x : List (List Int)) (y i : Nat) : rd (x.getD y []) (i : Int) = cell x y i := by rw [rd_nat]; rfl
theorem specIn_f2 (n lo hi : Int) : spec_l01In.f n lo hi = some (inB n lo hi) := by
  unfold spec_l01In.f inB
  by_cases h : n ≥ lo
  · rw [if_pos h]; simp [h]
  · rw [if_neg h]; simp at h ⊢; omega
theorem implWithin_f (n lo hi : Int) : impl_within.f n lo hi = some (inB n lo hi) := by
  unfold impl_within.f inB
  by_cases h : n ≥ lo
  · rw [if_pos h]; simp [h]
  · rw [if_neg h]; simp at h ⊢; omega
theorem isNumber_f (C : Int) (l : List STile) (a : Int) (hl : l.length ≤ 35184372088832) : impl_Set_isNumber.f C l a = some (numB l.length a) := by
  have e : wrap64 ((l.length : Int) - 1) = (l.length : Int) - 1 := by unfold wrap64; omega
  rw [impl_Set_isNumber.f, implWithin_f, e]; rfl
theorem numsRow_ev (C : Int) (l : List STile) (xs : List (List Int)) (h y : Int) (row : List Int) (R : Bool) (hl : l.length ≤ 35184372088832) (hrow : row.length ≤ 10000000) (hR : Ev (fun k => impl_Set_areNumbers.l0 k xs xs h (wrap64 (y + 1)) C l) R) :
    ∀ d m, m + d = row.length → Ev (fun k => impl_Set_areNumbers.l1 k xs xs h y row (row.length : Int) (m : Int) C l) ((row.drop m).all (numB l.length) && R) := by
  intro d
  induction d with
  | zero =>
    intro m hm
    have b1 : ¬ (m : Int) < (row.length : Int) := by omega
    rw [List.drop_of_length_le (by omega), List.all_nil, Bool.true_and]
    exact Ev.step (fun k => by rw [impl_Set_areNumbers.l1, if_neg b1]) hR
  | succ d ih =>
    intro m hm
    have hlt : m < row.length := by omega
    have b1 : (m : Int) < (row.length : Int) := by omega
    have b2 : (0 : Int) ≤ (m : Int) := Int.natCast_nonneg m
    have hm9 : m < 1000000000 := by omega
    have hd : row.drop m = row[m] :: row.drop (m + 1) := List.drop_eq_getElem_cons hlt
    have e1 : rd row (m : Int) = row[m] := by rw [rd_nat, List.getD_eq_getElem?_getD, List.getElem?_eq_getElem hlt]; rfl
    rw [hd, List.all_cons]
    cases hq : numB l.length row[m]
    · refine Ev.step (fun k => ?_) (Ev.now _)
      rw [impl_Set_areNumbers.l1, if_pos b1, if_pos b2, if_pos b1, e1, isNumber_f C l _ hl, hq]; rfl
    · rw [Bool.true_and]
      refine Ev.step (fun k => ?_) (ih (m + 1) (by omega))
      rw [impl_Set_areNumbers.l1, if_pos b1, if_pos b2, if_pos b1, e1, isNumber_f C l _ hl, hq, wrapS m hm9]; rfl
theorem isTable_l0 (xs : List (List Int)) (h1 : 1 ≤ xs.length) (hx : xs.length ≤ 10000000) : ∀ d m, m + d = xs.length → Ev (fun k => impl_isTable.l0 k xs 8 xs (xs.length : Int) (m : Int)) ((xs.drop m).all (rowOk (width xs))) := by
  intro d
  induction d with
  | zero =>
    intro m hm
    have b1 : ¬ (m : Int) < (xs.length : Int) := by omega
    rw [List.drop_of_length_le (by omega), List.all_nil]
    exact Ev.step (f := fun _ => some true) (fun k => by rw [impl_isTable.l0, if_neg b1]) (Ev.now _)
  | succ d ih =>
    intro m hm
    have hlt : m < xs.length := by omega
    have b0 : (0 : Int) < (xs.length : Int) := by omega
    have b1 : (m : Int) < (xs.length : Int) := by omega
    have b2 : (0 : Int) ≤ (m : Int) := Int.natCast_nonneg m
    have hm9 : m < 1000000000 := by omega
    have hd : xs.drop m = xs[m] :: xs.drop (m + 1) := List.drop_eq_getElem_cons hlt
    have e0 : rd_L1 xs 0 = xs.getD 0 [] := rdL_row xs 0
    have e1 : rd_L1 xs (m : Int) = xs[m] := by rw [rdL_row, List.getD_eq_getElem?_getD, List.getElem?_eq_getElem hlt]; rfl
    rw [hd, List.all_cons]
    by_cases q1 : (xs[m].length : Int) = ((xs.getD 0 []).length : Int)
    · by_cases q2 : (xs[m].length : Int) < 1
      · have : rowOk (width xs) xs[m] = false := by simp only [rowOk, decide_eq_false_iff_not]; omega
        rw [this]
        refine Ev.step (f := fun _ => some false) (fun k => ?_) (Ev.now _)
        rw [impl_isTable.l0, if_pos b1, if_pos b2, if_pos b1, if_pos b0, e1, e0, if_pos q1, if_pos q2]
      · by_cases q3 : (xs[m].length : Int) > 8
        · have : rowOk (width xs) xs[m] = false := by simp only [rowOk, decide_eq_false_iff_not]; omega
          rw [this]
          refine Ev.step (f := fun _ => some false) (fun k => ?_) (Ev.now _)
          rw [impl_isTable.l0, if_pos b1, if_pos b2, if_pos b1, if_pos b0, e1, e0, if_pos q1, if_neg q2, if_pos q3]
        · have q4 : xs[m].length = (xs.getD 0 []).length := by omega
          have : rowOk (width xs) xs[m] = true := by
            show decide (xs[m].length = (xs.getD 0 []).length ∧ 1 ≤ xs[m].length ∧ xs[m].length ≤ 8) = true
            exact decide_eq_true ⟨q4, by omega, by omega⟩
          rw [this, Bool.true_and]
          refine Ev.step (fun k => ?_) (ih (m + 1) (by omega))
          rw [impl_isTable.l0, if_pos b1, if_pos b2, if_pos b1, if_pos b0, e1, e0, if_pos q1, if_neg q2, if_neg q3, wrapS m hm9]
    · have q4 : ¬ xs[m].length = (xs.getD 0 []).length := by omega
      have : rowOk (width xs) xs[m] = false := by
        show decide (xs[m].length = (xs.getD 0 []).length ∧ 1 ≤ xs[m].length ∧ xs[m].length ≤ 8) = false
        exact decide_eq_false fun h => q4 h.1
      rw [this]
      refine Ev.step (f := fun _ => some false) (fun k => ?_) (Ev.now _)
      rw [impl_isTable.l0, if_pos b1, if_pos b2, if_pos b1, if_pos b0, e1, e0, if_neg q1]
theorem isTable_ev (xs : List (List Int)) (hx : xs.length ≤ 10000000) : Ev (fun k => impl_isTable.f k xs 8) (shapeB xs) := by
  have hf : Ev (fun k => impl_isTable.j0 k xs 8 true) false := Ev.step (f := fun _ => some false) (fun k => by rw [impl_isTable.j0, if_pos rfl]) (Ev.now _)
  by_cases h1 : (xs.length : Int) < 1
  · have : shapeB xs = false := by simp only [shapeB, Bool.and_eq_false_imp, decide_eq_true_eq]; omega
    rw [this]
    exact Ev.congr (fun k => by rw [impl_isTable.f, if_pos h1]) hf
  · by_cases h8 : (xs.length : Int) > 8
    · have : shapeB xs = false := by simp only [shapeB, Bool.and_eq_false_imp, decide_eq_true_eq]; omega
      rw [this]
      exact Ev.congr (fun k => by rw [impl_isTable.f, if_neg h1, decide_eq_true h8]) hf
    · have hs : shapeB xs = xs.all (rowOk (width xs)) := by rw [shapeB, decide_eq_true (show 1 ≤ xs.length ∧ xs.length ≤ 8 by omega), Bool.true_and]
      rw [hs]
      refine Ev.congr (f := fun k => impl_isTable.j0 k xs 8 false) (fun k => by rw [impl_isTable.f, if_neg h1, decide_eq_false h8]) ?_
      have := isTable_l0 xs (by omega) hx xs.length 0 (by omega)
      rw [List.drop_zero] at this
      exact Ev.step (fun k => by rw [impl_isTable.j0, if_neg (by simp)]; rfl) this
theorem areNumbers_ev (C : Int) (l : List STile) (xs : List (List Int)) (hl : l.length ≤ 35184372088832) (hx : xs.length ≤ 10000000) (hr : ∀ r ∈ xs, r.length ≤ 10000000) : Ev (fun k => impl_Set_areNumbers.f k C l xs) (tabB l.length xs) := by
  have go : ∀ d m, m + d = xs.length → Ev (fun k => impl_Set_areNumbers.l0 k xs xs (xs.length : Int) (m : Int) C l) (numsB l.length (xs.drop m) && shapeB xs) := by
    intro d
    induction d with
    | zero =>
      intro m hm
      have b1 : ¬ (m : Int) < (xs.length : Int) := by omega
      rw [List.drop_of_length_le (by omega)]
      refine Ev.step (f := fun k => (impl_isTable.f k xs 8).bind fun t => some t) (fun k => by rw [impl_Set_areNumbers.l0, if_neg b1]) ?_
      exact Ev.bind (isTable_ev xs hx) (Ev.now _)
    | succ d ih =>
      intro m hm
      have hlt : m < xs.length := by omega
      have b1 : (m : Int) < (xs.length : Int) := by omega
      have b2 : (0 : Int) ≤ (m : Int) := Int.natCast_nonneg m
      have hm9 : m < 1000000000 := by omega
      have hd : xs.drop m = xs[m] :: xs.drop (m + 1) := List.drop_eq_getElem_cons hlt
      have e1 : rd_L1 xs (m : Int) = xs[m] := by rw [rdL_row, List.getD_eq_getElem?_getD, List.getElem?_eq_getElem hlt]; rfl
      have hi := ih (m + 1) (by omega)
      rw [← wrapS m hm9] at hi
      have h2 := numsRow_ev C l xs (xs.length : Int) (m : Int) xs[m] _ hl (hr _ (List.getElem_mem hlt)) hi xs[m].length 0 (by omega)
      rw [List.drop_zero] at h2
      have e : (numsB l.length (xs.drop m) && shapeB xs) = (xs[m].all (numB l.length) && (numsB l.length (xs.drop (m + 1)) && shapeB xs)) := by rw [hd]; simp only [numsB, List.all_cons, Bool.and_assoc]
      rw [e]
      exact Ev.step (fun k => by rw [impl_Set_areNumbers.l0, if_pos b1, if_pos b2, if_pos b1, e1]; rfl) h2
  have := go xs.length 0 (by omega)
  rw [List.drop_zero] at this
  exact this
theorem implFillCode_ev (C : Int) (l : List STile) (xs : List (List Int)) (hl : l.length ≤ 35184372088832) (hx : xs.length ≤ 10000000) (hr : ∀ r ∈ xs, r.length ≤ 10000000) :
    Ev (fun k => impl_setCode_at_impl_IsFilling_1.f k C l C l xs) (if isS C (l.map toT) = true then if tabB l.length xs = true then 0 else 2 else 1) := by
  have hin : inLim l.length = true := by simpa [inLim] using hl
  cases hs : isS C (l.map toT)
  · refine Ev.congr (fun k => ?_) (Ev.now _)
    rw [impl_setCode_at_impl_IsFilling_1.f, impl_IsSet.f, if_pos hin, hs]; rfl
  · refine Ev.congr (f := fun k => (impl_IsFilling_1.f k C l xs).bind fun b => if b = true then some 0 else some 2) (fun k => ?_) (Ev.bind (a := tabB l.length xs) ?_ ?_)
    · rw [impl_setCode_at_impl_IsFilling_1.f, impl_IsSet.f, if_pos hin, hs]; rfl
    · exact Ev.congr (f := fun k => (impl_Set_areNumbers.f k C l xs).bind fun t => some t) (fun k => by rw [impl_IsFilling_1.f]) (Ev.bind (areNumbers_ev C l xs hl hx hr) (Ev.now _))
    · refine Ev.congr (fun k => ?_) (Ev.now _)
      cases tabB l.length xs <;> rfl
theorem fillRow_ev (C : Int) (l : List STile) (xs : List (List Int)) (ht : Tab l.length xs) (y : Nat) (hy : y < xs.length) (R : Bool) (hR : Ev (fun k => impl_Set_isFilling.l0 k xs xs (xs.length : Int) (wrap64 ((y : Int) + 1)) C l) R) :
    ∀ d m, m + d = width xs → Ev (fun k => impl_Set_isFilling.l1 k xs (y : Int) (xs.getD y []) xs (xs.length : Int) (y : Int) (xs.getD y []) ((xs.getD y []).length : Int) (m : Int) C l) (allN (cellB l xs y) d m && R) := by
  have hlen := ht.len y hy
  have h8 := ht.h8
  have w8 := ht.w8
  intro d
  induction d with
  | zero =>
    intro m hm
    have b1 : ¬ (m : Int) < ((xs.getD y []).length : Int) := by omega
    rw [allN, Bool.true_and]
    exact Ev.step (fun k => by rw [impl_Set_isFilling.l1, if_neg b1]) hR
  | succ d ih =>
    intro m hm
    have hlt : m < width xs := by omega
    have b1 : (m : Int) < ((xs.getD y []).length : Int) := by omega
    have b2 : (0 : Int) ≤ (m : Int) := Int.natCast_nonneg m
    have hm9 : m < 1000000000 := by omega
    have c1 := ht.lo y m hy hlt
    have c2 := ht.up y m hy hlt
    have hi := ih (m + 1) (by omega)
    rw [← wrapS m hm9] at hi
    rw [allN, Bool.and_assoc]
    have north : y ≠ 0 → (0 ≤ wrap64 ((y : Int) - 1)) ∧ wrap64 ((y : Int) - 1) < (xs.length : Int) ∧ (m : Int) < ((rd_L1 xs (wrap64 ((y : Int) - 1))).length : Int) ∧ 0 ≤ rd (rd_L1 xs (wrap64 ((y : Int) - 1))) (m : Int) ∧ rd (rd_L1 xs (wrap64 ((y : Int) - 1))) (m : Int) < (l.length : Int) ∧ rd (rd_L1 xs (wrap64 ((y : Int) - 1))) (m : Int) = cell xs (y - 1) m := by
      intro h0
      obtain ⟨z, rfl⟩ : ∃ z, y = z + 1 := ⟨y - 1, by omega⟩
      have hz9 : z < 1000000000 := by omega
      have l2 := ht.len z (by omega)
      have d1 := ht.lo z m (by omega) hlt
      have d2 := ht.up z m (by omega) hlt
      rw [wrapP z hz9, rdL_row, rdL_cell]
      exact ⟨by omega, by omega, by omega, d1, d2, rfl⟩
    by_cases h0 : m = 0
    · subst h0
      have g0 : ¬ ((0 : Nat) : Int) > 0 := by omega
      by_cases hy0 : y = 0
      · subst hy0
        have : cellB l xs 0 0 = true := by simp [cellB]
        rw [this, Bool.true_and]
        exact Ev.step (fun k => by rw [impl_Set_isFilling.l1, if_pos b1, if_pos b2, if_pos b1, if_neg g0, if_neg g0]) hi
      · have g1 : (y : Int) > 0 := by omega
        obtain ⟨n1, n2, n3, n4, n5, n6⟩ := north hy0
        by_cases hq : (rd_T63 l (cell xs (y - 1) 0)).f3 = (rd_T63 l (cell xs y 0)).f1
        · have : cellB l xs y 0 = true := by simp [cellB, tileAt, hq]
          rw [this, Bool.true_and]
          refine Ev.step (fun k => ?_) hi
          rw [impl_Set_isFilling.l1, if_pos b1, if_pos b2, if_pos b1, if_neg g0, if_pos g1, if_pos n1, if_pos n2, if_pos n3, if_pos n4, if_pos n5, n6, rdL_cell, if_pos c1, if_pos c2, if_pos hq]
        · have : cellB l xs y 0 = false := by simp [cellB, tileAt, hq, hy0]
          rw [this, Bool.false_and]
          refine Ev.step (f := fun _ => some false) (fun k => ?_) (Ev.now _)
          rw [impl_Set_isFilling.l1, if_pos b1, if_pos b2, if_pos b1, if_neg g0, if_pos g1, if_pos n1, if_pos n2, if_pos n3, if_pos n4, if_pos n5, n6, rdL_cell, if_pos c1, if_pos c2, if_neg hq]
    · have g0 : (m : Int) > 0 := by omega
      have west : (0 ≤ wrap64 ((m : Int) - 1)) ∧ wrap64 ((m : Int) - 1) < ((xs.getD y []).length : Int) ∧ 0 ≤ rd (xs.getD y []) (wrap64 ((m : Int) - 1)) ∧ rd (xs.getD y []) (wrap64 ((m : Int) - 1)) < (l.length : Int) ∧ rd (xs.getD y []) (wrap64 ((m : Int) - 1)) = cell xs y (m - 1) := by
        obtain ⟨z, rfl⟩ : ∃ z, m = z + 1 := ⟨m - 1, by omega⟩
        have hz9 : z < 1000000000 := by omega
        have d1 := ht.lo y z hy (by omega)
        have d2 := ht.up y z hy (by omega)
        rw [wrapP z hz9, rdL_cell]
        exact ⟨by omega, by omega, d1, d2, rfl⟩
      obtain ⟨w1, w2, w3, w4, w5⟩ := west
      by_cases hp : (rd_T63 l (cell xs y (m - 1))).f2 = (rd_T63 l (cell xs y m)).f0
      · by_cases hy0 : y = 0
        · subst hy0
          have g1 : ¬ ((0 : Nat) : Int) > 0 := by omega
          have : cellB l xs 0 m = true := by simp [cellB, tileAt, hp]
          rw [this, Bool.true_and]
          refine Ev.step (fun k => ?_) hi
          rw [impl_Set_isFilling.l1, if_pos b1, if_pos b2, if_pos b1, if_pos g0, if_pos w1, if_pos w2, if_pos w3, if_pos w4, w5, rdL_cell, if_pos c1, if_pos c2, if_pos hp, if_neg g1]
        · have g1 : (y : Int) > 0 := by omega
          obtain ⟨n1, n2, n3, n4, n5, n6⟩ := north hy0
          by_cases hq : (rd_T63 l (cell xs (y - 1) m)).f3 = (rd_T63 l (cell xs y m)).f1
          · have : cellB l xs y m = true := by simp [cellB, tileAt, hp, hq]
            rw [this, Bool.true_and]
            refine Ev.step (fun k => ?_) hi
            rw [impl_Set_isFilling.l1, if_pos b1, if_pos b2, if_pos b1, if_pos g0, if_pos w1, if_pos w2, if_pos w3, if_pos w4, w5, rdL_cell, if_pos c1, if_pos c2, if_pos hp, if_pos g1, if_pos n1, if_pos n2, if_pos n3, if_pos n4, if_pos n5, n6, if_pos hq]
          · have : cellB l xs y m = false := by simp [cellB, tileAt, hp, hq, hy0]
            rw [this, Bool.false_and]
            refine Ev.step (f := fun _ => some false) (fun k => ?_) (Ev.now _)
            rw [impl_Set_isFilling.l1, if_pos b1, if_pos b2, if_pos b1, if_pos g0, if_pos w1, if_pos w2, if_pos w3, if_pos w4, w5, rdL_cell, if_pos c1, if_pos c2, if_pos hp, if_pos g1, if_pos n1, if_pos n2, if_pos n3, if_pos n4, if_pos n5, n6, if_neg hq]
      · have : cellB l xs y m = false := by simp [cellB, tileAt, hp, h0]
        rw [this, Bool.false_and]
        refine Ev.step (f := fun _ => some false) (fun k => ?_) (Ev.now _)
        rw [impl_Set_isFilling.l1, if_pos b1, if_pos b2, if_pos b1, if_pos g0, if_pos w1, if_pos w2, if_pos w3, if_pos w4, w5, rdL_cell, if_pos c1, if_pos c2, if_neg hp]
theorem isFilling_ev (C : Int) (l : List STile) (xs : List (List Int)) (ht : Tab l.length xs) : Ev (fun k => impl_Set_isFilling.f k C l xs) (goodB l xs) := by
  have h8 := ht.h8
  have go : ∀ d m, m + d = xs.length → Ev (fun k => impl_Set_isFilling.l0 k xs xs (xs.length : Int) (m : Int) C l) (allN (rowB l xs) d m) := by
    intro d
    induction d with
    | zero =>
      intro m hm
      have b1 : ¬ (m : Int) < (xs.length : Int) := by omega
      exact Ev.step (f := fun _ => some true) (fun k => by rw [impl_Set_isFilling.l0, if_neg b1]) (Ev.now _)
    | succ d ih =>
      intro m hm
      have b1 : (m : Int) < (xs.length : Int) := by omega
      have b2 : (0 : Int) ≤ (m : Int) := Int.natCast_nonneg m
      have hm9 : m < 1000000000 := by omega
      have hi := ih (m + 1) (by omega)
      rw [← wrapS m hm9] at hi
      have h2 := fillRow_ev C l xs ht m (by omega) _ hi (width xs) 0 (by omega)
      rw [allN]
      exact Ev.step (fun k => by rw [impl_Set_isFilling.l0, if_pos b1, if_pos b2, if_pos b1, rdL_row]; rfl) h2
  exact go xs.length 0 (by omega)
theorem implFill_ev (C : Int) (l : List STile) (xs : List (List Int)) (hl : l.length ≤ 35184372088832) (hx : xs.length ≤ 10000000) (hr : ∀ r ∈ xs, r.length ≤ 10000000) : Ev (fun k => impl_IsFilling.f k C l xs) (fillR C (l.map toT) xs) := by
  refine Ev.congr (f := fun k => (impl_setCode_at_impl_IsFilling_1.f k C l C l xs).bind fun t => if t = 0 then (impl_Set_isFilling.f k C l xs).bind fun u => some (u, 0) else some (false, t)) (fun k => by rw [impl_IsFilling.f]) ?_
  refine Ev.bind (implFillCode_ev C l xs hl hx hr) ?_
  unfold fillR
  rw [List.length_map, map_toST]
  cases isS C (l.map toT)
  · exact Ev.now _
  · cases hb : tabB l.length xs
    · exact Ev.now _
    · exact Ev.congr (fun k => if_pos rfl) (Ev.bind (isFilling_ev C l xs (tab_of hb)) (Ev.now _))
theorem specRow_ev (C : Int) (l : List STile) (xs : List (List Int)) (y : Nat) (hy : y < xs.length) (R : Int) (hl : l.length ≤ 35184372088832) (hrow : (xs.getD y []).length ≤ 10000000) (hR : Ev (fun k => spec_l01Rows.l0 k xs (wrap64 ((y : Int) + 1)) C l) R) :
    ∀ d m, m + d = (xs.getD y []).length → Ev (fun k => spec_l01Rows.l1 k xs (y : Int) (m : Int) C l) (if ((xs.getD y []).drop m).all (numB l.length) = true then R else 2) := by
  have y1 : (0 : Int) ≤ (y : Int) := Int.natCast_nonneg y
  have y2 : (y : Int) < (xs.length : Int) := by omega
  have ew : wrap64 ((l.length : Int) - 1) = (l.length : Int) - 1 := by unfold wrap64; omega
  intro d
  induction d with
  | zero =>
    intro m hm
    have b1 : ¬ (m : Int) < ((xs.getD y []).length : Int) := by omega
    rw [List.drop_of_length_le (by omega), List.all_nil, if_pos rfl]
    exact Ev.step (fun k => by rw [spec_l01Rows.l1, if_pos y1, if_pos y2, rdL_row, if_neg b1]) hR
  | succ d ih =>
    intro m hm
    have hlt : m < (xs.getD y []).length := by omega
    have b1 : (m : Int) < ((xs.getD y []).length : Int) := by omega
    have b2 : (0 : Int) ≤ (m : Int) := Int.natCast_nonneg m
    have hm9 : m < 1000000000 := by omega
    have hd : (xs.getD y []).drop m = (xs.getD y [])[m] :: (xs.getD y []).drop (m + 1) := List.drop_eq_getElem_cons hlt
    have e1 : rd (xs.getD y []) (m : Int) = (xs.getD y [])[m] := by rw [rd_nat, getD_at hlt]
    have e2 : inB (xs.getD y [])[m] 0 ((l.length : Int) - 1) = numB l.length (xs.getD y [])[m] := rfl
    rw [hd, List.all_cons]
    cases hq : numB l.length (xs.getD y [])[m]
    · refine Ev.step (f := fun _ => some 2) (fun k => ?_) (Ev.now _)
      rw [spec_l01Rows.l1, if_pos y1, if_pos y2, rdL_row, if_pos b1, if_pos b2, e1, ew, specIn_f2, e2, hq]; rfl
    · rw [Bool.true_and]
      refine Ev.step (fun k => ?_) (ih (m + 1) (by omega))
      rw [spec_l01Rows.l1, if_pos y1, if_pos y2, rdL_row, if_pos b1, if_pos b2, e1, ew, specIn_f2, e2, hq, wrapS m hm9]; rfl
def rowGood (n w : Nat) (r : List Int) : Bool := decide (r.length = w) && r.all (numB n)
theorem specRows_l0 (C : Int) (l : List STile) (xs : List (List Int)) (hl : l.length ≤ 35184372088832) (hx : xs.length ≤ 10000000) (hr : ∀ r ∈ xs, r.length ≤ 10000000) :
    ∀ d m, m + d = xs.length → Ev (fun k => spec_l01Rows.l0 k xs (m : Int) C l) (if (xs.drop m).all (rowGood l.length (width xs)) = true then 0 else 2) := by
  intro d
  induction d with
  | zero =>
    intro m hm
    have b1 : ¬ (m : Int) < (xs.length : Int) := by omega
    rw [List.drop_of_length_le (by omega), List.all_nil, if_pos rfl]
    exact Ev.step (f := fun _ => some 0) (fun k => by rw [spec_l01Rows.l0, if_neg b1]) (Ev.now _)
  | succ d ih =>
    intro m hm
    have hlt : m < xs.length := by omega
    have b0 : (0 : Int) < (xs.length : Int) := by omega
    have b1 : (m : Int) < (xs.length : Int) := by omega
    have b2 : (0 : Int) ≤ (m : Int) := Int.natCast_nonneg m
    have hm9 : m < 1000000000 := by omega
    have hd : xs.drop m = xs[m] :: xs.drop (m + 1) := List.drop_eq_getElem_cons hlt
    have eg : xs.getD m [] = xs[m] := by rw [List.getD_eq_getElem?_getD, List.getElem?_eq_getElem hlt]; rfl
    have e0 : rd_L1 xs 0 = xs.getD 0 [] := rdL_row xs 0
    have e1 : rd_L1 xs (m : Int) = xs.getD m [] := rdL_row xs m
    have hi := ih (m + 1) (by omega)
    rw [← wrapS m hm9] at hi
    rw [hd, List.all_cons]
    by_cases q1 : ((xs.getD m []).length : Int) = ((xs.getD 0 []).length : Int)
    · have h2 := specRow_ev C l xs m hlt _ hl (by rw [eg]; exact hr _ (List.getElem_mem hlt)) hi (xs.getD m []).length 0 (by omega)
      rw [List.drop_zero] at h2
      have e : (if (rowGood l.length (width xs) xs[m] && (xs.drop (m + 1)).all (rowGood l.length (width xs))) = true then (0 : Int) else 2) = (if (xs.getD m []).all (numB l.length) = true then (if (xs.drop (m + 1)).all (rowGood l.length (width xs)) = true then 0 else 2) else 2) := by
        have : rowGood l.length (width xs) xs[m] = (xs.getD m []).all (numB l.length) := by
          rw [← eg, rowGood, decide_eq_true (show (xs.getD m []).length = width xs by unfold width; omega), Bool.true_and]
        rw [this]
        cases (xs.getD m []).all (numB l.length) <;> rfl
      rw [e]
      exact Ev.step (fun k => by rw [spec_l01Rows.l0, if_pos b1, if_pos b2, if_pos b0, e1, e0, if_pos q1]; rfl) h2
    · have : rowGood l.length (width xs) xs[m] = false := by
        rw [← eg, rowGood, decide_eq_false (show ¬ (xs.getD m []).length = width xs by unfold width; omega), Bool.false_and]
      rw [this]
      exact Ev.step (f := fun _ => some 2) (fun k => by rw [spec_l01Rows.l0, if_pos b1, if_pos b2, if_pos b0, e1, e0, if_neg q1]) (Ev.now _)
theorem tabB_rows {n : Nat} {xs : List (List Int)} (h : 1 ≤ xs.length ∧ xs.length ≤ 8 ∧ 1 ≤ width xs ∧ width xs ≤ 8) : tabB n xs = xs.all (rowGood n (width xs)) := by
  apply Bool.eq_iff_iff.2
  simp only [tabB, numsB, shapeB, Bool.and_eq_true, List.all_eq_true, rowOk, rowGood, decide_eq_true_eq]
  constructor
  · rintro ⟨h1, -, h3⟩ r hr
    exact ⟨(h3 r hr).1, h1 r hr⟩
  · intro h1
    exact ⟨fun r hr => (h1 r hr).2, ⟨h.1, h.2.1⟩, fun r hr => by have := (h1 r hr).1; omega⟩
theorem tabB_out {n : Nat} {xs : List (List Int)} (h : ¬ (1 ≤ xs.length ∧ xs.length ≤ 8 ∧ 1 ≤ width xs ∧ width xs ≤ 8)) : tabB n xs = false := by
  cases hb : tabB n xs
  · rfl
  · have := tab_of hb
    exact absurd ⟨this.h1, this.h8, this.w1, this.w8⟩ h
theorem specRows_ev (C : Int) (l : List STile) (xs : List (List Int)) (hl : l.length ≤ 35184372088832) (hx : xs.length ≤ 10000000) (hr : ∀ r ∈ xs, r.length ≤ 10000000) :
    Ev (fun k => spec_l01Rows.f k C l xs) (if isS C (l.map toT) = true then if tabB l.length xs = true then 0 else 2 else 1) := by
  have hin : inLim l.length = true := by simpa [inLim] using hl
  have hf : Ev (fun k => spec_l01Rows.j0 k xs true C l) 2 := Ev.step (f := fun _ => some 2) (fun k => by rw [spec_l01Rows.j0, if_pos rfl]) (Ev.now _)
  cases hs : isS C (l.map toT)
  · refine Ev.congr (fun k => ?_) (Ev.now _)
    rw [spec_l01Rows.f, spec_l01Is.f, if_pos hin, hs]; rfl
  · rw [if_pos rfl]
    have e0 : rd_L1 xs 0 = xs.getD 0 [] := rdL_row xs 0
    by_cases h1 : (xs.length : Int) < 1
    · rw [tabB_out (by omega)]
      exact Ev.congr (fun k => by rw [spec_l01Rows.f, spec_l01Is.f, if_pos hin, hs, Option.bind_some, if_pos rfl, if_pos h1]) hf
    · by_cases h8 : (xs.length : Int) > 8
      · rw [tabB_out (by omega)]
        exact Ev.congr (fun k => by rw [spec_l01Rows.f, spec_l01Is.f, if_pos hin, hs, Option.bind_some, if_pos rfl, if_neg h1, if_pos h8]) hf
      · have b0 : (0 : Int) < (xs.length : Int) := by omega
        by_cases w1 : ((xs.getD 0 []).length : Int) < 1
        · rw [tabB_out (by unfold width; omega)]
          exact Ev.congr (fun k => by rw [spec_l01Rows.f, spec_l01Is.f, if_pos hin, hs, Option.bind_some, if_pos rfl, if_neg h1, if_neg h8, if_pos b0, e0, if_pos w1]) hf
        · by_cases w8 : ((xs.getD 0 []).length : Int) > 8
          · rw [tabB_out (by unfold width; omega)]
            exact Ev.congr (fun k => by rw [spec_l01Rows.f, spec_l01Is.f, if_pos hin, hs, Option.bind_some, if_pos rfl, if_neg h1, if_neg h8, if_pos b0, e0, if_neg w1, decide_eq_true w8]) hf
          · rw [tabB_rows (by unfold width; omega)]
            refine Ev.congr (f := fun k => spec_l01Rows.j0 k xs false C l) (fun k => by rw [spec_l01Rows.f, spec_l01Is.f, if_pos hin, hs, Option.bind_some, if_pos rfl, if_neg h1, if_neg h8, if_pos b0, e0, if_neg w1, decide_eq_false w8]) ?_
            have := specRows_l0 C l xs hl hx hr xs.length 0 (by omega)
            rw [List.drop_zero] at this
            exact Ev.step (fun k => by rw [spec_l01Rows.j0, if_neg (by simp)]; rfl) this
end Go.Proofs.Ytgdmflmglkakgaa
namespace Go.Proofs.Ytgdmflmglkakgaa
open Go Go.RowKit Go.Proofs
set_option linter.unusedVariables false
set_option linter.unusedSimpArgs false
theorem info2 : (Try.prog.info? 2).map (fun i => (i.zero, i.size, i.bytes)) = some (some (.int .i64 0), 1, 8) := by kernel_rfl
set_option maxHeartbeats 1000000 in
theorem eqInt64S_any (A A' : Option Addr) (ts us : List Int) (n m c c' : Nat) (w : World) (hn : n = ts.length) (hm : m = us.length) (hA : RI w A ts) (hA' : RI w A' us) (hl : ts.length ≤ 35184372088832) (hl' : us.length ≤ 35184372088832) :
    Calls Try.prog 36 #[.slice A n c, .slice A' m c'] w fun e w' => e = .returned (.bool (decide (ts = us))) ∧ Below w.heap.size w w' := by
  have HA := Lib.hid hA; have HA' := Lib.hid hA'; clear hA hA'
  by_cases hlen : n = m
  · have HL := Lib.hid (show ts.length = us.length by omega); have HN := Lib.hid hn; have HM := Lib.hid hlen
    have h1 : ((n : Int) != m) = false := by simp [hlen]
    have hn0 : n ≤ 35184372088832 := by omega
    clear hlen hn hm
    go_enter Try.func36, Try.ntmps36
    go_wp2
    go_loopw [5] (fun i wr => Below w.heap.size w wr ∧ ∃ k : Nat, k ≤ n ∧ i = .int .i64 k ∧ ∀ j, j < k → ik ts j = ik us j) (fun i _ => n - (intOf i).toNat)
    case atStart => exact ⟨Below.refl _ _, 0, by omega, rfl, fun j h => absurd h (by omega)⟩
    case round =>
      obtain ⟨hB, k, hk, rfl, hall⟩ := hrel
      have hT := HA.out.below hB
      have hT' := HA'.out.below hB
      have HB := Lib.hid hB; have HALL := Lib.hid hall; clear hB hall
      by_cases hlt : k < n
      · obtain ⟨b, o, rfl, hb, h0⟩ := hT k (by have := HN.out; omega)
        obtain ⟨b', o', rfl, hb', h0'⟩ := hT' k (by have := HN.out; have := HL.out; omega)
        have i1 : (k : Int) < n := by omega
        have i2 : (k : Int) < m := by have := HM.out; omega
        clear hT hT'
        by_cases he : ik ts k = ik us k
        · have HE := Lib.hid he; clear he
          have he' : (ik ts k != ik us k) = false := by simp [HE.out]
          go_wp2
          refine wp_region_gro (by kernel_rfl) (by kernel_rfl) ?_
          repeat (first | go_big_quiet_step (fail) | quiet_step (fail))
          refine wpQuiet_nil ?_
          intro w1 hB1
          have HB1 := Lib.hid hB1; clear hB1
          go_wp2
          go_roundw
          case rel => exact ⟨HB.out.trans (HB1.out.mono HB.out.size), k + 1, by omega, by go_num, fun j hj => by
            by_cases e : j = k
            · subst e; exact HE.out
            · exact HALL.out j (by omega)⟩
          case measure => simp [intOf]; omega
        · have HE := Lib.hid he; clear he
          have he' : (ik ts k != ik us k) = true := by simpa using HE.out
          go_wp2
          refine wp_region_gro (by kernel_rfl) (by kernel_rfl) ?_
          repeat (first | go_big_quiet_step (fail) | quiet_step (fail))
          refine wpQuiet_nil ?_
          intro w1 hB1
          have HB1 := Lib.hid hB1; clear hB1
          go_wp2
          go_ret
          exact ⟨ret_bool (by have : ts ≠ us := fun e => HE.out (by rw [e])
                              simp [this]), HB.out.trans (HB1.out.mono HB.out.size)⟩
      · go_wp2
        go_ret
        exact ⟨ret_bool (by have : ts = us := eq_of_ik HL.out fun j hj => HALL.out j (by have := HN.out; omega)
                            simp [this]), HB.out⟩
  · have h1 : ((n : Int) != m) = true := by simp; omega
    have HL := Lib.hid (show ts.length ≠ us.length by omega); clear hlen hn hm
    go_enter Try.func36, Try.ntmps36
    go_wp2
    go_ret
    exact ⟨ret_bool (by have : ts ≠ us := fun e => HL.out (by rw [e])
                        simp [this]), Below.refl _ _⟩
end Go.Proofs.Ytgdmflmglkakgaa
namespace Go.Proofs.Ytgdmflmglkakgaa
open Go Go.RowKit Go.Proofs Go.Proofs.YtgdmflmglkakgaaW.PrintWords Go.Proofs.Ytgdmflmglkakgaa.Q
set_option linter.unusedVariables false
set_option linter.unusedSimpArgs false
theorem OW.apart {w w' : World} {lo hi lo' hi' : Nat} {E : TypeId} {size n : Nat} {v : Value} {cells : List Value} (h : OW w lo hi E size v n cells) (k : Only lo' hi' w w')
    (hd : ∀ b, lo' ≤ b → b < hi' → v.ownBlock ≠ some b) : OW w' lo hi E size v n cells := by
  refine ⟨?_, h.up, Nat.le_trans h.top k.size⟩
  obtain ⟨h1, h2⟩ := h.own
  refine ⟨h1, ?_⟩
  rcases h2 with h2 | ⟨g, cap, cur, hv, hg, hh, r⟩
  · exact .inl h2
  · refine .inr ⟨g, cap, cur, hv, hg, ?_, r⟩
    have hb : v.ownBlock = some g := by rw [hv]; rfl
    have hu := h.up g hb
    exact (k.block g (Nat.lt_of_lt_of_le hu h.top) (by
      by_cases h1 : lo' ≤ g
      · by_cases h2 : g < hi'
        · exact absurd hb (hd g h1 h2)
        · exact .inr (by omega)
      · exact .inl (by omega))).trans hh
def tot (m : Nat → Nat) : Nat → Nat
  | 0 => 0
  | n + 1 => tot m n + m n
theorem tot_le (m : Nat → Nat) {i n : Nat} (h : i ≤ n) : tot m i ≤ tot m n := by
  induction n with
  | zero => rw [Nat.le_zero.1 h]; exact Nat.le_refl _
  | succ n ih =>
    rcases Nat.lt_or_ge i (n + 1) with h1 | h1
    · exact Nat.le_trans (ih (by omega)) (Nat.le_add_right _ _)
    · rw [show i = n + 1 by omega]; exact Nat.le_refl _
structure RowsW (w : World) (lo hi g n : Nat) (v : Nat → Value) (m : Nat → Nat) (cs : Nat → List Value) : Prop where
  hdr : ∀ i, i < n → w.cell? ⟨g, i, none⟩ = some (v i)
  row : ∀ i, i < n → OW w lo hi 2 1 (v i) (m i) (cs i)
  apart : ∀ i j, i < n → j < n → i ≠ j → ∀ b, (v i).ownBlock = some b → (v j).ownBlock ≠ some b
  out : ∀ i, i < n → (v i).ownBlock ≠ some g
theorem RowsW.below {w w' : World} {lo hi g n : Nat} {v : Nat → Value} {m : Nat → Nat} {cs : Nat → List Value} (h : RowsW w lo hi g n v m cs) (k : Below w.heap.size w w') : RowsW w' lo hi g n v m cs :=
  ⟨fun i hi => k.cell (World.block_lt_of_cell? w _ (h.hdr i hi)) |>.trans (h.hdr i hi), fun i hi => (h.row i hi).to k, h.apart, h.out⟩
theorem RowsW.set {w w' : World} {lo hi g n : Nat} {v : Nat → Value} {m : Nat → Nat} {cs : Nat → List Value} (h : RowsW w lo hi g n v m cs) {i : Nat} (hi' : i < n) {l u : Nat} (k : Only l u w w')
    (hk : ∀ b, l ≤ b → b < u → (v i).ownBlock = some b) {c : List Value} (hr : OW w' lo hi 2 1 (v i) (m i) c) : RowsW w' lo hi g n v m (fun j => if j = i then c else cs j) := by
  refine ⟨fun j hj => ?_, fun j hj => ?_, h.apart, h.out⟩
  · refine cell_only k ?_ (h.hdr j hj)
    by_cases h1 : l ≤ g
    · by_cases h2 : g < u
      · exact absurd (hk g h1 h2) (h.out i hi')
      · exact .inr (by omega)
    · exact .inl (by omega)
  · by_cases e : j = i
    · subst e; simpa using hr
    · simp only [if_neg e]
      exact (h.row j hj).apart k fun b h1 h2 => h.apart i j hi' hj (fun e2 => e e2.symm) b (hk b h1 h2)
theorem Only.into {lo hi l u : Nat} {w w' : World} (h : Only l u w w') (k : ∀ b, l ≤ b → b < u → lo ≤ b ∧ b < hi) : Only lo hi w w' :=
  ⟨h.os, h.tape, h.output, h.size, fun i hi' hd => h.block i hi' (by
    by_cases h1 : l ≤ i
    · by_cases h2 : i < u
      · have := k i h1 h2
        omega
      · exact .inr (by omega)
    · exact .inl (by omega))⟩
theorem OW.into {w : World} {lo hi l u : Nat} {E : TypeId} {size n : Nat} {v : Value} {cells : List Value} (h : OW w l u E size v n cells) (k : ∀ b, v.ownBlock = some b → lo ≤ b ∧ b < hi) (ht : hi ≤ w.heap.size) : OW w lo hi E size v n cells := by
  refine ⟨?_, fun b hb => (k b hb).2, ht⟩
  obtain ⟨h1, h2⟩ := h.own
  refine ⟨h1, ?_⟩
  rcases h2 with h2 | ⟨g, cap, cur, hv, hg, r⟩
  · exact .inl h2
  · exact .inr ⟨g, cap, cur, hv, (k g (by rw [hv]; rfl)).1, r⟩
theorem RowsW.congr {w : World} {lo hi g n : Nat} {v : Nat → Value} {m : Nat → Nat} {cs cs' : Nat → List Value} (h : RowsW w lo hi g n v m cs) (e : ∀ i, i < n → cs i = cs' i) : RowsW w lo hi g n v m cs' :=
  ⟨h.hdr, fun i hi => by rw [← e i hi]; exact h.row i hi, h.apart, h.out⟩
def rowAt (xs : List (List Int)) (i : Nat) : List Int := xs.getD i []
def rowLen (xs : List (List Int)) (i : Nat) : Nat := (rowAt xs i).length
structure OWS (w : World) (lo hi : Nat) (v : Value) (xs : List (List Int)) (cs : Nat → List Value) : Prop where
  ex : ∃ A c g hv, v = .slice A xs.length c ∧ (xs.length ≤ c ∧ c ≤ 9223372036854775807) ∧ (0 < xs.length → A = some ⟨g, 0, none⟩ ∧ lo ≤ g ∧ g < hi) ∧ RowsW w lo hi g xs.length hv (rowLen xs) cs
  top : hi ≤ w.heap.size
theorem OWS.form0 {w : World} {lo hi : Nat} {v : Value} {xs : List (List Int)} {cs : Nat → List Value} (h : OWS w lo hi v xs cs) : ∃ A c, v = .slice A xs.length c := by
  obtain ⟨A, c, g, hv, rfl, -⟩ := h.ex
  exact ⟨A, c, rfl⟩
theorem OWS.only {w w' : World} {lo hi lo' hi' : Nat} {v : Value} {xs : List (List Int)} {cs : Nat → List Value} (h : OWS w lo hi v xs cs) (k : Only lo' hi' w w') (hd : hi ≤ lo' ∨ hi' ≤ lo) : OWS w' lo hi v xs cs := by
  obtain ⟨A, c, g, hv, rfl, hc, hA, hr⟩ := h.ex
  exact ⟨⟨A, c, g, hv, rfl, hc, hA, ⟨fun i hi' => cell_only k (by have := hA (by omega); omega) (hr.hdr i hi'), fun i hi' => (hr.row i hi').only k hd, hr.apart, hr.out⟩⟩, Nat.le_trans h.top k.size⟩
theorem OWS.to {w w' : World} {lo hi : Nat} {v : Value} {xs : List (List Int)} {cs : Nat → List Value} (h : OWS w lo hi v xs cs) (k : Below w.heap.size w w') : OWS w' lo hi v xs cs :=
  h.only (only_of k w.heap.size w.heap.size) (.inl h.top)
def RR (w : World) (A : Option Addr) (xs : List (List Int)) : Prop :=
  ∀ k, k < xs.length → ∃ b o A' c', A = some ⟨b, o, none⟩ ∧ b < w.heap.size ∧ w.cell? ⟨b, o + k, none⟩ = some (.slice A' (rowLen xs k) c') ∧ RI w A' (rowAt xs k) ∧ rowLen xs k ≤ c' ∧ rowLen xs k ≤ 9223372036854775807
theorem RR.below {w w' : World} {A : Option Addr} {xs : List (List Int)} (h : RR w A xs) (hb : Below w.heap.size w w') : RR w' A xs := by
  intro k hk
  obtain ⟨b, o, A', c', e, hlt, hc, hr, h1, h2⟩ := h k hk
  exact ⟨b, o, A', c', e, Nat.lt_of_lt_of_le hlt hb.size, (hb.cell (World.block_lt_of_cell? w _ hc)).trans hc, hr.below hb, h1, h2⟩
theorem rowAt_get {xs : List (List Int)} {j : Nat} {p : List Int} (h : xs[j]? = some p) : rowAt xs j = p := by simp [rowAt, List.getD, h]
theorem rowAt_at {xs : List (List Int)} {j : Nat} (h : j < xs.length) : rowAt xs j = xs[j] := rowAt_get (List.getElem?_eq_getElem h)
theorem rowLen_at {xs : List (List Int)} {j : Nat} {p : List Int} (h : xs[j]? = some p) : rowLen xs j = p.length := by rw [rowLen, rowAt_get h]
theorem OW.len {w : World} {lo hi : Nat} {E : TypeId} {size n : Nat} {v : Value} {cells : List Value} (h : OW w lo hi E size v n cells) : n ≤ 9223372036854775807 := by
  obtain ⟨A, c, -, h⟩ := h.form
  rcases h with ⟨-, rfl, -⟩ | ⟨g, cur, -, -, -, -, h1, h2, -⟩ <;> omega
theorem rr_of {w : World} {lo hi : Nat} {A : Option Addr} {n c : Nat} {xs : List (List Int)} (h : OWS w lo hi (.slice A n c) xs (fun i => icells (rowAt xs i))) (hn : n = xs.length) : RR w A xs := by
  obtain ⟨A', c', g, hv, e, -, hA, hr⟩ := h.ex
  injection e with e1 e2 e3
  subst e1
  intro k hk
  obtain ⟨A2, c2, e2, hri, hle⟩ := (hr.row k hk).readsI
  have hc := hr.hdr k hk
  rw [e2] at hc
  refine ⟨g, 0, A2, c2, (hA (by omega)).1, World.block_lt_of_cell? w _ hc, by rw [Nat.zero_add]; exact hc, hri, hle, (hr.row k hk).len⟩
theorem C_of_rr {w : World} {A : Option Addr} {xs : List (List Int)} (h : RR w A xs) (hl : xs.length ≤ 9223372036854775807) : Kd.C (Kd.slice 2 (Kd.int .i64)) w A xs.length xs := by
  refine ⟨rfl, hl, fun hn => ?_⟩
  obtain ⟨b, o, -, -, e, -⟩ := h 0 hn
  refine ⟨_, e, fun j p hj => ?_⟩
  have hjl := (List.getElem?_eq_some_iff.1 hj).1
  obtain ⟨b', o', A', c', e', -, hc, hr, h1, h2⟩ := h j hjl
  rw [e] at e'
  injection e' with e'; injection e' with e1 e2; subst e1 e2
  rw [rowLen_at hj] at hc h1 h2
  rw [rowAt_get hj] at hr
  refine ⟨[.slice A' p.length c'], rfl, ⟨A', c', rfl, h1, C_of_ri hr h2⟩, fun i u hu => ?_⟩
  have e1 : (Kd.slice 2 (Kd.int IntKind.i64)).sz = 1 := rfl
  match i, hu with
  | 0, hu => simp at hu; subst hu; rw [e1, Nat.mul_one, Nat.add_zero, add_off]; exact hc
  | i + 1, hu => simp at hu
theorem rr_of_C {w : World} {A : Option Addr} {xs : List (List Int)} (h : Kd.C (Kd.slice 2 (Kd.int .i64)) w A xs.length xs) : RR w A xs := by
  intro k hk
  obtain ⟨ad, e, hc⟩ := h.2.2 (by omega)
  have e1 : (Kd.slice 2 (Kd.int IntKind.i64)).sz = 1 := rfl
  obtain ⟨c, hcl, ⟨A', c', rfl, hl, hC⟩, hcell⟩ := hc k _ (List.getElem?_eq_getElem hk)
  have h0 := hcell 0 _ rfl
  rw [e1, Nat.mul_one, Nat.add_zero] at h0
  obtain ⟨c0, -, ⟨A0, c0', rfl, -, -⟩, hcell0⟩ := hc 0 _ (List.getElem?_eq_getElem (show 0 < xs.length by omega))
  have h00 := hcell0 0 _ rfl
  have hs : ad.spot = none := by
    have := spot_none h00
    simpa [Addr.add] using this
  obtain ⟨b, o, s⟩ := ad
  simp only at hs
  subst hs
  rw [add_off] at h0
  have hb := World.block_lt_of_cell? w _ h0
  have e2 := rowLen_at (List.getElem?_eq_getElem hk)
  refine ⟨b, o, A', c', e, hb, by rw [e2]; exact h0, by rw [rowAt_at hk]; exact ri_of_C hC, by rw [e2]; exact hl, by rw [e2]; exact hC.2.1⟩
theorem ows_of_S {w : World} {base : Nat} {v : Value} {xs : List (List Int)} {ok : Nat → Prop} (h : Kd.S (Kd.slice 2 (Kd.int .i64)) 46 w base ok v xs) : OWS w base w.heap.size v xs (fun i => icells (rowAt xs i)) := by
  obtain ⟨f, -, inner, ho, hr⟩ := h
  have hz : xs.zipIdx.length = xs.length := List.length_zipIdx
  rw [hz] at ho
  have e1 : (Kd.tag f (Kd.slice 2 (Kd.int IntKind.i64))).sz = 1 := rfl
  rw [e1] at ho hr
  have each : ∀ i, i < xs.length → ∃ v', inner[i]? = some v' ∧ Kd.R (Kd.int .i64) 2 w base (fun k => (ok k ∧ some k ≠ v.ownBlock) ∧ f k = i) v' (rowAt xs i) := by
    intro i hi
    have hj : xs[i]? = some (rowAt xs i) := by rw [rowAt_at hi]; exact List.getElem?_eq_getElem hi
    obtain ⟨v', hv', hR⟩ := hr.2 i _ (Kd.zip_at hj)
    refine ⟨v', ?_, hR⟩
    have hl : i < inner.length := by rw [hr.1, hz]; omega
    rw [Nat.mul_one, List.drop_eq_getElem_cons hl, List.take_succ_cons, List.take_zero] at hv'
    rw [List.getElem?_eq_getElem hl]
    exact congrArg some (List.cons.inj hv').1
  have hrows : ∀ g c, v = .slice (some ⟨g, 0, none⟩) xs.length c → RowsW w base w.heap.size g xs.length (fun i => inner.getD i default) (rowLen xs) (fun i => icells (rowAt xs i)) := by
    intro g c hv
    subst hv
    have hd : ∀ i v', inner[i]? = some v' → inner.getD i default = v' := fun i v' h => by rw [List.getD_eq_getElem?_getD, h]; rfl
    refine ⟨fun i hi => ?_, fun i hi => ?_, fun i j hi hj hne b hb hb2 => ?_, fun i hi hb => ?_⟩
    · obtain ⟨v', e, -⟩ := each i hi
      rw [hd i v' e]
      exact own_cell ho e
    · obtain ⟨v', e, hR⟩ := each i hi
      simp only [hd i v' e]
      exact ow_of_R hR
    · obtain ⟨v', e, hR⟩ := each i hi
      obtain ⟨v2, e2, hR2⟩ := each j hj
      rw [hd i v' e] at hb
      rw [hd j v2 e2] at hb2
      exact hne ((hR.1 b hb).2.symm.trans (hR2.1 b hb2).2)
    · obtain ⟨v', e, hR⟩ := each i hi
      rw [hd i v' e] at hb
      exact (hR.1 g hb).1.2 rfl
  rcases ho.2 with ⟨rfl, hn⟩ | ⟨g, cap, cur, rfl, hb, hg, hle, hm, hsz, -⟩
  · refine ⟨⟨none, 0, 0, fun _ => .slice none 0 0, by rw [hn], by omega, fun h => by omega, ⟨fun i hi => by omega, fun i hi => by omega, fun i j hi => by omega, fun i hi => by omega⟩⟩, Nat.le_refl _⟩
  · exact ⟨⟨_, cap, g, _, rfl, ⟨hle, by simpa [maxLen] using hm⟩, fun _ => ⟨rfl, hb, (Array.getElem?_eq_some_iff.1 hg).1⟩, hrows g cap rfl⟩, Nat.le_refl _⟩
def rowsz0 (xs : List (List Int)) : Nat := tot (rowLen xs) xs.length
theorem rowsz0_row {xs : List (List Int)} {i : Nat} (h : i < xs.length) : rowLen xs i ≤ rowsz0 xs := by
  have := tot_le (rowLen xs) (show i + 1 ≤ xs.length from h)
  rw [tot] at this
  unfold rowsz0
  omega
theorem OWS.congr {w : World} {lo hi : Nat} {v : Value} {xs : List (List Int)} {cs cs' : Nat → List Value} (h : OWS w lo hi v xs cs) (e : ∀ i, i < xs.length → cs i = cs' i) : OWS w lo hi v xs cs' := by
  obtain ⟨A, c, g, hv, e1, hc, hA, hr⟩ := h.ex
  exact ⟨⟨A, c, g, hv, e1, hc, hA, hr.congr e⟩, h.top⟩
theorem rows_eq {ts us : List (List Int)} (hl : ts.length = us.length) (h : ∀ j, j < ts.length → rowAt ts j = rowAt us j) : ts = us := by
  apply List.ext_getElem hl
  intro j h1 h2
  have := h j h1
  rwa [rowAt_at h1, rowAt_at h2] at this
set_option maxHeartbeats 1000000 in
theorem eqInt64SS_any (A A' : Option Addr) (ts us : List (List Int)) (n m c c' : Nat) (w : World) (hn : n = ts.length) (hm : m = us.length) (hA : RR w A ts) (hA' : RR w A' us) (hl : ts.length ≤ 35184372088832 ∧ rowsz0 ts ≤ 35184372088832) (hl' : us.length ≤ 35184372088832 ∧ rowsz0 us ≤ 35184372088832) :
    Calls Try.prog 14 #[.slice A n c, .slice A' m c'] w fun e w' => e = .returned (.bool (decide (ts = us))) ∧ Below w.heap.size w w' := by
  have HA := Lib.hid hA; have HA' := Lib.hid hA'; clear hA hA'
  by_cases hlen : n = m
  · have HL := Lib.hid (show ts.length = us.length by omega); have HN := Lib.hid hn; have HM := Lib.hid hlen
    have h1 : ((n : Int) != m) = false := by simp [hlen]
    have hn0 : n ≤ 35184372088832 := by omega
    clear hlen hn hm
    go_enter Try.func14, Try.ntmps14
    go_wp2
    go_loopw [5] (fun i wr => Below w.heap.size w wr ∧ ∃ k : Nat, k ≤ n ∧ i = .int .i64 k ∧ ∀ j, j < k → rowAt ts j = rowAt us j) (fun i _ => n - (intOf i).toNat)
    case atStart => exact ⟨Below.refl _ _, 0, by omega, rfl, fun j h => absurd h (by omega)⟩
    case round =>
      obtain ⟨hB, k, hk, rfl, hall⟩ := hrel
      have hT := HA.out.below hB
      have hT' := HA'.out.below hB
      have HB := Lib.hid hB; have HALL := Lib.hid hall; clear hB hall
      by_cases hlt : k < n
      · have k1 : k < ts.length := by have := HN.out; omega
        have k2 : k < us.length := by have := HL.out; omega
        have r1 : rowLen ts k ≤ 35184372088832 := Nat.le_trans (rowsz0_row k1) hl.2
        have r2 : rowLen us k ≤ 35184372088832 := Nat.le_trans (rowsz0_row k2) hl'.2
        have HK := Lib.hid (And.intro k1 k2)
        obtain ⟨b, o, A1, c1, rfl, hb, h0, hr, -⟩ := hT k k1
        obtain ⟨b', o', A2, c2, rfl, hb', h0', hr', -⟩ := hT' k k2
        have HR := Lib.hid hr; have HR' := Lib.hid hr'
        have i1 : (k : Int) < n := by omega
        have i2 : (k : Int) < m := by have := HM.out; omega
        clear hT hT' hr hr' k1 k2
        by_cases he : rowAt ts k = rowAt us k
        · have HE := Lib.hid (show decide (rowAt ts k = rowAt us k) = true by simpa using he); clear he
          go_wp2
          refine wp_region_gro (by kernel_rfl) (by kernel_rfl) ?_
          repeat (first | go_big_quiet_step (((go_at_call 36; exact quiet_call (by have h := eqInt64S_any A1 A2 (rowAt ts k) (rowAt us k) (rowLen ts k) (rowLen us k) c1 c2 (gro wr ‹GP›) rfl rfl (HR.out.below (gro_below wr _)) (HR'.out.below (gro_below wr _)) r1 r2; rw [HE.out] at h; exact h)))) | quiet_step (((go_at_call 36; exact quiet_call (by have h := eqInt64S_any A1 A2 (rowAt ts k) (rowAt us k) (rowLen ts k) (rowLen us k) c1 c2 (gro wr ‹GP›) rfl rfl (HR.out.below (gro_below wr _)) (HR'.out.below (gro_below wr _)) r1 r2; rw [HE.out] at h; exact h)))))
          refine wpQuiet_nil ?_
          intro w1 hB1
          have HB1 := Lib.hid hB1; clear hB1
          go_wp2
          go_roundw
          case rel => exact ⟨HB.out.trans (HB1.out.mono HB.out.size), k + 1, by omega, by go_num, fun j hj => by
            by_cases e : j = k
            · subst e; exact of_decide_eq_true HE.out
            · exact HALL.out j (by omega)⟩
          case measure => simp [intOf]; omega
        · have HE := Lib.hid (show decide (rowAt ts k = rowAt us k) = false by simpa using he); clear he
          go_wp2
          refine wp_region_gro (by kernel_rfl) (by kernel_rfl) ?_
          repeat (first | go_big_quiet_step (((go_at_call 36; exact quiet_call (by have h := eqInt64S_any A1 A2 (rowAt ts k) (rowAt us k) (rowLen ts k) (rowLen us k) c1 c2 (gro wr ‹GP›) rfl rfl (HR.out.below (gro_below wr _)) (HR'.out.below (gro_below wr _)) r1 r2; rw [HE.out] at h; exact h)))) | quiet_step (((go_at_call 36; exact quiet_call (by have h := eqInt64S_any A1 A2 (rowAt ts k) (rowAt us k) (rowLen ts k) (rowLen us k) c1 c2 (gro wr ‹GP›) rfl rfl (HR.out.below (gro_below wr _)) (HR'.out.below (gro_below wr _)) r1 r2; rw [HE.out] at h; exact h)))))
          refine wpQuiet_nil ?_
          intro w1 hB1
          have HB1 := Lib.hid hB1; clear hB1
          go_wp2
          go_ret
          exact ⟨ret_bool (by have : ts ≠ us := fun e => of_decide_eq_false HE.out (by rw [e])
                              simp [this]), HB.out.trans (HB1.out.mono HB.out.size)⟩
      · go_wp2
        go_ret
        exact ⟨ret_bool (by have : ts = us := rows_eq HL.out fun j hj => HALL.out j (by have := HN.out; omega)
                            simp [this]), HB.out⟩
  · have h1 : ((n : Int) != m) = true := by simp; omega
    have HL := Lib.hid (show ts.length ≠ us.length by omega); clear hlen hn hm
    go_enter Try.func14, Try.ntmps14
    go_wp2
    go_ret
    exact ⟨ret_bool (by have : ts ≠ us := fun e => HL.out (by rw [e])
                        simp [this]), Below.refl _ _⟩
end Go.Proofs.Ytgdmflmglkakgaa
namespace Go.Proofs.Ytgdmflmglkakgaa
open Go Go.RowKit Go.Proofs Go.Proofs.YtgdmflmglkakgaaW.PrintWords Go.Proofs.YtgdmflmglkakgaaW.PrintLast Go.Proofs.YtgdmflmglkakgaaW.PrintMore Go.Proofs.Ytgdmflmglkakgaa.Q
set_option linter.unusedVariables false
set_option linter.unusedSimpArgs false
theorem below_set4g {w0 w : World} {g : Nat} (h : Below w0.heap.size w0 w) (hg : w0.heap.size ≤ g) (v0 v1 v2 v3 : Value) : Below w0.heap.size w0 ((((w.setCell ⟨g, 0, none⟩ v0).setCell ⟨g, 1, none⟩ v1).setCell ⟨g, 2, none⟩ v2).setCell ⟨g, 3, none⟩ v3) :=
  (((h.setCell hg _).setCell hg _).setCell hg _).setCell hg _
def good_T7 : Bool × List (List Nat × List Nat) := (true, [([], []), ([0], [0]), ([], []), ([], []), ([2, 3], [2, 3]), ([4], [4]), ([], []), ([5, 6], [5, 6]), ([7], [7]), ([1, 8], [1, 8]), ([9], [9]), ([], []), ([11, 10, 0, 1, 2, 3, 4, 5, 6, 7, 8, 9, 10, 11], [10, 11])])
def good_B7 : List Nat := [0, 1, 0, 0, 12, 28, 0, 124, 252, 511, 1023, 0, 4095]
theorem good_tab7 : rtab .any (opsOf Try.f28 7) = good_T7 := by kernel_rfl
theorem good_bits7 : waitsOk good_T7.2 good_B7 = true := by kernel_rfl
theorem bad_at {l : List STile} {xs : List (List Int)} {y x : Nat} (hy : y < xs.length) (hx : x < width xs) (h : cellB l xs y x = false) : goodB l xs = false :=
  allN_false (Nat.zero_le y) (by omega) (allN_false (Nat.zero_le x) (by omega) h)
theorem tile_get {ts : List T4} {q : Nat} (h : q < ts.length) : tileAt (ts.map toS) (q : Int) = toS (tk ts q) := by
  simp [tileAt, rd_T63, List.getD, List.getElem?_map, List.getElem?_eq_getElem h, tk]
set_option maxHeartbeats 8000000 in
set_option maxRecDepth 100000 in
theorem good_any (C : Int) (A : Option Addr) (ts : List T4) (n c : Nat) (A' : Option Addr) (xs : List (List Int)) (m c' : Nat) (w : World) (hn : n = ts.length) (hA : RT w A ts) (hl : n ≤ 35184372088832) (hm : m = xs.length) (hA' : RR w A' xs) (ht : Tab ts.length xs) :
    Calls Try.prog 28 #[.agg #[.int .i64 C, .slice A n c], .slice A' m c'] w fun e w' => e = .returned (.bool (goodB (ts.map toS) xs)) ∧ Below w.heap.size w w' := by
  have HA := Lib.hid hA; have HN := Lib.hid hn; have HA' := Lib.hid hA'; have HM := Lib.hid hm; have HT := Lib.hid ht
  have m8 : m ≤ 8 := by have := ht.h8; omega
  clear hA hn hA' hm ht
  go_enter Try.func28, Try.ntmps28
  go_wp2_with fail
  refine name1 ?_
  intro W1 b1 hz hb0
  have HB0 := Lib.hid hb0; clear hb0 hz
  go_loopw [5, 6, 7] (fun i _ _ wr => Below W1.heap.size W1 wr ∧ ∃ y : Nat, y ≤ m ∧ i = .int .i64 y ∧ ∀ j, j < y → rowB (ts.map toS) xs j = true) (fun i _ _ _ => m - (intOf i).toNat)
  case atStart => exact ⟨Below.refl _ _, 0, by omega, rfl, fun j h => absurd h (by omega)⟩
  case round =>
    obtain ⟨hB, y, hy, rfl, hall⟩ := hrel
    have b1' := b1.below hB b1.lt
    have HE := Lib.hid (below_to HB0.out hB)
    have HB := Lib.hid hB; have HALL := Lib.hid hall; clear hB hall
    by_cases hlt : y < m
    · have HY := Lib.hid (show y < xs.length by have := HM.out; omega)
      have i1 : (y : Int) < m := by omega
      go_wp2_with fail
      obtain ⟨wo, rfl⟩ : ∃ wo : World, wo = wr := ⟨_, rfl⟩
      go_loopw [6, 7] (fun i _ wr => Below W1.heap.size W1 wr ∧ ∃ x : Nat, x ≤ width xs ∧ i = .int .i64 x ∧ ∀ j, j < x → cellB (ts.map toS) xs y j = true) (fun i _ _ => width xs - (intOf i).toNat)
      case atStart => exact ⟨HB.out, 0, by omega, rfl, fun j h => absurd h (by omega)⟩
      case round =>
        obtain ⟨hB2, x, hx, rfl, hall2⟩ := hrel
        have b2 := b1.below hB2 b1.lt
        have HE2 := Lib.hid (below_to HB0.out hB2)
        have HB2 := Lib.hid hB2; have HALL2 := Lib.hid hall2; clear hB2 hall2 b1'
        have a1 : wr.cell? ⟨w.heap.size, 1, none⟩ = some (.slice A n c) := b2.cell rfl
        have l1 := b2.lt
        have hlen : rowLen xs y = width xs := HT.out.len y HY.out
        obtain ⟨b, o, Ay, cy, hAe, hb, h0, hr, -, -⟩ := (HA'.out.below HE2.out) y HY.out
        subst hAe
        have w8 := HT.out.w8
        have r1 : rowLen xs y ≤ 35184372088832 := by omega
        by_cases hx2 : x < width xs
        · have i2 : (x : Int) < rowLen xs y := by omega
          obtain ⟨by_, oy, hAy, hby, hrx⟩ := hr x (by show x < rowLen xs y; omega)
          rw [hlen] at h0 i2 r1
          subst hAy
          obtain ⟨q, hq⟩ : ∃ q : Nat, cell xs y x = q := ⟨(cell xs y x).toNat, by have := HT.out.lo y x HY.out hx2; omega⟩
          have hqlt : q < ts.length := by have := HT.out.up y x HY.out hx2; omega
          have i3 : (q : Int) < n := by have := HN.out; omega
          rw [show ik (rowAt xs y) x = (q : Int) from hq] at hrx
          obtain ⟨bt, ot, hAt, hbt, t0, t1, t2, t3⟩ := (HA.out.below HE2.out) q hqlt
          subst hAt
          have HQ := Lib.hid hq; have HQL := Lib.hid hqlt
          have HRI := Lib.hid hr
          clear hq hqlt hr hlen
          go_wp2_with fail
          have hW1 := (Below.refl wr.heap.size wr).drew
          have d1 := cell_to hW1 a1; have d2 := cell_to hW1 h0; have d3 := cell_to hW1 hrx; have d4 := cell_to hW1 t0; have d5 := cell_to hW1 t1; have d6 := cell_to hW1 t2; have d7 := cell_to hW1 t3
          have k1 := lt_to hW1 l1; have k2 := lt_to hW1 hb; have k3 := lt_to hW1 hby; have k4 := lt_to hW1 hbt
          have HE3 := Lib.hid (below_to HE2.out hW1); have HB3 := Lib.hid (below_to HB2.out hW1); have HRI3 := Lib.hid (HRI.out.below hW1)
          clear a1 h0 hrx t0 t1 t2 t3 l1 hb hby hbt hW1 HRI b2
          refine start_ (n := 13) (S := fun w_ => w_.cell? ⟨w.heap.size, 1, none⟩ = some (.slice (some ⟨bt, ot, none⟩) n c) ∧ w_.cell? ⟨b, o + y, none⟩ = some (.slice (some ⟨by_, oy, none⟩) (width xs) cy) ∧ w_.cell? ⟨by_, oy + x, none⟩ = some (.int .i64 q) ∧ w_.cell? ⟨bt, ot + q * 4, none⟩ = some (.int .i64 ((tk ts q).get 0)) ∧ w_.cell? ⟨bt, ot + q * 4 + 1, none⟩ = some (.int .i64 ((tk ts q).get 1)) ∧ w_.cell? ⟨bt, ot + q * 4 + 2, none⟩ = some (.int .i64 ((tk ts q).get 2)) ∧ w_.cell? ⟨bt, ot + q * 4 + 3, none⟩ = some (.int .i64 ((tk ts q).get 3))) (ds := []) #[false, false, false, false, false, false, false, false, false, false, false, false, false] (by kernel_rfl) rfl rfl ⟨d1, d2, d3, d4, d5, d6, d7⟩ (fun hHeld => ?_); refine with_tabW good_tab7 good_bits7 (fun HT_ HW_ => ?_)
          generalize wr.drew = wd at d1 d2 d3 d4 d5 d6 d7 k1 k2 k3 k4 HE3 HB3 HRI3 hHeld ⊢
          refine pure_ (i := 0) (N := some 23) (v := ?_) (a' := ?_) #[true, false, false, false, false, false, false, false, false, false, false, false, false] rfl rfl (any_of HT_.out (by kernel_rfl)) (fun _ _ _ h => h) (Or.inl ⟨by rfl, ?_⟩) ?_ ?_
          rotate_left
          · intro w'
            go_simp
            with_reducible rfl
          rotate_left
          · simp only [Act.put, List.setIfInBounds_toArray, List.set_cons_zero, List.set_cons_succ, i64_w, i32_w]
            rfl
          refine pure_ (i := 2) (N := some 25) (v := ?_) (a' := ?_) #[true, false, true, false, false, false, false, false, false, false, false, false, false] rfl rfl (any_of HT_.out (by kernel_rfl)) (fun _ _ _ h => h) (Or.inl ⟨by rfl, ?_⟩) ?_ ?_
          rotate_left
          · intro w'
            go_simp
            with_reducible rfl
          rotate_left
          · simp only [Act.put, List.setIfInBounds_toArray, List.set_cons_zero, List.set_cons_succ, i64_w, i32_w]
            rfl
          refine pure_ (i := 3) (N := some 26) (v := ?_) (a' := ?_) #[true, false, true, true, false, false, false, false, false, false, false, false, false] rfl rfl (any_of HT_.out (by kernel_rfl)) (fun _ _ _ h => h) (Or.inl ⟨by rfl, ?_⟩) ?_ ?_
          rotate_left
          · intro w'
            go_simp
            with_reducible rfl
          rotate_left
          · simp only [Act.put, List.setIfInBounds_toArray, List.set_cons_zero, List.set_cons_succ, i64_w, i32_w]
            rfl
          refine pure_ (i := 4) (N := some 27) (v := ?_) (a' := ?_) #[true, false, true, true, true, false, false, false, false, false, false, false, false] rfl rfl (any_of HT_.out (by kernel_rfl)) (fun _ _ _ h => h) (Or.inl ⟨by rfl, ?_⟩) ?_ ?_
          rotate_left
          · intro w'
            go_simp
            with_reducible rfl
          rotate_left
          · simp only [Act.put, List.setIfInBounds_toArray, List.set_cons_zero, List.set_cons_succ, i64_w, i32_w]
            rfl
          refine pure_ (i := 6) (N := some 29) (v := ?_) (a' := ?_) #[true, false, true, true, true, false, true, false, false, false, false, false, false] rfl rfl (any_of HT_.out (by kernel_rfl)) (fun _ _ _ h => h) (Or.inl ⟨by rfl, ?_⟩) ?_ ?_
          rotate_left
          · intro w'
            go_simp
            with_reducible rfl
          rotate_left
          · simp only [Act.put, List.setIfInBounds_toArray, List.set_cons_zero, List.set_cons_succ, i64_w, i32_w]
            rfl
          refine take_ (i := 1) (N := some 24) (v := ?_) (a' := ?_) #[true, true, true, true, true, false, true, false, false, false, false, false, false] rfl rfl (take_ofW HT_.out HW_.out (by kernel_rfl)) (fun _ _ _ h => h) (Or.inl ⟨by rfl, ?_⟩) hHeld ?_ ?_
          rotate_left
          · rintro w' ⟨s0, s1, s2, s3, s4, s5, s6⟩
            go_simp
            with_reducible rfl
          rotate_left
          · simp only [Act.put, List.setIfInBounds_toArray, List.set_cons_zero, List.set_cons_succ, i64_w, i32_w]
            rfl
          refine take_ (i := 5) (N := some 28) (v := ?_) (a' := ?_) #[true, true, true, true, true, true, true, false, false, false, false, false, false] rfl rfl (take_ofW HT_.out HW_.out (by kernel_rfl)) (fun _ _ _ h => h) (Or.inl ⟨by rfl, ?_⟩) hHeld ?_ ?_
          rotate_left
          · rintro w' ⟨s0, s1, s2, s3, s4, s5, s6⟩
            go_simp
            with_reducible rfl
          rotate_left
          · simp only [Act.put, List.setIfInBounds_toArray, List.set_cons_zero, List.set_cons_succ, i64_w, i32_w]
            rfl
          refine pure_ (i := 7) (N := some 30) (v := ?_) (a' := ?_) #[true, true, true, true, true, true, true, true, false, false, false, false, false] rfl rfl (any_of HT_.out (by kernel_rfl)) (fun _ _ _ h => h) (Or.inl ⟨by rfl, ?_⟩) ?_ ?_
          rotate_left
          · intro w'
            go_simp
            with_reducible rfl
          rotate_left
          · simp only [Act.put, List.setIfInBounds_toArray, List.set_cons_zero, List.set_cons_succ, i64_w, i32_w]
            rfl
          refine take_ (i := 8) (N := some 31) (v := ?_) (a' := ?_) #[true, true, true, true, true, true, true, true, true, false, false, false, false] rfl rfl (take_ofW HT_.out HW_.out (by kernel_rfl)) (fun _ _ _ h => h) (Or.inl ⟨by rfl, ?_⟩) hHeld ?_ ?_
          rotate_left
          · rintro w' ⟨s0, s1, s2, s3, s4, s5, s6⟩
            go_simp
            with_reducible rfl
          rotate_left
          · simp only [Act.put, List.setIfInBounds_toArray, List.set_cons_zero, List.set_cons_succ, i64_w, i32_w]
            rfl
          refine pure_ (i := 9) (N := some 32) (v := ?_) (a' := ?_) #[true, true, true, true, true, true, true, true, true, true, false, false, false] rfl rfl (any_of HT_.out (by kernel_rfl)) (fun _ _ _ h => h) (Or.inl ⟨by rfl, ?_⟩) ?_ ?_
          rotate_left
          · intro w'
            go_simp
            with_reducible rfl
          rotate_left
          · simp only [Act.put, List.setIfInBounds_toArray, List.set_cons_zero, List.set_cons_succ, i64_w, i32_w]
            rfl
          refine take_ (i := 10) (N := some 33) (v := ?_) (a' := ?_) #[true, true, true, true, true, true, true, true, true, true, true, false, false] rfl rfl (take_ofW HT_.out HW_.out (by kernel_rfl)) (fun _ _ _ h => h) (Or.inl ⟨by rfl, ?_⟩) hHeld ?_ ?_
          rotate_left
          · rintro w' ⟨s0, s1, s2, s3, s4, s5, s6⟩
            go_simp
            with_reducible rfl
          rotate_left
          · simp only [Act.put, List.setIfInBounds_toArray, List.set_cons_zero, List.set_cons_succ, i64_w, i32_w]
            rfl
          refine one_ (i := 11) (N := some 7) #[true, true, true, true, true, true, true, true, true, true, true, true, false] rfl rfl (one_of HT_.out (by kernel_rfl)) (by decide) (fun K hK => ?_)
          refine box_step ?hg (N := 7) ?hd (cs := #[.int .i64 0, .int .i64 0, .int .i64 0, .int .i64 0]) (t := 63) ?hr ?_; (case hd => rfl); (case hg => rfl); (case hr => first | (go_simp; done) | (go_simp; rfl))
          intro gb hg w27 hbox hb
          have G1 : wd.heap.size ≤ gb := Nat.le_of_eq hg.symm
          have bT : BK w27 gb #[.int .i64 0, .int .i64 0, .int .i64 0, .int .i64 0] 63 := hbox
          clear hg hbox
          refine hK.out _ _ ⟨cell_to hb hHeld.1, cell_to hb hHeld.2.1, cell_to hb hHeld.2.2.1, cell_to hb hHeld.2.2.2.1, cell_to hb hHeld.2.2.2.2.1, cell_to hb hHeld.2.2.2.2.2.1, cell_to hb hHeld.2.2.2.2.2.2⟩ (fun hHeld2 => ?_)
          clear hK K
          refine norm_ (a' := ?_) ?_ ?_
          rotate_left
          · show Act.put _ (some 7) _ = _
            simp only [Act.put, List.setIfInBounds_toArray, List.set_cons_zero, List.set_cons_succ, i64_w, i32_w]
            rfl
          refine one_ (i := 12) (N := none) #[true, true, true, true, true, true, true, true, true, true, true, true, true] rfl rfl (one_of HT_.out (by kernel_rfl)) (by decide) (fun K hK => ?_)
          have y0 : w27.cell? ⟨gb, 0, none⟩ = some (.int .i64 0) := bT.cell rfl
          have y1 : w27.cell? ⟨gb, 1, none⟩ = some (.int .i64 0) := bT.cell rfl
          have y2 : w27.cell? ⟨gb, 2, none⟩ = some (.int .i64 0) := bT.cell rfl
          have y3 : w27.cell? ⟨gb, 3, none⟩ = some (.int .i64 0) := bT.cell rfl
          have f0 := bT.frozen 0; have f1 := bT.frozen 1; have f2 := bT.frozen 2; have f3 := bT.frozen 3
          refine skip_ (w1 := ?_) (by rfl) rfl ?_ ?_
          rotate_left
          · go_simp
            rfl
          have hs4 := below_set4g hb G1 (.int .i64 ((tk ts q).get 0)) (.int .i64 ((tk ts q).get 1)) (.int .i64 ((tk ts q).get 2)) (.int .i64 ((tk ts q).get 3))
          have bT4 := (((bT.set 0 (.int .i64 ((tk ts q).get 0))).set 1 (.int .i64 ((tk ts q).get 1))).set 2 (.int .i64 ((tk ts q).get 2))).set 3 (.int .i64 ((tk ts q).get 3))
          refine hK.out _ _ ⟨cell_to hs4 hHeld.1, cell_to hs4 hHeld.2.1, cell_to hs4 hHeld.2.2.1, cell_to hs4 hHeld.2.2.2.1, cell_to hs4 hHeld.2.2.2.2.1, cell_to hs4 hHeld.2.2.2.2.2.1, cell_to hs4 hHeld.2.2.2.2.2.2⟩ (fun hHeld3 => ?_)
          clear hK K y0 y1 y2 y3 f0 f1 f2 f3
          refine done_ (done_of HT_.out (by kernel_rfl)) ?_
          generalize ((((w27.setCell ⟨gb, 0, none⟩ (.int .i64 ((tk ts q).get 0))).setCell ⟨gb, 1, none⟩ (.int .i64 ((tk ts q).get 1))).setCell ⟨gb, 2, none⟩ (.int .i64 ((tk ts q).get 2))).setCell ⟨gb, 3, none⟩ (.int .i64 ((tk ts q).get 3))) = w4 at hs4 bT4 hHeld3 ⊢
          have bT5 : BK w4 gb #[.int .i64 ((tk ts q).get 0), .int .i64 ((tk ts q).get 1), .int .i64 ((tk ts q).get 2), .int .i64 ((tk ts q).get 3)] 63 := bT4
          clear hHeld hHeld2 bT bT4 hb
          go_wp2_with fail
          obtain ⟨a1, h0, hrx, t0, t1, t2, t3⟩ := hHeld3
          have l1 := lt_to hs4 k1; have l2 := lt_to hs4 k2; have l3 := lt_to hs4 k3; have l4 := lt_to hs4 k4
          have HE4 := Lib.hid (below_to HE3.out hs4); have HB4 := Lib.hid (below_to HB3.out hs4); have HRI4 := Lib.hid (HRI3.out.below hs4)
          have o0 : w4.cell? ⟨gb, 0, none⟩ = some (.int .i64 ((tk ts q).get 0)) := bT5.cell rfl
          have o1 : w4.cell? ⟨gb, 1, none⟩ = some (.int .i64 ((tk ts q).get 1)) := bT5.cell rfl
          have lg := bT5.lt
          clear hs4 d1 d2 d3 d4 d5 d6 d7 k1 k2 k3 k4 HE3 HB3 HRI3 bT5 HT_ HW_ t0 t1 t2 t3 G1
          cases x with
          | zero =>
            simp only [Nat.add_zero] at hrx
            cases y with
            | zero =>
              simp only [Nat.add_zero] at h0
              refine wp_region_gro (by kernel_rfl) (by kernel_rfl) ?_
              repeat (first | go_big_quiet_step (fail) | quiet_step (fail))
              refine wpQuiet_nil ?_
              intro w5 hB5
              have HB5 := Lib.hid (below_to HB4.out hB5); clear hB5
              go_wp2_with fail
              go_roundw
              case rel => exact ⟨HB5.out, 0 + 1, by omega, by go_num, fun j hj => by
                obtain rfl : j = 0 := by omega
                simp [cellB]⟩
              case measure => simp [intOf]; omega
            | succ y =>
              obtain ⟨b2, o2, Az, cz, hE2, -, n0, hrz, -, -⟩ := (HA'.out.below HE4.out) y (by have := HY.out; omega)
              obtain ⟨rfl, rfl⟩ : b = b2 ∧ o = o2 := by injection hE2 with e; injection e with e1 e2; exact ⟨e1, e2⟩
              have hlz : rowLen xs y = width xs := HT.out.len y (by have := HY.out; omega)
              obtain ⟨bz, oz, hAz, lz, nz⟩ := hrz 0 (by show 0 < rowLen xs y; omega)
              subst hAz
              rw [hlz] at n0
              obtain ⟨r, hr⟩ : ∃ r : Nat, cell xs y 0 = r := ⟨(cell xs y 0).toNat, by have := HT.out.lo y 0 (by have := HY.out; omega) (by omega); omega⟩
              have hrlt : r < ts.length := by have := HT.out.up y 0 (by have := HY.out; omega) (by omega); omega
              have i4 : (r : Int) < n := by have := HN.out; omega
              have i5 : (y : Int) < m := by omega
              rw [show ik (rowAt xs y) 0 = (r : Int) from hr] at nz
              try simp only [Nat.add_zero] at nz
              obtain ⟨b3, o3, hE3, -, -, -, -, u3⟩ := (HA.out.below HE4.out) r hrlt
              obtain ⟨rfl, rfl⟩ : bt = b3 ∧ ot = o3 := by injection hE3 with e; injection e with e1 e2; exact ⟨e1, e2⟩
              have HR := Lib.hid hr; have HRL := Lib.hid hrlt; clear hr hrlt hE2 hE3 hlz hrz
              by_cases hn : (tk ts r).get 3 = (tk ts q).get 1
              · have HN2 := Lib.hid hn; clear hn
                have hn' : ((tk ts r).get 3 != (tk ts q).get 1) = false := by simp [HN2.out]
                refine wp_region_gro (by kernel_rfl) (by kernel_rfl) ?_
                repeat (first | go_big_quiet_step (fail) | quiet_step (fail))
                refine wpQuiet_nil ?_
                intro w5 hB5
                have HB5 := Lib.hid (below_to HB4.out hB5); clear hB5
                go_wp2_with fail
                go_roundw
                case rel => exact ⟨HB5.out, 0 + 1, by omega, by go_num, fun j hj => by
                  by_cases e : j = 0
                  · subst e
                    have h1 : (tk ts r).d = (tk ts q).b := HN2.out
                    skip
                    simp [cellB, HQ.out, HR.out, tile_get HQL.out, tile_get HRL.out, toS, h1]
                  · exact HALL2.out j (by omega)⟩
                case measure => simp [intOf]; omega
              · have HN2 := Lib.hid hn; clear hn
                have hn' : ((tk ts r).get 3 != (tk ts q).get 1) = true := by simpa using HN2.out
                refine wp_region_gro (by kernel_rfl) (by kernel_rfl) ?_
                repeat (first | go_big_quiet_step (fail) | quiet_step (fail))
                refine wpQuiet_nil ?_
                intro w5 hB5
                have HE5 := Lib.hid (below_to HE4.out hB5); clear hB5
                go_wp2_with fail
                go_ret
                have hc : cellB (ts.map toS) xs (y + 1) (0) = false := by
                  have h1 : ¬ (tk ts r).d = (tk ts q).b := HN2.out
                  simp [cellB, HQ.out, HR.out, tile_get HQL.out, tile_get HRL.out, toS, h1]
                exact ⟨ret_bool (bad_at HY.out (by omega) hc).symm, HE5.out⟩
          | succ x =>
            obtain ⟨b4, o4, hE4, -, hrw⟩ := HRI4.out x (by show x < rowLen xs y; have := HT.out.len y HY.out; show x < (xs.getD y []).length; omega)
            obtain ⟨rfl, rfl⟩ : by_ = b4 ∧ oy = o4 := by injection hE4 with e; injection e with e1 e2; exact ⟨e1, e2⟩
            obtain ⟨p, hp⟩ : ∃ p : Nat, cell xs y x = p := ⟨(cell xs y x).toNat, by have := HT.out.lo y x HY.out (by omega); omega⟩
            have hplt : p < ts.length := by have := HT.out.up y x HY.out (by omega); omega
            have i6 : (p : Int) < n := by have := HN.out; omega
            have i7 : (x : Int) < width xs := by omega
            rw [show ik (rowAt xs y) x = (p : Int) from hp] at hrw
            obtain ⟨b5, o5, hE5, -, -, -, v2, -⟩ := (HA.out.below HE4.out) p hplt
            obtain ⟨rfl, rfl⟩ : bt = b5 ∧ ot = o5 := by injection hE5 with e; injection e with e1 e2; exact ⟨e1, e2⟩
            have HP := Lib.hid hp; have HPL := Lib.hid hplt; clear hp hplt hE4 hE5
            by_cases he : (tk ts p).get 2 = (tk ts q).get 0
            · have HW2 := Lib.hid he; clear he
              have he' : ((tk ts p).get 2 != (tk ts q).get 0) = false := by simp [HW2.out]
              cases y with
              | zero =>
                simp only [Nat.add_zero] at h0
                refine wp_region_gro (by kernel_rfl) (by kernel_rfl) ?_
                repeat (first | go_big_quiet_step (fail) | quiet_step (fail))
                refine wpQuiet_nil ?_
                intro w5 hB5
                have HB5 := Lib.hid (below_to HB4.out hB5); clear hB5
                go_wp2_with fail
                go_roundw
                case rel => exact ⟨HB5.out, x + 1 + 1, by omega, by go_num, fun j hj => by
                  by_cases e : j = x + 1
                  · subst e
                    have h2 : (tk ts p).c = (tk ts q).a := HW2.out
                    simp [cellB, HQ.out, HP.out, tile_get HQL.out, tile_get HPL.out, toS, h2]
                  · exact HALL2.out j (by omega)⟩
                case measure => simp [intOf]; omega
              | succ y =>
                obtain ⟨b2, o2, Az, cz, hE2, -, n0, hrz, -, -⟩ := (HA'.out.below HE4.out) y (by have := HY.out; omega)
                obtain ⟨rfl, rfl⟩ : b = b2 ∧ o = o2 := by injection hE2 with e; injection e with e1 e2; exact ⟨e1, e2⟩
                have hlz : rowLen xs y = width xs := HT.out.len y (by have := HY.out; omega)
                obtain ⟨bz, oz, hAz, lz, nz⟩ := hrz (x + 1) (by show (x + 1) < rowLen xs y; omega)
                subst hAz
                rw [hlz] at n0
                obtain ⟨r, hr⟩ : ∃ r : Nat, cell xs y (x + 1) = r := ⟨(cell xs y (x + 1)).toNat, by have := HT.out.lo y (x + 1) (by have := HY.out; omega) (by omega); omega⟩
                have hrlt : r < ts.length := by have := HT.out.up y (x + 1) (by have := HY.out; omega) (by omega); omega
                have i4 : (r : Int) < n := by have := HN.out; omega
                have i5 : (y : Int) < m := by omega
                rw [show ik (rowAt xs y) (x + 1) = (r : Int) from hr] at nz
                try simp only [Nat.add_zero] at nz
                obtain ⟨b3, o3, hE3, -, -, -, -, u3⟩ := (HA.out.below HE4.out) r hrlt
                obtain ⟨rfl, rfl⟩ : bt = b3 ∧ ot = o3 := by injection hE3 with e; injection e with e1 e2; exact ⟨e1, e2⟩
                have HR := Lib.hid hr; have HRL := Lib.hid hrlt; clear hr hrlt hE2 hE3 hlz hrz
                by_cases hn : (tk ts r).get 3 = (tk ts q).get 1
                · have HN2 := Lib.hid hn; clear hn
                  have hn' : ((tk ts r).get 3 != (tk ts q).get 1) = false := by simp [HN2.out]
                  refine wp_region_gro (by kernel_rfl) (by kernel_rfl) ?_
                  repeat (first | go_big_quiet_step (fail) | quiet_step (fail))
                  refine wpQuiet_nil ?_
                  intro w5 hB5
                  have HB5 := Lib.hid (below_to HB4.out hB5); clear hB5
                  go_wp2_with fail
                  go_roundw
                  case rel => exact ⟨HB5.out, (x + 1) + 1, by omega, by go_num, fun j hj => by
                    by_cases e : j = (x + 1)
                    · subst e
                      have h1 : (tk ts r).d = (tk ts q).b := HN2.out
                      have h2 : (tk ts p).c = (tk ts q).a := HW2.out
                      simp [cellB, HQ.out, HR.out, tile_get HQL.out, tile_get HRL.out, toS, h1, HP.out, tile_get HPL.out, h2]
                    · exact HALL2.out j (by omega)⟩
                  case measure => simp [intOf]; omega
                · have HN2 := Lib.hid hn; clear hn
                  have hn' : ((tk ts r).get 3 != (tk ts q).get 1) = true := by simpa using HN2.out
                  refine wp_region_gro (by kernel_rfl) (by kernel_rfl) ?_
                  repeat (first | go_big_quiet_step (fail) | quiet_step (fail))
                  refine wpQuiet_nil ?_
                  intro w5 hB5
                  have HE5 := Lib.hid (below_to HE4.out hB5); clear hB5
                  go_wp2_with fail
                  go_ret
                  have hc : cellB (ts.map toS) xs (y + 1) ((x + 1)) = false := by
                    have h1 : ¬ (tk ts r).d = (tk ts q).b := HN2.out
                    simp [cellB, HQ.out, HR.out, tile_get HQL.out, tile_get HRL.out, toS, h1]
                  exact ⟨ret_bool (bad_at HY.out (by omega) hc).symm, HE5.out⟩
            · have HW2 := Lib.hid he; clear he
              have he' : ((tk ts p).get 2 != (tk ts q).get 0) = true := by simpa using HW2.out
              refine wp_region_gro (by kernel_rfl) (by kernel_rfl) ?_
              repeat (first | go_big_quiet_step (fail) | quiet_step (fail))
              refine wpQuiet_nil ?_
              intro w5 hB5
              have HE5 := Lib.hid (below_to HE4.out hB5); clear hB5
              go_wp2_with fail
              go_ret
              have hc : cellB (ts.map toS) xs y (x + 1) = false := by
                have h2 : ¬ (tk ts p).c = (tk ts q).a := HW2.out
                simp [cellB, HQ.out, HP.out, tile_get HQL.out, tile_get HPL.out, toS, h2]
              exact ⟨ret_bool (bad_at HY.out (by omega) hc).symm, HE5.out⟩
        · go_wp2_with fail
          go_roundw
          case rel => exact ⟨HB2.out, y + 1, by omega, by go_num, fun j hj => by
            by_cases e : j = y
            · subst e; exact allN_true fun i _ h2 => HALL2.out i (by omega)
            · exact HALL.out j (by omega)⟩
          case measure => simp [intOf]; omega
    · go_wp2_with fail
      go_ret
      exact ⟨ret_bool (allN_true fun i _ h2 => HALL.out i (by have := HM.out; omega)).symm, HE.out⟩
end Go.Proofs.Ytgdmflmglkakgaa
namespace Go.Proofs.Ytgdmflmglkakgaa.Q
open Go Go.RowKit Go.Proofs Go.Proofs.YtgdmflmglkakgaaW.PrintWords Go.Proofs.Ytgdmflmglkakgaa
set_option linter.unusedVariables false
set_option linter.unusedSimpArgs false
def spec_l01Good.f (a0_0 : Int) (l0_1 : List STile) (l1 : List (List Int)) : Option Bool := if (inLim l0_1.length && tabB l0_1.length l1) = true then some (goodB l0_1 l1) else none
theorem spec_l01Good.calls (a0_0 : Int) (A0_1 : Option Addr) (c0_1 : Nat) (l0_1 : List STile) (A1 : Option Addr) (c1 : Nat) (l1 : List (List Int)) (r : Bool) (w : World) (hr0_1 : Kd.C k63 w A0_1 l0_1.length l0_1) (hc0_1 : l0_1.length ≤ c0_1) (hr1 : Kd.C (Kd.slice 2 (Kd.int .i64)) w A1 l1.length l1) (hc1 : l1.length ≤ c1) (h : spec_l01Good.f a0_0 l0_1 l1 = some r) :
    Calls Try.prog 28 #[.agg #[.int .i64 a0_0, .slice A0_1 l0_1.length c0_1], .slice A1 l1.length c1] w fun e w' => e = .returned (.bool r) ∧ Below w.heap.size w w' := by
  unfold spec_l01Good.f at h
  split at h
  · rename_i hl
    rw [Bool.and_eq_true] at hl
    obtain rfl := Option.some.inj h
    have h2 := good_any a0_0 A0_1 (l0_1.map toT) l0_1.length c0_1 A1 l1 l1.length c1 w (by simp) (rt_of_C hr0_1) (by simpa [inLim] using hl.1) rfl (rr_of_C hr1) (by rw [List.length_map]; exact tab_of hl.2)
    rw [map_toST] at h2
    exact h2
  · cases h
end Go.Proofs.Ytgdmflmglkakgaa.Q
namespace Go.Proofs.Ytgdmflmglkakgaa.Q
open Go.RowKit Go.Proofs.YtgdmflmglkakgaaW.PrintWords Go.Proofs.YtgdmflmglkakgaaW.PrintLast Go.Proofs.YtgdmflmglkakgaaW.PrintMore
attribute [local go_sem] max2_int min2_int max_two min_two max_three min_three max_four min_four
set_option linter.unusedVariables false
set_option linter.unusedSimpArgs false
def spec_IsFilling.f (k : Nat) (a0_0 : Int) (l0_1 : List (S63)) (l1 : List (List Int)) : Option (Bool × Int) := (spec_l01Rows.f k a0_0 l0_1 l1).bind fun t114 => (if t114 = 0 then ((spec_l01Good.f a0_0 l0_1 l1).bind fun t115 => (some (t115, 0))) else (some (false, t114)))
theorem spec_IsFilling.mono : ∀ a0 a1 a2 k, LeO (spec_IsFilling.f k a0 a1 a2) (spec_IsFilling.f (k + 1) a0 a1 a2) := by
 intro a0 a1 a2 k
 unfold spec_IsFilling.f
 repeat' first
   | (with_reducible exact spec_l01Rows.mono _ _ _ _)
   | (with_reducible exact LeO.refl _)
   | (with_reducible exact LeO.none _)
   | (with_reducible refine LeO.ite ?_ ?_)
   | (with_reducible refine LeO.bind ?_ (fun _ => ?_))
   | exact spec_l01Rows.mono _ _ _ _
   | exact LeO.none _
   | refine LeO.ite ?_ ?_
   | refine LeO.bind ?_ (fun _ => ?_)
set_option maxHeartbeats 8000000 in
set_option maxRecDepth 100000 in
theorem spec_IsFilling.calls (k : Nat) (a0_0 : Int) (A0_1 : Option Addr) (c0_1 : Nat) (l0_1 : List (S63)) (A1 : Option Addr) (c1 : Nat) (l1 : List (List Int)) (r1 : Bool) (r2 : Int) (w : World) (hr0_1 : Kd.C k63 w A0_1 l0_1.length l0_1) (hc0_1 : l0_1.length ≤ c0_1) (hr1 : Kd.C (Kd.slice 2 (Kd.int .i64)) w A1 l1.length l1) (hc1 : l1.length ≤ c1) (h : spec_IsFilling.f k a0_0 l0_1 l1 = some (r1, r2)) :
  Calls Try.prog 9 #[.agg #[.int .i64 a0_0, .slice A0_1 l0_1.length c0_1], .slice A1 l1.length c1] w fun e w' => e = .returned (.tuple #[.bool r1, .int .i64 r2]) ∧ Below w.heap.size w w' := by
 have hu32 := Try.underlying32
 have HR0_1 := Aside0.mk hr0_1
 have HC0_1 := Aside0.mk hc0_1
 clear hr0_1 hc0_1
 have HR1 := Aside0.mk hr1
 have HC1 := Aside0.mk hc1
 clear hr1 hc1
 have HB := Aside0.mk (Below.refl w.heap.size w)
 have H : ((spec_l01Rows.f k a0_0 l0_1 l1).bind fun t114 => (if t114 = 0 then ((spec_l01Good.f a0_0 l0_1 l1).bind fun t115 => (some (t115, 0))) else (some (false, t114)))) = some (r1, r2) := h
 clear h
 replace H := Option.bind_eq_some_iff.mp H
 obtain ⟨t114, A30, H⟩ := H
 replace H : (if t114 = 0 then ((spec_l01Good.f a0_0 l0_1 l1).bind fun t115 => (some (t115, 0))) else (some (false, t114))) = some (r1, r2) := H
 have A3 := Aside0.mk A30
 clear A30
 by_cases c4 : t114 = 0
 ·rw [if_pos c4] at H
  have c4b0 : (t114 == 0) = true := beq_iff_eq.mpr c4
  have c4b1 : (t114 != 0) = false := bne_eq_false_iff_eq.mpr c4
  clear c4
  replace H := Option.bind_eq_some_iff.mp H
  obtain ⟨t115, A50, H⟩ := H
  replace H : (some (t115, 0)) = some (r1, r2) := H
  have A5 := Aside0.mk A50
  clear A50
  simp only [Option.some.injEq, Prod.mk.injEq] at H
  obtain ⟨rfl, rfl⟩ := H
  go_enter Try.func9, Try.ntmps9
  go_wp2_with (first | ((with_reducible refine gate_dst (N := 2) rfl ?_); refine box_event ?hg (N := 2) ?hd (cs := #[.int .i64 a0_0, .slice A0_1 l0_1.length c0_1]) (t := 32) ?hr ?_; (case hd => rfl); (case hg => rfl); (case hr => first | (go_simp; done) | (go_simp; rfl)); intro gb113 hg w6 hbox hb; have n0_ := Aside0.mk (below_step (by repeat (first | (with_reducible first | exact HB.out | apply below_alloc | apply pw_below_drewN | apply below_drew1) | exact HB.out)) hb); have n1_ := Aside0.mk (hbox); have n2_ := Aside0.mk ((by rw [hg]; exact (below_size (by repeat (first | (with_reducible first | exact HB.out | apply below_alloc | apply pw_below_drewN | apply below_drew1) | exact HB.out))) : w.heap.size ≤ gb113)); have n3_ := Aside0.mk ((by rw [hg]; exact (below_size (by repeat (first | (with_reducible first | exact HB.out | apply below_alloc | apply pw_below_drewN | apply below_drew1) | exact HB.out))) : w.heap.size ≤ gb113)); clear HB; have HB := n0_; have BK113 := n1_; have GW113 := n2_; have GE113 := n3_; clear n0_ n1_ n2_ n3_; clear hb hbox hg; have hcz7_0 : w6.cell? ⟨gb113, 0, none⟩ = some (.int .i64 a0_0) := (blk_cell BK113.out 0).trans rfl; have hcz7_1 : w6.cell? ⟨gb113, 1, none⟩ = some (.slice A0_1 l0_1.length c0_1) := (blk_cell BK113.out 1).trans rfl; have hfz7_0 := blk_frozen BK113.out 0; have hfz7_1 := blk_frozen BK113.out 1) | ((with_reducible refine gate_callee (f := 27) rfl ?_); refine goesL_ (some 9) rfl rfl Try.func27 (by kernel_rfl) rfl #[.agg #[.int .i64 a0_0, .slice A0_1 l0_1.length c0_1], .slice A1 l1.length c1] rfl (by (try simp only [List.map_toArray, List.map_cons, List.map_nil]); first | done | rfl | (simp only [List.length_drop, List.length_take]; rfl)) ?_; (with_reducible refine (spec_l01Rows.calls k a0_0 _ _ l0_1 _ _ l1 t114 _ ?side1 ?side2 ?side3 ?side4 A3.out).mono ?_); (case side1 => repeat (first | exact (Kd.C_below HR0_1.out HB.out) | (with_reducible refine Kd.C_alloc ?_ _) | (with_reducible refine Kd.C_drewN ?_ _) | (with_reducible refine Kd.C_drew ?_))); (case side2 => exact HC0_1.out); (case side3 => repeat (first | exact (Kd.C_below HR1.out HB.out) | (with_reducible refine Kd.C_alloc ?_ _) | (with_reducible refine Kd.C_drewN ?_ _) | (with_reducible refine Kd.C_drew ?_))); (case side4 => exact HC1.out); rintro e w8 ⟨rfl, hb⟩; refine ⟨_, rfl, ?_⟩; have n0_ := Aside0.mk (blk_below (g := gb113) (o := .cells #[.int .i64 a0_0, .slice A0_1 l0_1.length c0_1] 32 (0, 0)) (by (with_reducible repeat (first | refine blk_drewN ?_ _ | refine blk_drew ?_ | refine blk_alloc ?_ _)); exact BK113.out) hb); have n1_ := Aside0.mk (below_step (by repeat (first | (with_reducible first | exact HB.out | apply below_alloc | apply pw_below_drewN | apply below_drew1 | refine below_set ?_ GE113.out) | exact HB.out)) hb); clear BK113; clear HB; have BK113 := n0_; have HB := n1_; clear n0_ n1_; (try clear hb); (try clear hb2); (try clear hk); (try clear hi); have hcz9_0 : w8.cell? ⟨gb113, 0, none⟩ = some (.int .i64 a0_0) := (blk_cell BK113.out 0).trans rfl; have hcz9_1 : w8.cell? ⟨gb113, 1, none⟩ = some (.slice A0_1 l0_1.length c0_1) := (blk_cell BK113.out 1).trans rfl; have hfz9_0 := blk_frozen BK113.out 0; have hfz9_1 := blk_frozen BK113.out 1) | ((with_reducible refine gate_callee (f := 28) rfl ?_); refine goesL_ (some 15) rfl rfl Try.func28 (by kernel_rfl) rfl #[.agg #[.int .i64 a0_0, .slice A0_1 l0_1.length c0_1], .slice A1 l1.length c1] rfl (by (try simp only [List.map_toArray, List.map_cons, List.map_nil]); first | done | rfl | (simp only [List.length_drop, List.length_take]; rfl)) ?_; (with_reducible refine (spec_l01Good.calls a0_0 _ _ l0_1 _ _ l1 t115 _ ?side1 ?side2 ?side3 ?side4 A5.out).mono ?_); (case side1 => repeat (first | exact (Kd.C_below HR0_1.out HB.out) | (with_reducible refine Kd.C_alloc ?_ _) | (with_reducible refine Kd.C_drewN ?_ _) | (with_reducible refine Kd.C_drew ?_))); (case side2 => exact HC0_1.out); (case side3 => repeat (first | exact (Kd.C_below HR1.out HB.out) | (with_reducible refine Kd.C_alloc ?_ _) | (with_reducible refine Kd.C_drewN ?_ _) | (with_reducible refine Kd.C_drew ?_))); (case side4 => exact HC1.out); rintro e w10 ⟨rfl, hb⟩; refine ⟨_, rfl, ?_⟩; have n0_ := Aside0.mk (blk_below (g := gb113) (o := .cells #[.int .i64 a0_0, .slice A0_1 l0_1.length c0_1] 32 (0, 0)) (by (with_reducible repeat (first | refine blk_drewN ?_ _ | refine blk_drew ?_ | refine blk_alloc ?_ _)); exact BK113.out) hb); have n1_ := Aside0.mk (below_step (by repeat (first | (with_reducible first | exact HB.out | apply below_alloc | apply pw_below_drewN | apply below_drew1 | refine below_set ?_ GE113.out) | exact HB.out)) hb); clear BK113; clear HB; have BK113 := n0_; have HB := n1_; clear n0_ n1_; (try clear hb); (try clear hb2); (try clear hk); (try clear hi)))
  go_ret2
  exact ⟨by first | rfl | (simp [errW_none, errW_some] <;> rfl) | (simp [*, errW_none, errW_some] <;> rfl), by repeat (first | (with_reducible first | exact HB.out | apply below_alloc | apply pw_below_drewN | apply below_drew1 | refine below_set ?_ GE113.out) | exact HB.out)⟩
 ·rw [if_neg c4] at H
  have c4b0 : (t114 == 0) = false := beq_eq_false_iff_ne.mpr c4
  have c4b1 : (t114 != 0) = true := bne_iff_ne.mpr c4
  simp only [Option.some.injEq, Prod.mk.injEq] at H
  obtain ⟨rfl, rfl⟩ := H
  go_enter Try.func9, Try.ntmps9
  go_wp2_with (first | ((with_reducible refine gate_dst (N := 2) rfl ?_); refine box_event ?hg (N := 2) ?hd (cs := #[.int .i64 a0_0, .slice A0_1 l0_1.length c0_1]) (t := 32) ?hr ?_; (case hd => rfl); (case hg => rfl); (case hr => first | (go_simp; done) | (go_simp; rfl)); intro gb113 hg w11 hbox hb; have n0_ := Aside0.mk (below_step (by repeat (first | (with_reducible first | exact HB.out | apply below_alloc | apply pw_below_drewN | apply below_drew1) | exact HB.out)) hb); have n1_ := Aside0.mk (hbox); have n2_ := Aside0.mk ((by rw [hg]; exact (below_size (by repeat (first | (with_reducible first | exact HB.out | apply below_alloc | apply pw_below_drewN | apply below_drew1) | exact HB.out))) : w.heap.size ≤ gb113)); have n3_ := Aside0.mk ((by rw [hg]; exact (below_size (by repeat (first | (with_reducible first | exact HB.out | apply below_alloc | apply pw_below_drewN | apply below_drew1) | exact HB.out))) : w.heap.size ≤ gb113)); clear HB; have HB := n0_; have BK113 := n1_; have GW113 := n2_; have GE113 := n3_; clear n0_ n1_ n2_ n3_; clear hb hbox hg; have hcz12_0 : w11.cell? ⟨gb113, 0, none⟩ = some (.int .i64 a0_0) := (blk_cell BK113.out 0).trans rfl; have hcz12_1 : w11.cell? ⟨gb113, 1, none⟩ = some (.slice A0_1 l0_1.length c0_1) := (blk_cell BK113.out 1).trans rfl; have hfz12_0 := blk_frozen BK113.out 0; have hfz12_1 := blk_frozen BK113.out 1) | ((with_reducible refine gate_callee (f := 27) rfl ?_); refine goesL_ (some 9) rfl rfl Try.func27 (by kernel_rfl) rfl #[.agg #[.int .i64 a0_0, .slice A0_1 l0_1.length c0_1], .slice A1 l1.length c1] rfl (by (try simp only [List.map_toArray, List.map_cons, List.map_nil]); first | done | rfl | (simp only [List.length_drop, List.length_take]; rfl)) ?_; (with_reducible refine (spec_l01Rows.calls k a0_0 _ _ l0_1 _ _ l1 t114 _ ?side1 ?side2 ?side3 ?side4 A3.out).mono ?_); (case side1 => repeat (first | exact (Kd.C_below HR0_1.out HB.out) | (with_reducible refine Kd.C_alloc ?_ _) | (with_reducible refine Kd.C_drewN ?_ _) | (with_reducible refine Kd.C_drew ?_))); (case side2 => exact HC0_1.out); (case side3 => repeat (first | exact (Kd.C_below HR1.out HB.out) | (with_reducible refine Kd.C_alloc ?_ _) | (with_reducible refine Kd.C_drewN ?_ _) | (with_reducible refine Kd.C_drew ?_))); (case side4 => exact HC1.out); rintro e w13 ⟨rfl, hb⟩; refine ⟨_, rfl, ?_⟩; have n0_ := Aside0.mk (blk_below (g := gb113) (o := .cells #[.int .i64 a0_0, .slice A0_1 l0_1.length c0_1] 32 (0, 0)) (by (with_reducible repeat (first | refine blk_drewN ?_ _ | refine blk_drew ?_ | refine blk_alloc ?_ _)); exact BK113.out) hb); have n1_ := Aside0.mk (below_step (by repeat (first | (with_reducible first | exact HB.out | apply below_alloc | apply pw_below_drewN | apply below_drew1 | refine below_set ?_ GE113.out) | exact HB.out)) hb); clear BK113; clear HB; have BK113 := n0_; have HB := n1_; clear n0_ n1_; (try clear hb); (try clear hb2); (try clear hk); (try clear hi)))
  go_ret2
  exact ⟨by first | rfl | (simp [errW_none, errW_some] <;> rfl) | (simp [*, errW_none, errW_some] <;> rfl), by repeat (first | (with_reducible first | exact HB.out | apply below_alloc | apply pw_below_drewN | apply below_drew1 | refine below_set ?_ GE113.out) | exact HB.out)⟩
end Go.Proofs.Ytgdmflmglkakgaa.Q
namespace Go.Proofs.Ytgdmflmglkakgaa.Q
open Go.RowKit Go.Proofs.YtgdmflmglkakgaaW.PrintWords Go.Proofs.YtgdmflmglkakgaaW.PrintLast Go.Proofs.YtgdmflmglkakgaaW.PrintMore
attribute [local go_sem] max2_int min2_int max_two min_two max_three min_three max_four min_four
set_option linter.unusedVariables false
set_option linter.unusedSimpArgs false
def laws_szInt64S.f (l0 : List Int) (a1 : Int) : Option (Int) := if (wrap64 (a1 - (l0.length : Int))) < 0 then (some (-1)) else (some (wrap64 (a1 - (l0.length : Int))))
set_option maxHeartbeats 8000000 in
set_option maxRecDepth 100000 in
theorem laws_szInt64S.calls (A0 : Option Addr) (c0 : Nat) (l0 : List Int) (a1 : Int) (r : Int) (w : World) (hr0 : Kd.C (Kd.int .i64) w A0 l0.length l0) (hc0 : l0.length ≤ c0) (h : laws_szInt64S.f l0 a1 = some r) :
  Calls Try.prog 26 #[.slice A0 l0.length c0, .int .i64 a1] w fun e w' => e = .returned (.int .i64 r) ∧ Drawn0 w w' := by
 have HR0 := Aside0.mk hr0
 have HC0 := Aside0.mk hc0
 clear hr0 hc0
 have H : (if (wrap64 (a1 - (l0.length : Int))) < 0 then (some (-1)) else (some (wrap64 (a1 - (l0.length : Int))))) = some r := h
 clear h
 by_cases c3 : (wrap64 (a1 - (l0.length : Int))) < 0
 ·rw [if_pos c3] at H
  have c3b0 : decide ((wrap64 (a1 - (l0.length : Int))) < 0) = true := decide_eq_true c3
  clear c3
  obtain rfl := Option.some.inj H
  go_enter Try.func26, Try.ntmps26
  go_wp2
  go_ret
  exact ⟨by first | rfl | (simp; done) | (simp [*]; done), by repeat (first | exact Drawn0.refl _ | apply Drawn0.step)⟩
 ·rw [if_neg c3] at H
  have c3b0 : decide ((wrap64 (a1 - (l0.length : Int))) < 0) = false := decide_eq_false c3
  clear c3
  obtain rfl := Option.some.inj H
  go_enter Try.func26, Try.ntmps26
  go_wp2
  go_ret
  exact ⟨by first | rfl | (simp; done) | (simp [*]; done), by repeat (first | exact Drawn0.refl _ | apply Drawn0.step)⟩
end Go.Proofs.Ytgdmflmglkakgaa.Q
namespace Go.Proofs.Ytgdmflmglkakgaa.Q
open Go.RowKit Go.Proofs.YtgdmflmglkakgaaW.PrintWords Go.Proofs.YtgdmflmglkakgaaW.PrintLast Go.Proofs.YtgdmflmglkakgaaW.PrintMore
attribute [local go_sem] max2_int min2_int max_two min_two max_three min_three max_four min_four
set_option linter.unusedVariables false
set_option linter.unusedSimpArgs false
def laws_szInt64SS.l0 : Nat → List (List Int) → Int → Int → Option (Int)
 | 0, _, _, _ => none
 | k + 1, x0, x1, x5 => if x5 < (x0.length : Int) then (if 0 ≤ x5 then ((laws_szInt64S.f (rd_L1 x0 x5) x1).bind fun t102 => (if t102 < 0 then (some (-1)) else (laws_szInt64SS.l0 k x0 t102 (wrap64 (x5 + 1))))) else (none)) else (some x1)
def laws_szInt64SS.f (k : Nat) (l0 : List (List Int)) (a1 : Int) : Option (Int) := if (wrap64 (a1 - (l0.length : Int))) < 0 then (some (-1)) else (laws_szInt64SS.l0 k l0 (wrap64 (a1 - (l0.length : Int))) 0)
theorem laws_szInt64SS.mono_l : ∀ k, (∀ y0 y1 y2, LeO (laws_szInt64SS.l0 k y0 y1 y2) (laws_szInt64SS.l0 (k + 1) y0 y1 y2))
 | 0 => fun _ _ _ r h => by simp [laws_szInt64SS.l0] at h
 | k + 1 => by
  have ih0 := laws_szInt64SS.mono_l k
  ·intro y0 y1 y2
   unfold laws_szInt64SS.l0
   repeat' first
   | (with_reducible exact ih0 _ _ _)
   | (with_reducible exact LeO.refl _)
   | (with_reducible exact LeO.none _)
   | (with_reducible refine LeO.ite ?_ ?_)
   | (with_reducible refine LeO.bind ?_ (fun _ => ?_))
   | exact ih0 _ _ _
   | exact LeO.none _
   | refine LeO.ite ?_ ?_
   | refine LeO.bind ?_ (fun _ => ?_)
theorem laws_szInt64SS.mono : ∀ a0 a1 k, LeO (laws_szInt64SS.f k a0 a1) (laws_szInt64SS.f (k + 1) a0 a1) := by
 intro a0 a1 k
 have ih0 := laws_szInt64SS.mono_l k
 unfold laws_szInt64SS.f
 repeat' first
   | (with_reducible exact ih0 _ _ _)
   | (with_reducible exact LeO.refl _)
   | (with_reducible exact LeO.none _)
   | (with_reducible refine LeO.ite ?_ ?_)
   | (with_reducible refine LeO.bind ?_ (fun _ => ?_))
   | exact ih0 _ _ _
   | exact LeO.none _
   | refine LeO.ite ?_ ?_
   | refine LeO.bind ?_ (fun _ => ?_)
set_option maxHeartbeats 8000000 in
set_option maxRecDepth 100000 in
theorem laws_szInt64SS.calls (k : Nat) (A0 : Option Addr) (c0 : Nat) (l0 : List (List Int)) (a1 : Int) (r : Int) (w : World) (hr0 : Kd.C (Kd.slice 2 (Kd.int .i64)) w A0 l0.length l0) (hc0 : l0.length ≤ c0) (h : laws_szInt64SS.f k l0 a1 = some r) :
  Calls Try.prog 8 #[.slice A0 l0.length c0, .int .i64 a1] w fun e w' => e = .returned (.int .i64 r) ∧ Drawn0 w w' := by
 have HR0 := Aside0.mk hr0
 have HC0 := Aside0.mk hc0
 clear hr0 hc0
 have H : (if (wrap64 (a1 - (l0.length : Int))) < 0 then (some (-1)) else (laws_szInt64SS.l0 k l0 (wrap64 (a1 - (l0.length : Int))) 0)) = some r := h
 clear h
 by_cases c3 : (wrap64 (a1 - (l0.length : Int))) < 0
 ·rw [if_pos c3] at H
  have c3b0 : decide ((wrap64 (a1 - (l0.length : Int))) < 0) = true := decide_eq_true c3
  clear c3
  obtain rfl := Option.some.inj H
  go_enter Try.func8, Try.ntmps8
  go_wp2
  go_ret
  exact ⟨by first | rfl | (simp; done) | (simp [*]; done), by repeat (first | exact Drawn0.refl _ | apply Drawn0.step)⟩
 ·rw [if_neg c3] at H
  have c3b0 : decide ((wrap64 (a1 - (l0.length : Int))) < 0) = false := decide_eq_false c3
  clear c3
  have H' := Aside0.mk H
  clear H
  go_enter Try.func8, Try.ntmps8
  go_wp2
  go_loopg [1, 5] k (fun kq v1 v5 w' => ∃ (x1_1 : Int) (x5_1 : Int), v1 = .int .i64 x1_1 ∧ v5 = .int .i64 x5_1 ∧ Aside0 (laws_szInt64SS.l0 kq l0 x1_1 x5_1 = some r) ∧ Aside0 (kq ≤ k) ∧ Drawn0 w w')
  case atStart => exact ⟨(wrap64 (a1 - (l0.length : Int))), (0), (by first | rfl | (simp; done) | (simp [*]; done)), (by first | rfl | (simp; done) | (simp [*]; done)), H', ⟨Nat.le_refl _⟩, by repeat (first | exact Drawn0.refl _ | apply Drawn0.step)⟩
  case round =>
   clear H'
   try clear p2
   try clear c3
   try clear c3b0
   obtain ⟨x1_1, x5_1, rfl, rfl, HA, HK1, ⟨m1, rfl⟩⟩ := hrel
   cases gk with
   | zero => exact absurd HA.out (by simp [laws_szInt64SS.l0])
   | succ k1 =>
    have H := HA.out
    clear HA
    simp only [laws_szInt64SS.l0] at H
    by_cases c4 : x5_1 < (l0.length : Int)
    ·rw [if_pos c4] at H
     have c4b0 : decide (x5_1 < (l0.length : Int)) = true := decide_eq_true c4
     clear c4
     by_cases c5 : 0 ≤ x5_1
     ·rw [if_pos c5] at H
      have c5b0 : decide (0 ≤ x5_1) = true := decide_eq_true c5
      clear c5
      replace H := Option.bind_eq_some_iff.mp H
      obtain ⟨t102, A60, H⟩ := H
      replace H : (if t102 < 0 then (some (-1)) else (laws_szInt64SS.l0 k1 l0 t102 (wrap64 (x5_1 + 1)))) = some r := H
      have A6 := Aside0.mk A60
      clear A60
      by_cases c7 : t102 < 0
      ·rw [if_pos c7] at H
       have c7b0 : decide (t102 < 0) = true := decide_eq_true c7
       clear c7
       obtain rfl := Option.some.inj H
       have p101 : 0 ≤ (x5_1 : Int) := of_decide_eq_true (by first | (with_reducible assumption) | assumption)
       have q101 : x5_1 < (l0.length : Int) := of_decide_eq_true (by first | (with_reducible assumption) | assumption)
       obtain ⟨ad101, A101_0, c101_0, e101, hx101_0, hl101_0, hi101_0⟩ := at_L1 HR0.out x5_1 p101 q101
       cases e101
       have HR101_0 := Aside0.mk hi101_0
       have HC101_0 := Aside0.mk hl101_0
       clear hi101_0 hl101_0
       replace p101 := eq_true p101
       replace q101 := eq_true q101
       go_wp2_with (first | ((with_reducible refine gate_callee (f := 26) rfl ?_); refine goesL_ (some 23) rfl rfl Try.func26 (by kernel_rfl) rfl #[.slice A101_0 (rd_L1 l0 x5_1).length c101_0, .int .i64 x1_1] rfl (by (try simp only [List.map_toArray, List.map_cons, List.map_nil]); first | done | rfl | (simp only [List.length_drop, List.length_take]; rfl)) ?_; (with_reducible refine (laws_szInt64S.calls _ _ (rd_L1 l0 x5_1) x1_1 t102 _ ?side1 ?side2 A6.out).mono ?_); (case side1 => repeat (first | exact HR101_0.out | (with_reducible refine Kd.C_alloc ?_ _) | (with_reducible refine Kd.C_drewN ?_ _) | (with_reducible refine Kd.C_drew ?_))); (case side2 => exact HC101_0.out); rintro e w' ⟨rfl, ⟨nd, rfl⟩⟩; refine ⟨_, rfl, ?_⟩))
       go_ret
       exact ⟨by first | rfl | (simp; done) | (simp [*]; done), by repeat (first | exact Drawn0.refl _ | apply Drawn0.step)⟩
      ·rw [if_neg c7] at H
       have c7b0 : decide (t102 < 0) = false := decide_eq_false c7
       clear c7
       have H' := Aside0.mk H
       clear H
       have p101 : 0 ≤ (x5_1 : Int) := of_decide_eq_true (by first | (with_reducible assumption) | assumption)
       have q101 : x5_1 < (l0.length : Int) := of_decide_eq_true (by first | (with_reducible assumption) | assumption)
       obtain ⟨ad101, A101_0, c101_0, e101, hx101_0, hl101_0, hi101_0⟩ := at_L1 HR0.out x5_1 p101 q101
       cases e101
       have HR101_0 := Aside0.mk hi101_0
       have HC101_0 := Aside0.mk hl101_0
       clear hi101_0 hl101_0
       replace p101 := eq_true p101
       replace q101 := eq_true q101
       go_wp2_with (first | ((with_reducible refine gate_callee (f := 26) rfl ?_); refine goesL_ (some 23) rfl rfl Try.func26 (by kernel_rfl) rfl #[.slice A101_0 (rd_L1 l0 x5_1).length c101_0, .int .i64 x1_1] rfl (by (try simp only [List.map_toArray, List.map_cons, List.map_nil]); first | done | rfl | (simp only [List.length_drop, List.length_take]; rfl)) ?_; (with_reducible refine (laws_szInt64S.calls _ _ (rd_L1 l0 x5_1) x1_1 t102 _ ?side1 ?side2 A6.out).mono ?_); (case side1 => repeat (first | exact HR101_0.out | (with_reducible refine Kd.C_alloc ?_ _) | (with_reducible refine Kd.C_drewN ?_ _) | (with_reducible refine Kd.C_drew ?_))); (case side2 => exact HC101_0.out); rintro e w' ⟨rfl, ⟨nd, rfl⟩⟩; refine ⟨_, rfl, ?_⟩))
       go_roundg k1
       case measure => have := HK1.out; omega
       case rel => exact ⟨(t102), (wrap64 (x5_1 + 1)), (by first | rfl | (simp; done) | (simp [*]; done)), (by first | rfl | (simp; done) | (simp [*]; done)), H', ⟨by have := HK1.out; omega⟩, by repeat (first | exact Drawn0.refl _ | apply Drawn0.step)⟩
     ·rw [if_neg c5] at H
      exact absurd H (by simp)
    ·rw [if_neg c4] at H
     have c4b0 : decide (x5_1 < (l0.length : Int)) = false := decide_eq_false c4
     clear c4
     obtain rfl := Option.some.inj H
     go_wp2
     go_ret
     exact ⟨by first | rfl | (simp; done) | (simp [*]; done), by repeat (first | exact Drawn0.refl _ | apply Drawn0.step)⟩
end Go.Proofs.Ytgdmflmglkakgaa.Q
namespace Go.Proofs.Ytgdmflmglkakgaa.Q
open Go.RowKit Go.Proofs.YtgdmflmglkakgaaW.PrintWords Go.Proofs.YtgdmflmglkakgaaW.PrintLast Go.Proofs.YtgdmflmglkakgaaW.PrintMore
attribute [local go_sem] max2_int min2_int max_two min_two max_three min_three max_four min_four
set_option linter.unusedVariables false
set_option linter.unusedSimpArgs false
def laws_toInt64S.l0 : Nat → List Int → List Int → Int → Option (List Int)
 | 0, _, _, _ => none
 | k + 1, x0, x3, x4 => if x4 < (x0.length : Int) then (if 0 ≤ x4 then (if x4 < (x3.length : Int) then (laws_toInt64S.l0 k x0 (x3.set (x4 : Int).toNat (rd x0 x4)) (wrap64 (x4 + 1))) else (none)) else (none)) else (some x3)
def laws_toInt64S.f (k : Nat) (l0 : List Int) : Option (List Int) := if 0 ≤ (l0.length : Int) then (if ((l0.length : Int) : Int).toNat ≤ 35184372088832 then (laws_toInt64S.l0 k l0 (List.replicate ((l0.length : Int) : Int).toNat 0) 0) else (none)) else (none)
theorem laws_toInt64S.mono_l : ∀ k, (∀ y0 y1 y2, LeO (laws_toInt64S.l0 k y0 y1 y2) (laws_toInt64S.l0 (k + 1) y0 y1 y2))
 | 0 => fun _ _ _ r h => by simp [laws_toInt64S.l0] at h
 | k + 1 => by
  have ih0 := laws_toInt64S.mono_l k
  ·intro y0 y1 y2
   unfold laws_toInt64S.l0
   repeat' first
   | (with_reducible exact ih0 _ _ _)
   | (with_reducible exact LeO.refl _)
   | (with_reducible exact LeO.none _)
   | (with_reducible refine LeO.ite ?_ ?_)
   | (with_reducible refine LeO.bind ?_ (fun _ => ?_))
   | exact ih0 _ _ _
   | exact LeO.none _
   | refine LeO.ite ?_ ?_
   | refine LeO.bind ?_ (fun _ => ?_)
theorem laws_toInt64S.mono : ∀ a0 k, LeO (laws_toInt64S.f k a0) (laws_toInt64S.f (k + 1) a0) := by
 intro a0 k
 have ih0 := laws_toInt64S.mono_l k
 unfold laws_toInt64S.f
 repeat' first
   | (with_reducible exact ih0 _ _ _)
   | (with_reducible exact LeO.refl _)
   | (with_reducible exact LeO.none _)
   | (with_reducible refine LeO.ite ?_ ?_)
   | (with_reducible refine LeO.bind ?_ (fun _ => ?_))
   | exact ih0 _ _ _
   | exact LeO.none _
   | refine LeO.ite ?_ ?_
   | refine LeO.bind ?_ (fun _ => ?_)
set_option maxHeartbeats 8000000 in
set_option maxRecDepth 100000 in
theorem laws_toInt64S.calls (k : Nat) (A0 : Option Addr) (c0 : Nat) (l0 : List Int) (r : List Int) (w : World) (hr0 : Kd.C (Kd.int .i64) w A0 l0.length l0) (hc0 : l0.length ≤ c0) (h : laws_toInt64S.f k l0 = some r) :
  Calls Try.prog 30 #[.slice A0 l0.length c0] w fun e w' => ∃ v0_ : Value, e = .returned (v0_) ∧ Kd.R (Kd.int .i64) 2 w' w.heap.size (fun _ => True) v0_ r ∧ Below w.heap.size w w' := by
 have HR0 := Aside0.mk hr0
 have HC0 := Aside0.mk hc0
 clear hr0 hc0
 have HB := Aside0.mk (Below.refl w.heap.size w)
 have H : (if 0 ≤ (l0.length : Int) then (if ((l0.length : Int) : Int).toNat ≤ 35184372088832 then (laws_toInt64S.l0 k l0 (List.replicate ((l0.length : Int) : Int).toNat 0) 0) else (none)) else (none)) = some r := h
 clear h
 by_cases c2 : 0 ≤ (l0.length : Int)
 ·rw [if_pos c2] at H
  have c2b0 := eq_true c2
  have c2b1 : decide (0 ≤ (l0.length : Int)) = true := decide_eq_true c2
  clear c2
  by_cases c3 : ((l0.length : Int) : Int).toNat ≤ 35184372088832
  ·rw [if_pos c3] at H
   have c3b0 := eq_true c3
   have c3b1 : decide (((l0.length : Int) : Int).toNat ≤ 35184372088832) = true := decide_eq_true c3
   clear c3
   obtain ⟨y116, hy116⟩ : ∃ y_ : List Int, y_ = (List.replicate ((l0.length : Int) : Int).toNat 0) := ⟨_, rfl⟩
   replace H : (laws_toInt64S.l0 k l0 y116 0) = some r := by first | (rw [hy116]; with_reducible exact H) | (have H2_ := (Option.bind_some _ _).symm.trans H; rw [hy116]; with_reducible exact H2_) | (have H2_ := (Option.bind_some _ _).symm.trans H; with_reducible exact H2_) | with_reducible exact H | (rw [hy116]; exact H) | exact H
   have Ny116 := Aside0.mk hy116
   clear hy116
   have H' := Aside0.mk H
   clear H
   go_enter Try.func30, Try.ntmps30
   go_wp2_with (first | ((with_reducible refine gate_dst (N := 7) rfl ?_); refine Kd.R_make (Kd.int .i64) _ 2 rfl (N := 7) rfl 46 _ _ rfl (l0.length : Int) rfl rfl Try.underlying46 (.int .i64 0) 8 info2 rfl (by decide) (by omega) 0 (ok := fun _ => True) (okp := fun _ => True) rfl (fun _ hk => hk) trivial (of_decide_eq_true (by first | (with_reducible assumption) | assumption)) (Nat.le_trans (Nat.mul_le_mul_right _ (of_decide_eq_true (by first | (with_reducible assumption) | assumption) : (l0.length : Int).toNat ≤ 35184372088832)) (by omega)) (Below.refl _ _) (Nat.le_refl _) ?_; intro v117 w4 ho5 hb hg_ hnew_; clear hg_ hnew_; (first | rw [← Ny116.out] at ho5 | (simp only [Int.reduceToNat] at ho5; rw [← Ny116.out] at ho5)); have n0_ := Aside0.mk (Kd.R_lower ho5 (below_size (by repeat (first | (with_reducible first | exact HB.out | apply below_alloc | apply pw_below_drewN | apply below_drew1) | exact HB.out)))); have n1_ := Aside0.mk (below_step (by repeat (first | (with_reducible first | exact HB.out | apply below_alloc | apply pw_below_drewN | apply below_drew1) | exact HB.out)) hb); clear HB; have HO118 := n0_; have HB := n1_; clear n0_ n1_; clear hb ho5))
   go_loopg [4] k (fun kq v4 w' => ∃ (x3_1 : List Int) (x4_1 : Int), v4 = .int .i64 x4_1 ∧ Aside0 (laws_toInt64S.l0 kq l0 x3_1 x4_1 = some r) ∧ Aside0 (kq ≤ k) ∧ Aside0 (Kd.R (Kd.int .i64) 2 w' w.heap.size (fun _ => True) v117 x3_1) ∧ Aside0 (Below w.heap.size w w'))
   case atStart => exact ⟨(y116), (0), (by first | rfl | (simp; done) | (simp [*]; done)), H', ⟨Nat.le_refl _⟩, ⟨by (with_reducible repeat (first | apply Kd.R_alloc | apply Kd.R_drewN | apply Kd.R_drew)); exact HO118.out⟩, ⟨by repeat (first | (with_reducible first | exact HB.out | apply below_alloc | apply pw_below_drewN | apply below_drew1) | exact HB.out)⟩⟩
   case round =>
    clear H'
    try clear c2
    try clear c2b0
    try clear c2b1
    try clear p2
    try clear c3
    try clear c3b0
    try clear c3b1
    obtain ⟨x3_1, x4_1, rfl, HA, HK1, HO_3, HB⟩ := hrel
    cases gk with
    | zero => exact absurd HA.out (by simp [laws_toInt64S.l0])
    | succ k1 =>
     have H := HA.out
     clear HA
     simp only [laws_toInt64S.l0] at H
     by_cases c6 : x4_1 < (l0.length : Int)
     ·rw [if_pos c6] at H
      have c6b0 : decide (x4_1 < (l0.length : Int)) = true := decide_eq_true c6
      clear c6
      by_cases c7 : 0 ≤ x4_1
      ·rw [if_pos c7] at H
       have c7b0 : decide (0 ≤ x4_1) = true := decide_eq_true c7
       clear c7
       by_cases c8 : x4_1 < (x3_1.length : Int)
       ·rw [if_pos c8] at H
        have c8b0 : decide (x4_1 < (x3_1.length : Int)) = true := decide_eq_true c8
        clear c8
        obtain ⟨y120, hy120⟩ : ∃ y_ : List Int, y_ = (x3_1.set (x4_1 : Int).toNat (rd l0 x4_1)) := ⟨_, rfl⟩
        replace H : (laws_toInt64S.l0 k1 l0 y120 (wrap64 (x4_1 + 1))) = some r := by first | (rw [hy120]; with_reducible exact H) | (have H2_ := (Option.bind_some _ _).symm.trans H; rw [hy120]; with_reducible exact H2_) | (have H2_ := (Option.bind_some _ _).symm.trans H; with_reducible exact H2_) | with_reducible exact H | (rw [hy120]; exact H) | exact H
        have Ny120 := Aside0.mk hy120
        clear hy120
        have H' := Aside0.mk H
        clear H
        have p119 : 0 ≤ (x4_1 : Int) := of_decide_eq_true (by first | (with_reducible assumption) | assumption)
        have q119 : x4_1 < (l0.length : Int) := of_decide_eq_true (by first | (with_reducible assumption) | assumption)
        obtain ⟨ad119, e119, hx119_0⟩ := Kd.at_int HR0.out x4_1 p119 q119
        cases e119
        replace hx119_0 := (HB.out.cell (World.block_lt_of_cell? w _ hx119_0)).trans hx119_0
        replace p119 := eq_true p119
        replace q119 := eq_true q119
        have p9 : 0 ≤ (x4_1 : Int) := of_decide_eq_true (by first | (with_reducible assumption) | assumption)
        have q9 : (x4_1 : Int) < ((x3_1.length : Int) : Int) := of_decide_eq_true (by first | (with_reducible assumption) | assumption)
        obtain ⟨go9, co9, eo9, gb9, gl9, cl9, HG9⟩ := Kd.R_form HO_3.out (by omega)
        (first | cases eo9 | (injection eo9 with ea_ en_ ec_; (first | subst ea_ | (injection ea_ with ea_; subst ea_)); subst ec_; clear en_))
        have GB9 := Aside0.mk gb9
        have GG9 := Aside0.mk HG9
        clear gb9 gl9 HG9
        obtain ⟨hx9_0, hf9_0⟩ := Kd.R_celln 0 HO_3.out (x4_1 : Int) p9 q9
        replace p9 := eq_true p9
        replace q9 := eq_true q9
        have HP10 := Kd.R_putg HO_3.out (x4_1 : Int) (rd l0 x4_1)
        go_wp2_with (first | ((with_reducible refine gate_store (t := 2) (p := 20) rfl ?_); refine store_event (t := 2) (p := 20) (v := ?vo_w11) (w1 := (wr.setCell ⟨go9, (x4_1 : Int).toNat, none⟩ (.int .i64 (rd l0 x4_1)))) ?hg ?ho ?hn ?hr ?_; (case ho => rfl); (case hg => rfl); (case hn => rfl); (case hr => first | (go_simp; done) | (go_simp; rfl)); intro w11 hw; have hg : wr.grownBy w11 (some go9) := (by rw [hw]; exact HP10.2); have hp_ : Kd.R (Kd.int .i64) 2 w11 w.heap.size (fun _ => True) (.slice (some ⟨go9, 0, none⟩) x3_1.length co9) y120 := (by rw [hw, Ny120.out]; exact HP10.1); clear HP10; have n0_ := Aside0.mk (hp_); have n1_ := Aside0.mk ((by rw [hw]; exact below_set (HB.out) GB9.out : Below w.heap.size w w11)); clear HO_3; clear HB; have HO_3 := n0_; have HB := n1_; clear n0_ n1_; clear hg hw hp_))
        go_roundg k1
        case measure => have := HK1.out; omega
        case rel => exact ⟨(y120), (wrap64 (x4_1 + 1)), (by first | rfl | (simp; done) | (simp [*]; done)), H', ⟨by have := HK1.out; omega⟩, ⟨by (with_reducible repeat (first | apply Kd.R_alloc | apply Kd.R_drewN | apply Kd.R_drew)); exact HO_3.out⟩, ⟨by repeat (first | (with_reducible first | exact HB.out | apply below_alloc | apply pw_below_drewN | apply below_drew1) | exact HB.out)⟩⟩
       ·rw [if_neg c8] at H
        exact absurd H (by simp)
      ·rw [if_neg c7] at H
       exact absurd H (by simp)
     ·rw [if_neg c6] at H
      have c6b0 : decide (x4_1 < (l0.length : Int)) = false := decide_eq_false c6
      clear c6
      obtain rfl := Option.some.inj H
      go_wp2
      go_ret
      exact ⟨_, by first | rfl | (simp [errW_none, errW_some] <;> rfl) | (simp [*, errW_none, errW_some] <;> rfl), by (with_reducible repeat (first | apply Kd.R_alloc | apply Kd.R_drewN | apply Kd.R_drew)); exact HO_3.out, by repeat (first | (with_reducible first | exact HB.out | apply below_alloc | apply pw_below_drewN | apply below_drew1) | exact HB.out)⟩
  ·rw [if_neg c3] at H
   exact absurd H (by simp)
 ·rw [if_neg c2] at H
  exact absurd H (by simp)
end Go.Proofs.Ytgdmflmglkakgaa.Q
namespace Go.Proofs.Ytgdmflmglkakgaa.Q
open Go.RowKit Go.Proofs.YtgdmflmglkakgaaW.PrintWords Go.Proofs.YtgdmflmglkakgaaW.PrintLast Go.Proofs.YtgdmflmglkakgaaW.PrintMore
attribute [local go_sem] max2_int min2_int max_two min_two max_three min_three max_four min_four
set_option linter.unusedVariables false
set_option linter.unusedSimpArgs false
def laws_toInt64SS.l0 : Nat → List (List Int) → List (List Int) → Int → Option ((List (List Int)))
 | 0, _, _, _ => none
 | k + 1, x0, x3, x4 => if x4 < (x0.length : Int) then (if 0 ≤ x4 then ((laws_toInt64S.f k (rd_L1 x0 x4)).bind fun t125 => (if x4 < (x3.length : Int) then (laws_toInt64SS.l0 k x0 (x3.set (x4 : Int).toNat t125) (wrap64 (x4 + 1))) else (none))) else (none)) else (some x3)
def laws_toInt64SS.f (k : Nat) (l0 : List (List Int)) : Option ((List (List Int))) := if 0 ≤ (l0.length : Int) then (if ((l0.length : Int) : Int).toNat ≤ 11728124029610 then (laws_toInt64SS.l0 k l0 (List.replicate ((l0.length : Int) : Int).toNat []) 0) else (none)) else (none)
theorem laws_toInt64SS.mono_l : ∀ k, (∀ y0 y1 y2, LeO (laws_toInt64SS.l0 k y0 y1 y2) (laws_toInt64SS.l0 (k + 1) y0 y1 y2))
 | 0 => fun _ _ _ r h => by simp [laws_toInt64SS.l0] at h
 | k + 1 => by
  have ih0 := laws_toInt64SS.mono_l k
  ·intro y0 y1 y2
   unfold laws_toInt64SS.l0
   repeat' first
   | (with_reducible exact ih0 _ _ _)
   | (with_reducible exact laws_toInt64S.mono _ _)
   | (with_reducible exact LeO.refl _)
   | (with_reducible exact LeO.none _)
   | (with_reducible refine LeO.ite ?_ ?_)
   | (with_reducible refine LeO.bind ?_ (fun _ => ?_))
   | exact ih0 _ _ _
   | exact laws_toInt64S.mono _ _
   | exact LeO.none _
   | refine LeO.ite ?_ ?_
   | refine LeO.bind ?_ (fun _ => ?_)
theorem laws_toInt64SS.mono : ∀ a0 k, LeO (laws_toInt64SS.f k a0) (laws_toInt64SS.f (k + 1) a0) := by
 intro a0 k
 have ih0 := laws_toInt64SS.mono_l k
 unfold laws_toInt64SS.f
 repeat' first
   | (with_reducible exact ih0 _ _ _)
   | (with_reducible exact laws_toInt64S.mono _ _)
   | (with_reducible exact LeO.refl _)
   | (with_reducible exact LeO.none _)
   | (with_reducible refine LeO.ite ?_ ?_)
   | (with_reducible refine LeO.bind ?_ (fun _ => ?_))
   | exact ih0 _ _ _
   | exact laws_toInt64S.mono _ _
   | exact LeO.none _
   | refine LeO.ite ?_ ?_
   | refine LeO.bind ?_ (fun _ => ?_)
set_option maxHeartbeats 8000000 in
set_option maxRecDepth 100000 in
theorem laws_toInt64SS.calls (k : Nat) (A0 : Option Addr) (c0 : Nat) (l0 : List (List Int)) (r : List (List Int)) (w : World) (hr0 : Kd.C (Kd.slice 2 (Kd.int .i64)) w A0 l0.length l0) (hc0 : l0.length ≤ c0) (h : laws_toInt64SS.f k l0 = some r) :
  Calls Try.prog 11 #[.slice A0 l0.length c0] w fun e w' => ∃ v0_ : Value, e = .returned (v0_) ∧ Kd.S (Kd.slice 2 (Kd.int .i64)) 46 w' w.heap.size (fun _ => True) v0_ r ∧ Below w.heap.size w w' := by
 have HR0 := Aside0.mk hr0
 have HC0 := Aside0.mk hc0
 clear hr0 hc0
 have HB := Aside0.mk (Below.refl w.heap.size w)
 have H : (if 0 ≤ (l0.length : Int) then (if ((l0.length : Int) : Int).toNat ≤ 11728124029610 then (laws_toInt64SS.l0 k l0 (List.replicate ((l0.length : Int) : Int).toNat []) 0) else (none)) else (none)) = some r := h
 clear h
 by_cases c2 : 0 ≤ (l0.length : Int)
 ·rw [if_pos c2] at H
  have c2b0 := eq_true c2
  have c2b1 : decide (0 ≤ (l0.length : Int)) = true := decide_eq_true c2
  clear c2
  by_cases c3 : ((l0.length : Int) : Int).toNat ≤ 11728124029610
  ·rw [if_pos c3] at H
   have c3b0 := eq_true c3
   have c3b1 : decide (((l0.length : Int) : Int).toNat ≤ 11728124029610) = true := decide_eq_true c3
   clear c3
   obtain ⟨y121, hy121⟩ : ∃ y_ : List (List Int), y_ = (List.replicate ((l0.length : Int) : Int).toNat []) := ⟨_, rfl⟩
   replace H : (laws_toInt64SS.l0 k l0 y121 0) = some r := by first | (rw [hy121]; with_reducible exact H) | (have H2_ := (Option.bind_some _ _).symm.trans H; rw [hy121]; with_reducible exact H2_) | (have H2_ := (Option.bind_some _ _).symm.trans H; with_reducible exact H2_) | with_reducible exact H | (rw [hy121]; exact H) | exact H
   have Ny121 := Aside0.mk hy121
   clear hy121
   have H' := Aside0.mk H
   clear H
   go_enter Try.func11, Try.ntmps11
   go_wp2_with (first | ((with_reducible refine gate_dst (N := 7) rfl ?_); refine Kd.S_make (Kd.slice 2 (Kd.int .i64)) _ 46 rfl (N := 7) rfl 25 _ _ rfl (l0.length : Int) rfl rfl Try.underlying25 (.slice none 0 0) 24 info46 rfl (by decide) (by omega) [] (ok := fun _ => True) (okp := fun _ => True) ⟨_, rfl, Kd.R_nil _ _ _ _ _⟩ (fun _ hk => hk) trivial (of_decide_eq_true (by first | (with_reducible assumption) | assumption)) (Nat.le_trans (Nat.mul_le_mul_right _ (of_decide_eq_true (by first | (with_reducible assumption) | assumption) : (l0.length : Int).toNat ≤ 11728124029610)) (by omega)) (Below.refl _ _) (Nat.le_refl _) ?_; intro v122 w4 ho5 hb hg_ hnew_; clear hg_ hnew_; (first | rw [← Ny121.out] at ho5 | (simp only [Int.reduceToNat] at ho5; rw [← Ny121.out] at ho5)); have n0_ := Aside0.mk (Kd.S_lower ho5 (below_size (by repeat (first | (with_reducible first | exact HB.out | apply below_alloc | apply pw_below_drewN | apply below_drew1) | exact HB.out)))); have n1_ := Aside0.mk (below_step (by repeat (first | (with_reducible first | exact HB.out | apply below_alloc | apply pw_below_drewN | apply below_drew1) | exact HB.out)) hb); clear HB; have HO123 := n0_; have HB := n1_; clear n0_ n1_; clear hb ho5))
   go_loopg [4] k (fun kq v4 w' => ∃ (x3_1 : List (List Int)) (x4_1 : Int), v4 = .int .i64 x4_1 ∧ Aside0 (laws_toInt64SS.l0 kq l0 x3_1 x4_1 = some r) ∧ Aside0 (kq ≤ k) ∧ Aside0 (Kd.S (Kd.slice 2 (Kd.int .i64)) 46 w' w.heap.size (fun _ => True) v122 x3_1) ∧ Aside0 (Below w.heap.size w w'))
   case atStart => exact ⟨(y121), (0), (by first | rfl | (simp; done) | (simp [*]; done)), H', ⟨Nat.le_refl _⟩, ⟨by (with_reducible repeat (first | apply Kd.S_alloc | apply Kd.S_drewN | apply Kd.S_drew)); exact HO123.out⟩, ⟨by repeat (first | (with_reducible first | exact HB.out | apply below_alloc | apply pw_below_drewN | apply below_drew1) | exact HB.out)⟩⟩
   case round =>
    clear H'
    try clear c1
    try clear c2
    try clear c2b0
    try clear c2b1
    try clear p2
    try clear c3
    try clear c3b0
    try clear c3b1
    obtain ⟨x3_1, x4_1, rfl, HA, HK1, HO_3, HB⟩ := hrel
    cases gk with
    | zero => exact absurd HA.out (by simp [laws_toInt64SS.l0])
    | succ k1 =>
     have H := HA.out
     clear HA
     simp only [laws_toInt64SS.l0] at H
     by_cases c6 : x4_1 < (l0.length : Int)
     ·rw [if_pos c6] at H
      have c6b0 : decide (x4_1 < (l0.length : Int)) = true := decide_eq_true c6
      clear c6
      by_cases c7 : 0 ≤ x4_1
      ·rw [if_pos c7] at H
       have c7b0 : decide (0 ≤ x4_1) = true := decide_eq_true c7
       clear c7
       replace H := Option.bind_eq_some_iff.mp H
       obtain ⟨t125, A80, H⟩ := H
       replace H : (if x4_1 < (x3_1.length : Int) then (laws_toInt64SS.l0 k1 l0 (x3_1.set (x4_1 : Int).toNat t125) (wrap64 (x4_1 + 1))) else (none)) = some r := H
       have A8 := Aside0.mk A80
       clear A80
       by_cases c9 : x4_1 < (x3_1.length : Int)
       ·rw [if_pos c9] at H
        have c9b0 : decide (x4_1 < (x3_1.length : Int)) = true := decide_eq_true c9
        clear c9
        obtain ⟨y128, hy128⟩ : ∃ y_ : List (List Int), y_ = (x3_1.set (x4_1 : Int).toNat t125) := ⟨_, rfl⟩
        replace H : (laws_toInt64SS.l0 k1 l0 y128 (wrap64 (x4_1 + 1))) = some r := by first | (rw [hy128]; with_reducible exact H) | (have H2_ := (Option.bind_some _ _).symm.trans H; rw [hy128]; with_reducible exact H2_) | (have H2_ := (Option.bind_some _ _).symm.trans H; with_reducible exact H2_) | with_reducible exact H | (rw [hy128]; exact H) | exact H
        have Ny128 := Aside0.mk hy128
        clear hy128
        have H' := Aside0.mk H
        clear H
        have p124 : 0 ≤ (x4_1 : Int) := of_decide_eq_true (by first | (with_reducible assumption) | assumption)
        have q124 : x4_1 < (l0.length : Int) := of_decide_eq_true (by first | (with_reducible assumption) | assumption)
        obtain ⟨ad124, A124_0, c124_0, e124, hx124_0, hl124_0, hi124_0⟩ := at_L1 HR0.out x4_1 p124 q124
        cases e124
        replace hx124_0 := (HB.out.cell (World.block_lt_of_cell? w _ hx124_0)).trans hx124_0
        have HR124_0 := Aside0.mk hi124_0
        have HC124_0 := Aside0.mk hl124_0
        clear hi124_0 hl124_0
        replace p124 := eq_true p124
        replace q124 := eq_true q124
        go_wp2_with (first | ((with_reducible refine gate_callee (f := 30) rfl ?_); refine goesL_ (some 20) rfl rfl Try.func30 (by kernel_rfl) rfl #[.slice A124_0 (rd_L1 l0 x4_1).length c124_0] rfl (by (try simp only [List.map_toArray, List.map_cons, List.map_nil]); first | done | rfl | (simp only [List.length_drop, List.length_take]; rfl)) ?_; (with_reducible refine (laws_toInt64S.calls k1 _ _ (rd_L1 l0 x4_1) t125 _ ?side1 ?side2 A8.out).mono ?_); (case side1 => repeat (first | exact (Kd.C_below HR124_0.out HB.out) | (with_reducible refine Kd.C_alloc ?_ _) | (with_reducible refine Kd.C_drewN ?_ _) | (with_reducible refine Kd.C_drew ?_))); (case side2 => exact HC124_0.out); rintro e w11 ⟨v126, rfl, ho0, hb⟩; refine ⟨_, rfl, ?_⟩; have n0_ := Aside0.mk (Kd.S_elder' (by (with_reducible repeat (first | apply Kd.S_alloc | apply Kd.S_drewN | apply Kd.S_drew)); exact HO_3.out) (Kd.R_base ho0) hb); have n1_ := Aside0.mk (Kd.R_lower ho0 (below_size (by repeat (first | (with_reducible first | exact HB.out | apply below_alloc | apply pw_below_drewN | apply below_drew1) | exact HB.out)))); have n2_ := Aside0.mk (below_step (by repeat (first | (with_reducible first | exact HB.out | apply below_alloc | apply pw_below_drewN | apply below_drew1) | exact HB.out)) hb); clear HO_3; clear HB; have HO_3 := n0_; have HO127 := n1_; have HB := n2_; clear n0_ n1_ n2_; (try clear hb); (try clear hb2); (try clear hk); (try clear hi); (try clear ho0); have p10 : 0 ≤ (x4_1 : Int) := of_decide_eq_true (by first | (with_reducible assumption) | assumption); have q10 : (x4_1 : Int) < ((x3_1.length : Int) : Int) := of_decide_eq_true (by first | (with_reducible assumption) | assumption); obtain ⟨go10, co10, eo10, gb10, gl10, cl10, HG10⟩ := Kd.S_form HO_3.out (by omega); (first | cases eo10 | (injection eo10 with ea_ en_ ec_; (first | subst ea_ | (injection ea_ with ea_; subst ea_)); subst ec_; clear en_)); have GB10 := Aside0.mk gb10; have GG10 := Aside0.mk HG10; clear gb10 gl10 HG10; obtain ⟨_, ce10, hcl10, hM10, hcc10, hfr10, _, _⟩ := Kd.S_elem HO_3.out [] (x4_1 : Int) p10 q10; obtain ⟨ve10_0, rfl, ge10_0⟩ := hM10; have hx10_0 := hcc10 0 _ rfl; have hf10_0 := hfr10 0; (try simp only [show ((Kd.slice 2 (Kd.int .i64))).sz = 1 from rfl, Nat.mul_one, Nat.add_zero] at hx10_0); (try simp only [show ((Kd.slice 2 (Kd.int .i64))).sz = 1 from rfl, Nat.mul_one, Nat.add_zero] at hf10_0); clear hcl10 hcc10 hfr10; (try clear hM10); replace p10 := eq_true p10; replace q10 := eq_true q10; obtain ⟨Ao14, co14, eo14⟩ := Kd.R_slice HO127.out; subst eo14; have n_ := Aside0.mk (Kd.S_mono (ok' := (fun k_ => some k_ ≠ (.slice Ao14 t125.length co14 : Value).ownBlock)) HO_3.out (fun k_ hk => hk.2)); clear HO_3; have HO_3 := n_; clear n_; have HX12 := Aside0.mk (show Kd.S (Kd.slice 2 (Kd.int .i64)) 46 w11 w.heap.size (fun k_ => ((fun _ => True)) k_ ∧ ¬ ((fun k_ => some k_ = (.slice Ao14 t125.length co14 : Value).ownBlock)) k_) (.slice (some ⟨go10, 0, none⟩) x3_1.length co10) x3_1 from (by (with_reducible repeat (first | apply Kd.S_alloc | apply Kd.S_drewN | apply Kd.S_drew)); exact Kd.S_mono HO_3.out (fun k_ hk => ⟨trivial, fun e_ => hk e_⟩))); obtain ⟨oki12, ce12, hcl12, hM12, hcc12, hfr12, hoki12, hH12⟩ := Kd.S_elem HX12.out [] (x4_1 : Int) (of_decide_eq_true (by first | (with_reducible assumption) | assumption)) (by have h_ : (x4_1 : Int) < ((x3_1.length : Int) : Int) := of_decide_eq_true (by first | (with_reducible assumption) | assumption); first | exact h_ | (have e_ := (Kd.S_reads' HO_3.out).1; omega) | simpa using h_); obtain ⟨ve12_0, rfl, ge12_0⟩ := hM12; have HP12 := Kd.S_seg hH12 (of_decide_eq_true (by first | (with_reducible assumption) | assumption)) (by have h_ : (x4_1 : Int) < ((x3_1.length : Int) : Int) := of_decide_eq_true (by first | (with_reducible assumption) | assumption); first | exact h_ | (have e_ := (Kd.S_reads' HO_3.out).1; omega) | simpa using h_) (seg := [.slice Ao14 t125.length co14]) (j := 0) (show 1 ≤ 1 from by decide) (x' := t125) (Kd.M_row (Kd.R_mono (Kd.R_tight rfl (Kd.R_mono (ok' := fun k_ => ((fun _ => True)) k_ ∧ k_ ≠ go10) (Kd.R_apart' (HO127.out) (Kd.S_typed HO_3.out) (by decide)) (fun k_ hk => ⟨trivial, fun e_ => (hk.2) (by rw [e_]; rfl)⟩))) (fun _ h_ => Or.inr (h_)))) (fun _ hk => hk) (fun k_ hk_ => ((Kd.R_mono (ok' := fun k_ => ((fun _ => True)) k_ ∧ k_ ≠ go10) (Kd.R_apart' (HO127.out) (Kd.S_typed HO_3.out) (by decide)) (fun k_ hk => ⟨trivial, fun e_ => (hk.2) (by rw [e_]; rfl)⟩))).1 k_ hk_.symm); have hx12_0 := hcc12 0 _ rfl; (try simp only [show ((Kd.slice 2 (Kd.int .i64))).sz = 1 from rfl, Nat.mul_one, Nat.add_zero] at hx12_0); have hf12_0 := hfr12 0; (try simp only [show ((Kd.slice 2 (Kd.int .i64))).sz = 1 from rfl, Nat.mul_one, Nat.add_zero] at hf12_0); clear hcl12 hcc12 hfr12 hoki12 hH12; (try clear hM12); (try simp only [show ((Kd.slice 2 (Kd.int .i64))).sz = 1 from rfl, Nat.mul_one, Nat.add_zero] at HP12)) | ((with_reducible refine gate_store (t := 46) (p := 21) rfl ?_); refine store_event (t := 46) (p := 21) (v := ?vo_w13) (w1 := (w11.setCell ⟨go10, (x4_1 : Int).toNat, none⟩ (.slice Ao14 t125.length co14))) ?hg ?ho ?hn ?hr ?_; (case ho => rfl); (case hg => rfl); (case hn => rfl); (case hr => first | (go_simp; done) | (go_simp; rfl)); intro w13 hw; have hg : w11.grownBy w13 (some go10) := (by rw [hw]; exact HP12.2); have hp_ : Kd.S (Kd.slice 2 (Kd.int .i64)) 46 w13 w.heap.size (fun _ => True) (.slice (some ⟨go10, 0, none⟩) x3_1.length co10) y128 := (by rw [hw, Ny128.out]; exact HP12.1); clear HP12; have n0_ := Aside0.mk (hp_); have n1_ := Aside0.mk ((by rw [hw]; exact below_set (HB.out) GB10.out : Below w.heap.size w w13)); clear HO_3; clear HB; clear HO127; have HO_3 := n0_; have HB := n1_; clear n0_ n1_; clear hg hw hp_))
        go_roundg k1
        case measure => have := HK1.out; omega
        case rel => exact ⟨(y128), (wrap64 (x4_1 + 1)), (by first | rfl | (simp; done) | (simp [*]; done)), H', ⟨by have := HK1.out; omega⟩, ⟨by (with_reducible repeat (first | apply Kd.S_alloc | apply Kd.S_drewN | apply Kd.S_drew)); exact HO_3.out⟩, ⟨by repeat (first | (with_reducible first | exact HB.out | apply below_alloc | apply pw_below_drewN | apply below_drew1) | exact HB.out)⟩⟩
       ·rw [if_neg c9] at H
        exact absurd H (by simp)
      ·rw [if_neg c7] at H
       exact absurd H (by simp)
     ·rw [if_neg c6] at H
      have c6b0 : decide (x4_1 < (l0.length : Int)) = false := decide_eq_false c6
      clear c6
      obtain rfl := Option.some.inj H
      go_wp2
      go_ret
      exact ⟨_, by first | rfl | (simp [errW_none, errW_some] <;> rfl) | (simp [*, errW_none, errW_some] <;> rfl), by (with_reducible repeat (first | apply Kd.S_alloc | apply Kd.S_drewN | apply Kd.S_drew)); exact HO_3.out, by repeat (first | (with_reducible first | exact HB.out | apply below_alloc | apply pw_below_drewN | apply below_drew1) | exact HB.out)⟩
  ·rw [if_neg c3] at H
   exact absurd H (by simp)
 ·rw [if_neg c2] at H
  exact absurd H (by simp)
end Go.Proofs.Ytgdmflmglkakgaa.Q
namespace Go.Proofs.Ytgdmflmglkakgaa
open Go Go.RowKit Go.Proofs Go.Proofs.YtgdmflmglkakgaaW.PrintWords Go.Proofs.YtgdmflmglkakgaaW.PrintMore Go.Proofs.Ytgdmflmglkakgaa.Q
set_option linter.unusedVariables false
set_option linter.unusedSimpArgs false
theorem succW (m : Nat) (h : m < 1000000000) : wrap64 ((m : Int) + 1) = ((m + 1 : Nat) : Int) := by unfold wrap64; omega
theorem le_ofS {w : World} {lo hi : Nat} {A : Option Addr} {n c : Nat} {xs : List (List Int)} {cs : Nat → List Value} (h : OWS w lo hi (.slice A n c) xs cs) : n ≤ c := by
  obtain ⟨A', c', g, hv, e, hc, -⟩ := h.ex
  injection e with e1 e2 e3
  omega
def sumF (f : Nat → Nat) : Nat → Nat → Nat
  | 0, _ => 0
  | d + 1, i => f i + sumF f d (i + 1)
theorem sumF_tot (f : Nat → Nat) : ∀ d m, tot f m + sumF f d m = tot f (m + d) := by
  intro d
  induction d with
  | zero => intro m; simp [sumF]
  | succ d ih =>
    intro m
    have := ih (m + 1)
    rw [sumF, show m + (d + 1) = m + 1 + d by omega, ← this, tot]
    omega
theorem szRow_f (row : List Int) (left : Int) (h0 : 0 ≤ left) (h1 : left ≤ 1048576) (hl : row.length ≤ 9223372036854775807) : laws_szInt64S.f row left = some (if left < (row.length : Nat) then -1 else left - (row.length : Nat)) := by
  have e : wrap64 (left - (row.length : Int)) = left - (row.length : Int) := by unfold wrap64; omega
  rw [laws_szInt64S.f, e]
  by_cases h : left < (row.length : Int)
  · rw [if_pos (show left - (row.length : Int) < 0 by omega), if_pos h]
  · rw [if_neg (show ¬ left - (row.length : Int) < 0 by omega), if_neg h]
theorem szRows_l0 (xs : List (List Int)) (hx : xs.length ≤ 1048576) (hr : ∀ i, i < xs.length → rowLen xs i ≤ 9223372036854775807) : ∀ d m (left : Int), m + d = xs.length → 0 ≤ left → left ≤ 1048576 →
    Ev (fun k => laws_szInt64SS.l0 k xs left (m : Int)) (if left < (sumF (rowLen xs) d m : Nat) then -1 else left - (sumF (rowLen xs) d m : Nat)) := by
  intro d
  induction d with
  | zero =>
    intro m left hm h0 h1
    have b1 : ¬ (m : Int) < (xs.length : Int) := by omega
    rw [sumF, if_neg (by omega)]
    exact Ev.step (f := fun _ => some _) (fun k => by rw [laws_szInt64SS.l0, if_neg b1]) (by simpa using Ev.now left)
  | succ d ih =>
    intro m left hm h0 h1
    have b1 : (m : Int) < (xs.length : Int) := by omega
    have b2 : (0 : Int) ≤ (m : Int) := Int.natCast_nonneg m
    have hm9 : m < 1000000000 := by omega
    have e1 : rd_L1 xs (m : Int) = rowAt xs m := by simp [rd_L1, rowAt]
    have hs := szRow_f (rowAt xs m) left h0 h1 (hr m (by omega))
    have el : (rowAt xs m).length = rowLen xs m := rfl
    rw [el] at hs
    rw [sumF]
    by_cases q : left < (rowLen xs m : Int)
    · rw [if_pos q] at hs
      rw [if_pos (by omega)]
      exact Ev.step (f := fun _ => some (-1)) (fun k => by rw [laws_szInt64SS.l0, if_pos b1, if_pos b2, e1, hs]; rfl) (Ev.now _)
    · rw [if_neg q] at hs
      have n0 : ¬ left - (rowLen xs m : Int) < 0 := by omega
      have hi := ih (m + 1) (left - (rowLen xs m : Int)) (by omega) (by omega) (by omega)
      have e : (if left - (rowLen xs m : Int) < (sumF (rowLen xs) d (m + 1) : Nat) then -1 else left - (rowLen xs m : Int) - (sumF (rowLen xs) d (m + 1) : Nat)) = (if left < ((rowLen xs m + sumF (rowLen xs) d (m + 1) : Nat) : Int) then -1 else left - ((rowLen xs m + sumF (rowLen xs) d (m + 1) : Nat) : Int)) := by
        by_cases q2 : left - (rowLen xs m : Int) < (sumF (rowLen xs) d (m + 1) : Nat)
        · rw [if_pos q2, if_pos (by omega)]
        · rw [if_neg q2, if_neg (by omega)]; omega
      rw [e] at hi
      exact Ev.step (fun k => by rw [laws_szInt64SS.l0, if_pos b1, if_pos b2, e1, hs, Option.bind_some, if_neg n0, succW m hm9]) hi
theorem szInt64SS_any (A : Option Addr) (xs : List (List Int)) (n c : Nat) (left : Int) (w : World) (hn : n = xs.length) (hA : RR w A xs) (hnc : n ≤ c) (hl : n ≤ 35184372088832) (h0 : 0 ≤ left) (h1 : left ≤ 1048576) :
    Calls Try.prog 8 #[.slice A n c, .int .i64 left] w fun e w' => e = .returned (.int .i64 (if left < ((xs.length + rowsz0 xs : Nat) : Int) then -1 else left - ((xs.length + rowsz0 xs : Nat) : Int))) ∧ Below w.heap.size w w' := by
  subst hn
  have hr : ∀ i, i < xs.length → rowLen xs i ≤ 9223372036854775807 := fun i hi => by
    obtain ⟨-, -, -, -, -, -, -, -, -, h⟩ := hA i hi
    exact h
  have e : wrap64 (left - (xs.length : Int)) = left - (xs.length : Int) := by unfold wrap64; omega
  have ev : Ev (fun k => laws_szInt64SS.f k xs left) (if left < ((xs.length + rowsz0 xs : Nat) : Int) then -1 else left - ((xs.length + rowsz0 xs : Nat) : Int)) := by
    by_cases q : left - (xs.length : Int) < 0
    · rw [if_pos (by omega)]
      exact Ev.congr (fun k => by rw [laws_szInt64SS.f, e, if_pos q]) (Ev.now _)
    · have h := szRows_l0 xs (by omega) hr xs.length 0 (left - (xs.length : Int)) (by omega) (by omega) (by omega)
      have et : sumF (rowLen xs) xs.length 0 = rowsz0 xs := by
        have := sumF_tot (rowLen xs) xs.length 0
        rw [tot, Nat.zero_add, Nat.zero_add] at this
        exact this
      rw [et] at h
      have e2 : (if left - (xs.length : Int) < (rowsz0 xs : Nat) then -1 else left - (xs.length : Int) - (rowsz0 xs : Nat)) = (if left < ((xs.length + rowsz0 xs : Nat) : Int) then -1 else left - ((xs.length + rowsz0 xs : Nat) : Int)) := by
        by_cases q2 : left - (xs.length : Int) < (rowsz0 xs : Nat)
        · rw [if_pos q2, if_pos (by omega)]
        · rw [if_neg q2, if_neg (by omega)]; omega
      rw [e2] at h
      exact Ev.congr (fun k => by rw [laws_szInt64SS.f, e, if_neg q]; rfl) h
  obtain ⟨k, hk⟩ := ev.rounds
  exact (laws_szInt64SS.calls k A c xs left _ w (C_of_rr hA (by omega)) hnc hk).mono fun e w' ⟨h1, h2⟩ => ⟨h1, h2.below⟩
theorem set_take {α : Type} (l : List α) (z : α) (m d : Nat) (h : m + (d + 1) = l.length) : (l.take m ++ List.replicate (d + 1) z).set m (l[m]'(by omega)) = l.take (m + 1) ++ List.replicate d z := by
  have hl : (l.take m).length = m := by rw [List.length_take]; omega
  rw [List.set_append_right _ _ (by omega), hl, Nat.sub_self, List.replicate_succ, List.set_cons_zero, List.take_succ_eq_append_getElem (by omega), List.append_assoc]
  rfl
theorem toRow_ev (row : List Int) (hr : row.length ≤ 10000000) : Ev (fun k => laws_toInt64S.f k row) row := by
  have go : ∀ d m, m + d = row.length → Ev (fun k => laws_toInt64S.l0 k row (row.take m ++ List.replicate d 0) (m : Int)) row := by
    intro d
    induction d with
    | zero =>
      intro m hm
      have b1 : ¬ (m : Int) < (row.length : Int) := by omega
      refine Ev.step (f := fun _ => some row) (fun k => ?_) (Ev.now _)
      rw [laws_toInt64S.l0, if_neg b1, List.take_of_length_le (by omega)]; simp
    | succ d ih =>
      intro m hm
      have hlt : m < row.length := by omega
      have b1 : (m : Int) < (row.length : Int) := by omega
      have b2 : (0 : Int) ≤ (m : Int) := Int.natCast_nonneg m
      have b3 : (m : Int) < ((row.take m ++ List.replicate (d + 1) (0 : Int)).length : Int) := by rw [List.length_append, List.length_take, List.length_replicate]; omega
      have hm9 : m < 1000000000 := by omega
      have e1 : rd row (m : Int) = row[m] := by simp [rd, List.getD, List.getElem?_eq_getElem hlt]
      refine Ev.step (fun k => ?_) (ih (m + 1) (by omega))
      rw [laws_toInt64S.l0, if_pos b1, if_pos b2, if_pos b3, e1, Int.toNat_natCast, set_take row 0 m d hm, succW m hm9]
  have h := go row.length 0 (by omega)
  rw [List.take_zero, List.nil_append] at h
  exact Ev.congr (fun k => by rw [laws_toInt64S.f, if_pos (by omega), Int.toNat_natCast, if_pos (by omega)]; rfl) h
theorem toRows_ev (xs : List (List Int)) (hx : xs.length ≤ 10000000) (hr : ∀ r ∈ xs, r.length ≤ 10000000) : Ev (fun k => laws_toInt64SS.f k xs) xs := by
  have go : ∀ d m, m + d = xs.length → Ev (fun k => laws_toInt64SS.l0 k xs (xs.take m ++ List.replicate d []) (m : Int)) xs := by
    intro d
    induction d with
    | zero =>
      intro m hm
      have b1 : ¬ (m : Int) < (xs.length : Int) := by omega
      refine Ev.step (f := fun _ => some xs) (fun k => ?_) (Ev.now _)
      rw [laws_toInt64SS.l0, if_neg b1, List.take_of_length_le (by omega)]; simp
    | succ d ih =>
      intro m hm
      have hlt : m < xs.length := by omega
      have b1 : (m : Int) < (xs.length : Int) := by omega
      have b2 : (0 : Int) ≤ (m : Int) := Int.natCast_nonneg m
      have b3 : (m : Int) < ((xs.take m ++ List.replicate (d + 1) ([] : List Int)).length : Int) := by rw [List.length_append, List.length_take, List.length_replicate]; omega
      have hm9 : m < 1000000000 := by omega
      have e1 : rd_L1 xs (m : Int) = xs[m] := by simp [rd_L1, List.getD, List.getElem?_eq_getElem hlt]
      refine Ev.step (f := fun k => (laws_toInt64S.f k xs[m]).bind fun t => if (m : Int) < ((xs.take m ++ List.replicate (d + 1) ([] : List Int)).length : Int) then laws_toInt64SS.l0 k xs ((xs.take m ++ List.replicate (d + 1) ([] : List Int)).set (m : Int).toNat t) (wrap64 ((m : Int) + 1)) else none) (fun k => ?_) (Ev.bind (toRow_ev xs[m] (hr _ (List.getElem_mem hlt))) (Ev.congr (fun k => ?_) (ih (m + 1) (by omega))))
      · rw [laws_toInt64SS.l0, if_pos b1, if_pos b2, e1]
      · rw [if_pos b3, Int.toNat_natCast, set_take xs [] m d hm, succW m hm9]
  have h := go xs.length 0 (by omega)
  rw [List.take_zero, List.nil_append] at h
  exact Ev.congr (fun k => by rw [laws_toInt64SS.f, if_pos (by omega), Int.toNat_natCast, if_pos (by omega)]; rfl) h
theorem rows_lens {xs : List (List Int)} {b : Nat} (h : rowsz0 xs ≤ b) : ∀ r ∈ xs, r.length ≤ b := by
  intro r hr
  obtain ⟨i, hi, e⟩ := List.mem_iff_getElem.1 hr
  have := rowsz0_row hi
  rw [rowLen, rowAt_at hi, e] at this
  omega
theorem toInt64SS_any (A : Option Addr) (xs : List (List Int)) (n c : Nat) (w : World) (hn : n = xs.length) (hA : RR w A xs) (hnc : n ≤ c) (hl : xs.length ≤ 10000000 ∧ rowsz0 xs ≤ 10000000) :
    Calls Try.prog 11 #[.slice A n c] w fun e w' => ∃ v, e = .returned v ∧ OWS w' w.heap.size w'.heap.size v xs (fun i => icells (rowAt xs i)) ∧ Below w.heap.size w w' := by
  subst hn
  obtain ⟨k, hk⟩ := (toRows_ev xs hl.1 (rows_lens hl.2)).rounds
  exact (laws_toInt64SS.calls k A c xs _ w (C_of_rr hA (by omega)) hnc hk).mono fun e w' ⟨v, he, hR, hB⟩ => ⟨v, he, ows_of_S hR, hB⟩
end Go.Proofs.Ytgdmflmglkakgaa
namespace Go.Proofs.Ytgdmflmglkakgaa
open Go Go.RowKit Go.Proofs Go.Proofs.YtgdmflmglkakgaaW.PrintWords Go.Proofs.YtgdmflmglkakgaaW.PrintMore Go.Proofs.Ytgdmflmglkakgaa.Q
set_option linter.unusedVariables false
set_option linter.unusedSimpArgs false
theorem specFill_ev (C : Int) (l : List STile) (xs : List (List Int)) (hl : l.length ≤ 35184372088832) (hx : xs.length ≤ 10000000) (hr : ∀ r ∈ xs, r.length ≤ 10000000) : Ev (fun k => spec_IsFilling.f k C l xs) (fillR C (l.map toT) xs) := by
  have hin : inLim l.length = true := by simpa [inLim] using hl
  refine Ev.congr (f := fun k => (spec_l01Rows.f k C l xs).bind fun t => if t = 0 then (spec_l01Good.f C l xs).bind fun u => some (u, 0) else some (false, t)) (fun k => by rw [spec_IsFilling.f]) ?_
  refine Ev.bind (specRows_ev C l xs hl hx hr) ?_
  unfold fillR
  rw [List.length_map, map_toST]
  cases isS C (l.map toT)
  · exact Ev.now _
  · cases hb : tabB l.length xs
    · exact Ev.now _
    · refine Ev.congr (fun k => ?_) (Ev.now _)
      rw [if_pos rfl, if_pos rfl, if_pos rfl, spec_l01Good.f, hin, hb]; rfl
theorem specIsFilling_any (C : Int) (A : Option Addr) (ts : List T4) (n c : Nat) (A' : Option Addr) (xs : List (List Int)) (n' c' : Nat) (w : World) (hn : n = ts.length) (hA : RT w A ts) (hnc : n ≤ c) (hl : n ≤ 35184372088832) (hn' : n' = xs.length) (hA' : RR w A' xs) (hnc' : n' ≤ c') (hl' : n' ≤ 10000000 ∧ rowsz0 xs ≤ 10000000) :
    Calls Try.prog 9 #[.agg #[.int .i64 C, .slice A n c], .slice A' n' c'] w fun e w' => e = .returned (pairV (fillR C ts xs)) ∧ Below w.heap.size w w' := by
  subst hn hn'
  obtain ⟨k, hk⟩ := (specFill_ev C (ts.map toS) xs (by simpa using hl) hl'.1 (rows_lens hl'.2)).rounds
  rw [map_toTS] at hk
  have h := spec_IsFilling.calls k C A c (ts.map toS) A' c' xs _ _ w (C_of_rt hA (by omega)) (by simpa using hnc) (C_of_rr hA' (by omega)) hnc' hk
  rw [List.length_map] at h
  exact h.mono fun e w' ⟨he, hB⟩ => ⟨he, hB⟩
theorem implIsFilling_any (C : Int) (A : Option Addr) (ts : List T4) (n c : Nat) (A' : Option Addr) (xs : List (List Int)) (n' c' : Nat) (w : World) (hn : n = ts.length) (hA : RT w A ts) (hnc : n ≤ c) (hl : n ≤ 35184372088832) (hn' : n' = xs.length) (hA' : RR w A' xs) (hnc' : n' ≤ c') (hl' : n' ≤ 10000000 ∧ rowsz0 xs ≤ 10000000) :
    Calls Try.prog 12 #[.agg #[.int .i64 C, .slice A n c], .slice A' n' c'] w fun e w' => e = .returned (pairV (fillR C ts xs)) ∧ Below w.heap.size w w' := by
  subst hn hn'
  obtain ⟨k, hk⟩ := (implFill_ev C (ts.map toS) xs (by simpa using hl) hl'.1 (rows_lens hl'.2)).rounds
  rw [map_toTS] at hk
  have h := impl_IsFilling.calls k C A c (ts.map toS) A' c' xs _ _ w (C_of_rt hA (by omega)) (by simpa using hnc) (C_of_rr hA' (by omega)) hnc' hk
  rw [List.length_map] at h
  exact h.mono fun e w' ⟨he, hB⟩ => ⟨he, hB⟩
set_option maxHeartbeats 16000000 in
set_option maxRecDepth 100000 in
theorem lawIsFilling_any (w : World) (C0 : Int) (A0 : Option Addr) (ts0 : List T4) (n0 c0 : Nat) (hn0 : n0 = ts0.length) (hA0 : RT w A0 ts0) (hnc0 : n0 ≤ c0) (hl0 : n0 ≤ 35184372088832) (hC0 : -9223372036854775808 ≤ C0 ∧ C0 ≤ 9223372036854775807) (A1 : Option Addr) (ts1 : List (List Int)) (n1 c1 : Nat) (hn1 : n1 = ts1.length) (hA1 : RR w A1 ts1) (hnc1 : n1 ≤ c1) (hl1 : n1 ≤ 35184372088832) :
    Calls Try.prog 3 #[.agg #[.int .i64 C0, .slice A0 n0 c0], .slice A1 n1 c1] w fun e w' => e = .returned (.bool true) ∧ Below w.heap.size w w' := by
  subst hn0
  have HA0 := Lib.hid hA0; clear hA0
  subst hn1
  have HA1 := Lib.hid hA1; clear hA1
  by_cases hbig0 : (1048576 : Int) < ((ts0.length : Nat) : Int)
  · go_enter Try.func3, Try.ntmps3
    go_wp2_with fail
    refine namec1 ?_
    intro w1 b0 hz hB
    have tw1 : w.heap.size + 1 ≤ w1.heap.size := by omega
    clear hz
    have sw1 : w.heap.size ≤ w1.heap.size := hB.size
    have hE := Lib.hid (hB)
    clear hB
    refine (szSet_any C0 A0 ts0.length c0 (1048576) w1 (by omega) (by omega) (by omega)).mono ?_
    rintro e w2 ⟨rfl, hB⟩
    rw [if_pos (show (1048576 : Int) < (ts0.length : Nat) by omega)]
    replace b0 := b0.below hB b0.lt
    have sw2 : w1.heap.size ≤ w2.heap.size := hB.size
    replace hE := Lib.hid (below_to hE.out hB)
    clear hB
    go_wp2_with fail
    go_ret
    exact ⟨rfl, hE.out⟩
  · replace hbig0 : ((ts0.length : Nat) : Int) ≤ 1048576 := by omega
    by_cases hbig1 : ((1048576 - ((ts0.length : Nat) : Int)) : Int) < (((ts1.length + rowsz0 ts1) : Nat) : Int)
    · go_enter Try.func3, Try.ntmps3
      go_wp2_with fail
      refine namec1 ?_
      intro w1 b0 hz hB
      have tw1 : w.heap.size + 1 ≤ w1.heap.size := by omega
      clear hz
      have sw1 : w.heap.size ≤ w1.heap.size := hB.size
      have hE := Lib.hid (hB)
      clear hB
      refine (szSet_any C0 A0 ts0.length c0 (1048576) w1 (by omega) (by omega) (by omega)).mono ?_
      rintro e w2 ⟨rfl, hB⟩
      rw [if_neg (show ¬ (1048576 : Int) < (ts0.length : Nat) by omega)]
      replace b0 := b0.below hB b0.lt
      have sw2 : w1.heap.size ≤ w2.heap.size := hB.size
      replace hE := Lib.hid (below_to hE.out hB)
      clear hB
      have l0 := b0.lt
      have c0_0 : w2.cell? ⟨w.heap.size, 0, none⟩ = some (.int .i64 C0) := b0.cell rfl
      have c0_1 : w2.cell? ⟨w.heap.size, 1, none⟩ = some (.slice A0 ts0.length c0) := b0.cell rfl
      go_wp2_with fail
      clear l0 c0_0 c0_1
      refine (szInt64SS_any A1 ts1 ts1.length c1 ((1048576 - ((ts0.length : Nat) : Int))) w2 rfl (HA1.out.below hE.out) hnc1 (by omega) (by omega) (by omega)).mono ?_
      rintro e w3 ⟨rfl, hB⟩
      rw [if_pos (show ((1048576 - ((ts0.length : Nat) : Int)) : Int) < ((ts1.length + rowsz0 ts1) : Nat) by omega)]
      replace b0 := b0.below hB b0.lt
      have sw3 : w2.heap.size ≤ w3.heap.size := hB.size
      replace hE := Lib.hid (below_to hE.out hB)
      clear hB
      go_wp2_with fail
      go_ret
      exact ⟨rfl, hE.out⟩
    · replace hbig1 : (((ts1.length + rowsz0 ts1) : Nat) : Int) ≤ (1048576 - ((ts0.length : Nat) : Int)) := by omega
      obtain ⟨r_, hr_⟩ : ∃ r, fillR C0 ts0 ts1 = r := ⟨_, rfl⟩
      obtain ⟨r1, r2⟩ := r_
      have HR := Lib.hid hr_; clear hr_
      go_enter Try.func3, Try.ntmps3
      go_wp2_with fail
      refine namec1 ?_
      intro w1 b0 hz hB
      have tw1 : w.heap.size + 1 ≤ w1.heap.size := by omega
      clear hz
      have sw1 : w.heap.size ≤ w1.heap.size := hB.size
      have hE := Lib.hid (hB)
      clear hB
      refine (szSet_any C0 A0 ts0.length c0 (1048576) w1 (by omega) (by omega) (by omega)).mono ?_
      rintro e w2 ⟨rfl, hB⟩
      rw [if_neg (show ¬ (1048576 : Int) < (ts0.length : Nat) by omega)]
      replace b0 := b0.below hB b0.lt
      have sw2 : w1.heap.size ≤ w2.heap.size := hB.size
      replace hE := Lib.hid (below_to hE.out hB)
      clear hB
      have l0 := b0.lt
      have c0_0 : w2.cell? ⟨w.heap.size, 0, none⟩ = some (.int .i64 C0) := b0.cell rfl
      have c0_1 : w2.cell? ⟨w.heap.size, 1, none⟩ = some (.slice A0 ts0.length c0) := b0.cell rfl
      go_wp2_with fail
      clear l0 c0_0 c0_1
      refine (szInt64SS_any A1 ts1 ts1.length c1 ((1048576 - ((ts0.length : Nat) : Int))) w2 rfl (HA1.out.below hE.out) hnc1 (by omega) (by omega) (by omega)).mono ?_
      rintro e w3 ⟨rfl, hB⟩
      rw [if_neg (show ¬ ((1048576 - ((ts0.length : Nat) : Int)) : Int) < ((ts1.length + rowsz0 ts1) : Nat) by omega)]
      replace b0 := b0.below hB b0.lt
      have sw3 : w2.heap.size ≤ w3.heap.size := hB.size
      replace hE := Lib.hid (below_to hE.out hB)
      clear hB
      have l0 := b0.lt
      have c0_0 : w3.cell? ⟨w.heap.size, 0, none⟩ = some (.int .i64 C0) := b0.cell rfl
      have c0_1 : w3.cell? ⟨w.heap.size, 1, none⟩ = some (.slice A0 ts0.length c0) := b0.cell rfl
      go_wp2_with fail
      clear l0 c0_0 c0_1
      refine (toSet_any C0 A0 ts0 ts0.length c0 w3 rfl (HA0.out.below hE.out) (by omega)).mono ?_
      rintro e w4 ⟨v_, rfl, hO, hB⟩
      obtain ⟨A1_, c1_, rfl, -, -⟩ := hO.reads
      have O1 := Lib.hid (OW.of hO)
      clear hO
      replace b0 := b0.below hB b0.lt
      have sw4 : w3.heap.size ≤ w4.heap.size := hB.size
      replace hE := Lib.hid (below_to hE.out hB)
      clear hB
      have l0 := b0.lt
      have c0_0 : w4.cell? ⟨w.heap.size, 0, none⟩ = some (.int .i64 C0) := b0.cell rfl
      have c0_1 : w4.cell? ⟨w.heap.size, 1, none⟩ = some (.slice A0 ts0.length c0) := b0.cell rfl
      go_wp2_with fail
      clear l0 c0_0 c0_1
      refine (toInt64SS_any A1 ts1 ts1.length c1 w4 rfl (HA1.out.below hE.out) hnc1 (by omega)).mono ?_
      rintro e w5 ⟨v_, rfl, hO, hB⟩
      obtain ⟨A2_, c2_, rfl⟩ := hO.form0
      have O2 := Lib.hid hO
      clear hO
      replace b0 := b0.below hB b0.lt
      replace O1 := Lib.hid (O1.out.to hB)
      have sw5 : w4.heap.size ≤ w5.heap.size := hB.size
      replace hE := Lib.hid (below_to hE.out hB)
      clear hB
      have l0 := b0.lt
      have c0_0 : w5.cell? ⟨w.heap.size, 0, none⟩ = some (.int .i64 C0) := b0.cell rfl
      have c0_1 : w5.cell? ⟨w.heap.size, 1, none⟩ = some (.slice A0 ts0.length c0) := b0.cell rfl
      go_wp2_with fail
      clear l0 c0_0 c0_1
      refine (specIsFilling_any C0 A1_ ts0 ts0.length c1_ A2_ ts1 ts1.length c2_ w5 rfl (rt_of O1.out rfl) (le_of O1.out) (by omega) rfl (rr_of O2.out rfl) (le_ofS O2.out) (by omega)).mono ?_
      rintro e w6 ⟨rfl, hB⟩
      rw [HR.out]
      simp only [pairV]
      replace b0 := b0.below hB b0.lt
      replace O1 := Lib.hid (O1.out.to hB)
      replace O2 := Lib.hid (O2.out.to hB)
      have sw6 : w5.heap.size ≤ w6.heap.size := hB.size
      replace hE := Lib.hid (below_to hE.out hB)
      clear hB
      have l0 := b0.lt
      have c0_0 : w6.cell? ⟨w.heap.size, 0, none⟩ = some (.int .i64 C0) := b0.cell rfl
      have c0_1 : w6.cell? ⟨w.heap.size, 1, none⟩ = some (.slice A0 ts0.length c0) := b0.cell rfl
      go_wp2_with fail
      clear l0 c0_0 c0_1
      refine (toSet_any C0 A0 ts0 ts0.length c0 w6 rfl (HA0.out.below hE.out) (by omega)).mono ?_
      rintro e w7 ⟨v_, rfl, hO, hB⟩
      obtain ⟨A3_, c3_, rfl, -, -⟩ := hO.reads
      have O3 := Lib.hid (OW.of hO)
      clear hO
      replace b0 := b0.below hB b0.lt
      replace O1 := Lib.hid (O1.out.to hB)
      replace O2 := Lib.hid (O2.out.to hB)
      have sw7 : w6.heap.size ≤ w7.heap.size := hB.size
      replace hE := Lib.hid (below_to hE.out hB)
      clear hB
      have l0 := b0.lt
      have c0_0 : w7.cell? ⟨w.heap.size, 0, none⟩ = some (.int .i64 C0) := b0.cell rfl
      have c0_1 : w7.cell? ⟨w.heap.size, 1, none⟩ = some (.slice A0 ts0.length c0) := b0.cell rfl
      go_wp2_with fail
      clear l0 c0_0 c0_1
      refine namec1 ?_
      intro w8 b1 hz hB
      have tw8 : w7.heap.size + 1 ≤ w8.heap.size := by omega
      clear hz
      replace b0 := b0.below hB b0.lt
      replace O1 := Lib.hid (O1.out.to hB)
      replace O2 := Lib.hid (O2.out.to hB)
      replace O3 := Lib.hid (O3.out.to hB)
      have sw8 : w7.heap.size ≤ w8.heap.size := hB.size
      replace hE := Lib.hid (below_to hE.out hB)
      clear hB
      refine (toInt64SS_any A1 ts1 ts1.length c1 w8 rfl (HA1.out.below hE.out) hnc1 (by omega)).mono ?_
      rintro e w9 ⟨v_, rfl, hO, hB⟩
      obtain ⟨A4_, c4_, rfl⟩ := hO.form0
      have O4 := Lib.hid hO
      clear hO
      replace b0 := b0.below hB b0.lt
      replace b1 := b1.below hB b1.lt
      replace O1 := Lib.hid (O1.out.to hB)
      replace O2 := Lib.hid (O2.out.to hB)
      replace O3 := Lib.hid (O3.out.to hB)
      have sw9 : w8.heap.size ≤ w9.heap.size := hB.size
      replace hE := Lib.hid (below_to hE.out hB)
      clear hB
      have l0 := b0.lt
      have c0_0 : w9.cell? ⟨w.heap.size, 0, none⟩ = some (.int .i64 C0) := b0.cell rfl
      have c0_1 : w9.cell? ⟨w.heap.size, 1, none⟩ = some (.slice A0 ts0.length c0) := b0.cell rfl
      have l1 := b1.lt
      have c1_0 : w9.cell? ⟨w7.heap.size, 0, none⟩ = some (.int .i64 C0) := b1.cell rfl
      have c1_1 : w9.cell? ⟨w7.heap.size, 1, none⟩ = some (.slice A3_ ts0.length c3_) := b1.cell rfl
      go_wp2_with fail
      clear l0 c0_0 c0_1 l1 c1_0 c1_1
      refine (implIsFilling_any C0 A3_ ts0 ts0.length c3_ A4_ ts1 ts1.length c4_ w9 rfl (rt_of O3.out rfl) (le_of O3.out) (by omega) rfl (rr_of O4.out rfl) (le_ofS O4.out) (by omega)).mono ?_
      rintro e w10 ⟨rfl, hB⟩
      rw [HR.out]
      simp only [pairV]
      replace b0 := b0.below hB b0.lt
      replace b1 := b1.below hB b1.lt
      replace O1 := Lib.hid (O1.out.to hB)
      replace O2 := Lib.hid (O2.out.to hB)
      replace O3 := Lib.hid (O3.out.to hB)
      replace O4 := Lib.hid (O4.out.to hB)
      have sw10 : w9.heap.size ≤ w10.heap.size := hB.size
      replace hE := Lib.hid (below_to hE.out hB)
      clear hB
      have l0 := b0.lt
      have c0_0 : w10.cell? ⟨w.heap.size, 0, none⟩ = some (.int .i64 C0) := b0.cell rfl
      have c0_1 : w10.cell? ⟨w.heap.size, 1, none⟩ = some (.slice A0 ts0.length c0) := b0.cell rfl
      have l1 := b1.lt
      have c1_0 : w10.cell? ⟨w7.heap.size, 0, none⟩ = some (.int .i64 C0) := b1.cell rfl
      have c1_1 : w10.cell? ⟨w7.heap.size, 1, none⟩ = some (.slice A3_ ts0.length c3_) := b1.cell rfl
      go_wp2_with fail
      clear l0 c0_0 c0_1 l1 c1_0 c1_1
      have hD : Below w10.heap.size w10 w10.drew := (Below.refl _ _).drew
      replace b0 := b0.below hD b0.lt
      replace b1 := b1.below hD b1.lt
      replace O1 := Lib.hid (O1.out.to hD)
      replace O2 := Lib.hid (O2.out.to hD)
      replace O3 := Lib.hid (O3.out.to hD)
      replace O4 := Lib.hid (O4.out.to hD)
      replace hE := Lib.hid (below_to hE.out hD)
      clear hD
      have d1_w10 : w10.heap.size ≤ w10.drew.heap.size := Nat.le_refl _
      have d2_w10 : w10.drew.heap.size ≤ w10.heap.size := Nat.le_refl _
      go_region_held3 (fun w_ => w_.cell? ⟨w.heap.size, 0, none⟩ = some (.int .i64 C0) ∧ w_.cell? ⟨w.heap.size, 1, none⟩ = some (.slice A0 ts0.length c0) ∧ w_.cell? ⟨w7.heap.size, 0, none⟩ = some (.int .i64 C0) ∧ w_.cell? ⟨w7.heap.size, 1, none⟩ = some (.slice A3_ ts0.length c3_)) (first | exact ⟨b0.cell rfl, b0.cell rfl, b1.cell rfl, b1.cell rfl⟩)
        (first
          | (go_at_call 10; refine (toSet_any C0 A0 ts0 ts0.length c0 w10.drew rfl (HA0.out.below hE.out) (by omega)).mono ?_; rintro e w11 ⟨v_, rfl, hO, hB⟩; obtain ⟨A5_, c5_, rfl, -, -⟩ := hO.reads; have O5 := Lib.hid (OW.of hO); clear hO; replace b0 := b0.below hB b0.lt; replace b1 := b1.below hB b1.lt; replace O1 := Lib.hid (O1.out.to hB); replace O2 := Lib.hid (O2.out.to hB); replace O3 := Lib.hid (O3.out.to hB); replace O4 := Lib.hid (O4.out.to hB); have sw11 : w10.drew.heap.size ≤ w11.heap.size := hB.size; replace hE := Lib.hid (below_to hE.out hB); clear hB)
          | (go_at_call 13; refine (eqSet_any C0 C0 A3_ A5_ ts0 ts0 ts0.length ts0.length c3_ c5_ w11 rfl rfl (rt_of O3.out rfl) (rt_of O5.out rfl) (by omega) (by omega)).mono ?_; rintro e w12 ⟨rfl, hB⟩; simp only [decide_true, Bool.and_self]; replace b0 := b0.below hB b0.lt; replace b1 := b1.below hB b1.lt; replace O1 := Lib.hid (O1.out.to hB); replace O2 := Lib.hid (O2.out.to hB); replace O3 := Lib.hid (O3.out.to hB); replace O4 := Lib.hid (O4.out.to hB); replace O5 := Lib.hid (O5.out.to hB); have sw12 : w11.heap.size ≤ w12.heap.size := hB.size; replace hE := Lib.hid (below_to hE.out hB); clear hB))
      have l0 := b0.lt
      have c0_0 : w12.cell? ⟨w.heap.size, 0, none⟩ = some (.int .i64 C0) := b0.cell rfl
      have c0_1 : w12.cell? ⟨w.heap.size, 1, none⟩ = some (.slice A0 ts0.length c0) := b0.cell rfl
      have l1 := b1.lt
      have c1_0 : w12.cell? ⟨w7.heap.size, 0, none⟩ = some (.int .i64 C0) := b1.cell rfl
      have c1_1 : w12.cell? ⟨w7.heap.size, 1, none⟩ = some (.slice A3_ ts0.length c3_) := b1.cell rfl
      go_wp2_with fail
      clear l0 c0_0 c0_1 l1 c1_0 c1_1
      refine (toInt64SS_any A1 ts1 ts1.length c1 w12 rfl (HA1.out.below hE.out) hnc1 (by omega)).mono ?_
      rintro e w13 ⟨v_, rfl, hO, hB⟩
      obtain ⟨A6_, c6_, rfl⟩ := hO.form0
      have O6 := Lib.hid hO
      clear hO
      replace b0 := b0.below hB b0.lt
      replace b1 := b1.below hB b1.lt
      replace O1 := Lib.hid (O1.out.to hB)
      replace O2 := Lib.hid (O2.out.to hB)
      replace O3 := Lib.hid (O3.out.to hB)
      replace O4 := Lib.hid (O4.out.to hB)
      replace O5 := Lib.hid (O5.out.to hB)
      have sw13 : w12.heap.size ≤ w13.heap.size := hB.size
      replace hE := Lib.hid (below_to hE.out hB)
      clear hB
      have l0 := b0.lt
      have c0_0 : w13.cell? ⟨w.heap.size, 0, none⟩ = some (.int .i64 C0) := b0.cell rfl
      have c0_1 : w13.cell? ⟨w.heap.size, 1, none⟩ = some (.slice A0 ts0.length c0) := b0.cell rfl
      have l1 := b1.lt
      have c1_0 : w13.cell? ⟨w7.heap.size, 0, none⟩ = some (.int .i64 C0) := b1.cell rfl
      have c1_1 : w13.cell? ⟨w7.heap.size, 1, none⟩ = some (.slice A3_ ts0.length c3_) := b1.cell rfl
      go_wp2_with fail
      clear l0 c0_0 c0_1 l1 c1_0 c1_1
      refine (eqInt64SS_any A4_ A6_ ts1 ts1 ts1.length ts1.length c4_ c6_ w13 rfl rfl (rr_of O4.out rfl) (rr_of O6.out rfl) (by omega) (by omega)).mono ?_
      rintro e w14 ⟨rfl, hB⟩
      simp only [decide_true, Bool.and_self]
      replace b0 := b0.below hB b0.lt
      replace b1 := b1.below hB b1.lt
      replace O1 := Lib.hid (O1.out.to hB)
      replace O2 := Lib.hid (O2.out.to hB)
      replace O3 := Lib.hid (O3.out.to hB)
      replace O4 := Lib.hid (O4.out.to hB)
      replace O5 := Lib.hid (O5.out.to hB)
      replace O6 := Lib.hid (O6.out.to hB)
      have sw14 : w13.heap.size ≤ w14.heap.size := hB.size
      replace hE := Lib.hid (below_to hE.out hB)
      clear hB
      go_wp2_with fail
      go_ret
      exact ⟨rfl, hE.out⟩
end Go.Proofs.Ytgdmflmglkakgaa
namespace Go.Proofs.Ytgdmflmglkakgaa
open Go Go.RowKit Go.Proofs
open Go.ChangeShapes Go.WideShapes Go.ChangeAt Go.Deep
set_option linter.unusedVariables false
set_option linter.unusedSimpArgs false
section
variable {H : Type} {enc : TypeId × Value → H} {P : Program} {w : World} {base : Nat} {held : Bool} {spare : Nat → Bool}
theorem open_tile {e i : TypeId} {fuel : Nat} {cs : List Value} {x : DataW H × List MemPlace} (he : P.underlying e = some (.array 4 i)) (hi : P.underlying i = some (.int .i64)) (ce : P.cellsOf e = 4) (ci : P.cellsOf i = 1)
    (h : DataW.trod enc P w base spare held fuel e cs = some x) : ∃ t : T4, cs = t.arr.toList := by
  cases fuel with
  | zero => simp [DataW.trod] at h
  | succ fuel =>
    simp only [DataW.trod, he] at h
    split at h
    · rename_i hl
      rw [ce] at hl
      obtain ⟨ys, hys, -⟩ := Option.map_eq_some_iff.1 h
      have each : ∀ j, j < 4 → ∃ n, cs[j]? = some (.int .i64 n) := by
        intro j hj
        have hg := mapM_some_get hys j j (by simp [hj])
        simp only [ci, Nat.mul_one] at hg
        have hlen : ys.length = 4 := by simpa using mapM_some_length hys
        rw [List.getElem?_eq_getElem (show j < ys.length by omega)] at hg
        have hd : (cs.drop j).take 1 = [cs[j]'(by omega)] := by
          rw [List.drop_eq_getElem_cons (by omega), List.take_succ_cons, List.take_zero]
        rw [hd] at hg
        obtain ⟨n, hn, -, -⟩ := DataW.trod_int hi hg
        exact ⟨n, by rw [List.getElem?_eq_getElem (by omega)]; simpa using hn⟩
      obtain ⟨a, ha⟩ := each 0 (by omega); obtain ⟨b, hb⟩ := each 1 (by omega); obtain ⟨c, hc⟩ := each 2 (by omega); obtain ⟨d, hd⟩ := each 3 (by omega)
      refine ⟨⟨a, b, c, d⟩, ?_⟩
      match cs, hl, ha, hb, hc, hd with
      | [v0, v1, v2, v3], _, ha, hb, hc, hd =>
        simp at ha hb hc hd
        subst ha hb hc hd
        rfl
    · cases h
theorem addr_plain {w : World} {a : Addr} {v : Value} (h : w.cell? a = some v) : a = ⟨a.block, a.off, none⟩ := by
  obtain ⟨b, o, s⟩ := a
  cases s with
  | none => rfl
  | some s =>
    simp only [World.cell?] at h
    split at h
    · simp at h
    · cases h
theorem add_plain (b o n : Nat) : (⟨b, o, none⟩ : Addr).add n = ⟨b, o + n, none⟩ := by unfold Addr.add; split <;> simp_all
theorem open_tiles {t e i : TypeId} {fuel : Nat} {cs : List Value} {x : DataW H × List MemPlace} (ht : P.underlying t = some (.slice e)) (he : P.underlying e = some (.array 4 i)) (hi : P.underlying i = some (.int .i64)) (ce : P.cellsOf e = 4) (ci : P.cellsOf i = 1)
    (h : DataW.trod enc P w base (fun _ => true) held fuel t cs = some x) :
    ∃ A n c ts, cs = [.slice A n c] ∧ n = ts.length ∧ RT w A ts ∧ n ≤ c ∧ (n = 0 ∨ ∃ el sp, x.1 = .slice el sp ∧ n ≤ el.length + sp.length) := by
  rcases open_slice ht h with ⟨rfl, rfl⟩ | ⟨a, len, cap, m, n, D, Pl, rfl, hb, hl, hm, hmm, rfl, hx⟩
  · exact ⟨none, 0, 0, [], rfl, rfl, fun k hk => by simp at hk, Nat.le_refl _, .inl rfl⟩
  · simp only [if_true] at hmm
    subst hmm
    have each : ∀ k, k < len → ∃ t : T4, a = ⟨a.block, a.off, none⟩ ∧ a.block < w.heap.size ∧ ∀ j, j < 4 → w.cell? ⟨a.block, a.off + k * 4 + j, none⟩ = some (.int .i64 (t.get j)) := by
      intro k hk
      obtain ⟨cs', hc, htr⟩ := hx k (by omega)
      rw [ce] at hc
      obtain ⟨t, rfl⟩ := open_tile he hi ce ci htr
      obtain ⟨-, -, hcell⟩ := World.cells?_some hc
      have hg (j : Nat) (hj : j < 4) : w.cell? ((a.add (k * 4)).add j) = some (.int .i64 (t.get j)) := by
        rw [hcell j hj, Array.getElem?_toList]; exact t.cell j hj
      have ha : a = ⟨a.block, a.off, none⟩ := by
        obtain ⟨cs0, hc0, htr0⟩ := hx 0 (by omega)
        obtain ⟨t0, rfl⟩ := open_tile he hi ce ci htr0
        rw [ce] at hc0
        obtain ⟨-, -, hcell0⟩ := World.cells?_some hc0
        have := hcell0 0 (by omega)
        rw [Array.getElem?_toList, t0.cell 0 (by omega)] at this
        have he : (a.add (0 * 4)).add 0 = a := by simp [Addr.add]
        rw [he] at this
        exact addr_plain this
      refine ⟨t, ha, ?_, fun j hj => ?_⟩
      · have := World.block_lt_of_cell? w _ (hg 0 (by omega))
        rw [ha, add_plain, add_plain] at this
        exact this
      · have := hg j hj
        rw [ha, add_plain, add_plain] at this
        exact this
    obtain ⟨f, hf⟩ := choose_lt each
    refine ⟨some a, len, m, (List.range len).map f, rfl, by simp, fun k hk => ?_, hl, .inr ⟨_, _, rfl, by simp⟩⟩
    have hk' : k < len := by simpa using hk
    obtain ⟨ha, hlt, hc⟩ := hf k hk'
    have htk : tk ((List.range len).map f) k = f k := by simp [tk, hk']
    rw [htk]
    exact ⟨a.block, a.off, by rw [← ha], hlt, hc 0 (by omega), hc 1 (by omega), hc 2 (by omega), hc 3 (by omega)⟩
theorem open_set {r : Reach} {b0 : Nat} {t i : TypeId} {u e : TypeId} {f0 f1 : Field} {v : Value} {d : DataW H} {ps : List MemPlace} (ht : P.underlying t = some (.struct #[f0, f1])) (o0 : f0.offset = 0) (o1 : f1.offset = 1) (t0 : f0.type = i) (t1 : f1.type = u)
    (hu : P.underlying u = some (.slice e)) (he : P.underlying e = some (.array 4 i)) (hi : P.underlying i = some (.int .i64)) (ct : P.cellsOf t = 2) (cu : P.cellsOf u = 1) (ce : P.cellsOf e = 4) (ci : P.cellsOf i = 1) (hby : P.bytesOf e = 32)
    (hval : Value.okWide P w r b0 t v) (h : DataW.Trod enc P w base (fun _ => true) held t v d ps) {ts0 : List TypeId} {ds0 : List (DataW H)} {j : Nat} (hj : ts0[j]? = some t) (hd : ds0[j]? = some d)
    (hsz : (DataW.weightsEach P ts0 ds0).all (· ≤ reachBytes) = true) :
    ∃ C A n c ts, v = .agg #[.int .i64 C, .slice A n c] ∧ n = ts.length ∧ RT w A ts ∧ n ≤ c ∧ n ≤ 35184372088832 ∧ (Lit.int .i64 C).wf = true := by
  unfold Value.okWide at hval
  rw [ht] at hval
  obtain ⟨cells, rfl, hsize, -⟩ := hval
  rw [ct] at hsize
  obtain ⟨fuel, hf⟩ := h
  cases fuel with
  | zero => simp [DataW.trod] at hf
  | succ fuel =>
    simp only [Value.cells] at hf
    simp only [DataW.trod, ht] at hf
    split at hf
    · rename_i hl
      obtain ⟨ys, hys, hd'⟩ := Option.map_eq_some_iff.1 hf
      obtain ⟨x0, hx0⟩ : ∃ x0, ys[0]? = some x0 := ⟨_, List.getElem?_eq_getElem (by have := mapM_some_length hys; simp at this; omega)⟩
      obtain ⟨x1, hx1⟩ : ∃ x1, ys[1]? = some x1 := ⟨_, List.getElem?_eq_getElem (by have := mapM_some_length hys; simp at this; omega)⟩
      have hylen : ys.length = 2 := by simpa using mapM_some_length hys
      have h0 := mapM_some_get hys 0 f0 (by simp)
      have h1 := mapM_some_get hys 1 f1 (by simp)
      rw [o0, t0, ci, hx0] at h0
      rw [o1, t1, cu, hx1] at h1
      obtain ⟨v0, v1, hcl⟩ : ∃ v0 v1, cells.toList = [v0, v1] := by
        match hc : cells.toList, (by simpa using hsize : cells.toList.length = 2) with
        | [v0, v1], _ => exact ⟨v0, v1, rfl⟩
      rw [hcl] at h0 h1
      simp only [List.drop_zero, List.take_succ_cons, List.take_zero, List.drop_succ_cons] at h0 h1
      obtain ⟨C, hC, -, hwf⟩ := DataW.trod_int hi h0
      obtain ⟨A, n, c, ts, hA, hn, hrt, hnc, hwt⟩ := open_tiles hu he hi ce ci h1
      simp at hC hA
      subst hC hA
      refine ⟨C, A, n, c, ts, ?_, hn, hrt, hnc, ?_, hwf⟩
      · congr 1
        apply Array.toList_inj.1 
        rw [hcl]
      · rcases hwt with h0 | ⟨el, sp, hx, hle⟩
        · omega
        · have hde : d = .agg [x0.1, x1.1] := by
            have := (Prod.mk.inj hd').1
            rw [← this]
            match ys, hylen, hx0, hx1 with
            | [y0, y1], _, hx0, hx1 =>
              simp at hx0 hx1
              subst hx0 hx1
              rfl
          have := List.all_eq_true.1 hsz _ (DataW.weights_mem_each hj hd ((el.length + sp.length) * P.bytesOf e) (by
            rw [hde, hx]
            simp [DataW.weights, ht, DataW.weightsEach, t1, hu]))
          simp only [decide_eq_true_eq, hby, reachBytes] at this
          omega
    · cases hf
theorem open_ints0 {t e : TypeId} {fuel : Nat} {cs : List Value} {x : DataW H × List MemPlace} (ht : P.underlying t = some (.slice e)) (he : P.underlying e = some (.int .i64)) (ce : P.cellsOf e = 1)
    (h : DataW.trod enc P w base (fun _ => true) held fuel t cs = some x) :
    ∃ A n c ts, cs = [.slice A n c] ∧ n = ts.length ∧ RI w A ts ∧ n ≤ c ∧ (n = 0 ∨ ∃ el sp, x.1 = .slice el sp ∧ n ≤ el.length + sp.length) := by
  rcases open_slice ht h with ⟨rfl, rfl⟩ | ⟨a, len, cap, m, n, D, Pl, rfl, hb, hl, hm, hmm, rfl, hx⟩
  · exact ⟨none, 0, 0, [], rfl, rfl, fun k hk => by simp at hk, Nat.le_refl _, .inl rfl⟩
  · simp only [if_true] at hmm
    subst hmm
    have one : ∀ k, k < m → ∃ x : Int, w.cell? (a.add k) = some (.int .i64 x) := by
      intro k hk
      obtain ⟨cs', hc, htr⟩ := hx k hk
      rw [ce, Nat.mul_one] at hc
      obtain ⟨-, hlen, hcell⟩ := World.cells?_some hc
      obtain ⟨x, hx', -, -⟩ := DataW.trod_int he htr
      have := hcell 0 (by omega)
      rw [hx'] at this
      have ha : (a.add k).add 0 = a.add k := by simp [Addr.add]
      rw [ha] at this
      exact ⟨x, by simpa using this⟩
    have each : ∀ k, k < len → ∃ x : Int, a = ⟨a.block, a.off, none⟩ ∧ a.block < w.heap.size ∧ w.cell? ⟨a.block, a.off + k, none⟩ = some (.int .i64 x) := by
      intro k hk
      obtain ⟨x, hx⟩ := one k (by omega)
      obtain ⟨y, hy⟩ := one 0 (by omega)
      have h0 : a.add 0 = a := by simp [Addr.add]
      rw [h0] at hy
      have ha := addr_plain hy
      have hlt := World.block_lt_of_cell? w _ hy
      refine ⟨x, ha, hlt, ?_⟩
      rw [ha, add_plain] at hx
      exact hx
    obtain ⟨f, hf⟩ := choose_lt each
    refine ⟨some a, len, m, (List.range len).map f, rfl, by simp, fun k hk => ?_, hl, .inr ⟨_, _, rfl, by simp⟩⟩
    have hk' : k < len := by simpa using hk
    obtain ⟨ha, hlt, hc⟩ := hf k hk'
    have htk : ik ((List.range len).map f) k = f k := by simp [ik, hk']
    rw [htk]
    exact ⟨a.block, a.off, by rw [← ha], hlt, hc⟩
end
theorem wf64 {n : Int} (h : (Lit.int .i64 n).wf = true) : -9223372036854775808 ≤ n ∧ n ≤ 9223372036854775807 := by
  simp [Lit.wf] at h
  have e : IntKind.i64.min = -9223372036854775808 := by decide
  rw [e] at h
  exact h
end Go.Proofs.Ytgdmflmglkakgaa
namespace Go.Proofs.Ytgdmflmglkakgaa
open Go Go.RowKit Go.Proofs
open Go.ChangeShapes Go.WideShapes Go.ChangeAt Go.Deep
set_option linter.unusedVariables false
set_option linter.unusedSimpArgs false
section
variable {H : Type} {enc : TypeId × Value → H} {P : Program} {w : World} {base : Nat} {held : Bool}
theorem open_rows0 {t e i : TypeId} {fuel : Nat} {cs : List Value} {x : DataW H × List MemPlace} (ht : P.underlying t = some (.slice e)) (he : P.underlying e = some (.slice i)) (hi : P.underlying i = some (.int .i64)) (ce : P.cellsOf e = 1) (ci : P.cellsOf i = 1)
    (h : DataW.trod enc P w base (fun _ => true) held fuel t cs = some x) :
    ∃ A n c xs, cs = [.slice A n c] ∧ n = xs.length ∧ RR w A xs ∧ n ≤ c ∧ (n = 0 ∨ ∃ el sp, x.1 = .slice el sp ∧ n ≤ el.length + sp.length) := by
  rcases open_slice ht h with ⟨rfl, rfl⟩ | ⟨a, len, cap, m, n, D, Pl, rfl, hb, hl, hm, hmm, rfl, hx⟩
  · exact ⟨none, 0, 0, [], rfl, rfl, fun k hk => by simp at hk, Nat.le_refl _, .inl rfl⟩
  · simp only [if_true] at hmm
    subst hmm
    have inner : ∀ k, k < m → ∃ A' c' us, w.cell? (a.add k) = some (.slice A' us.length c') ∧ RI w A' us ∧ us.length ≤ c' ∧ us.length ≤ 9223372036854775807 := by
      intro k hk
      obtain ⟨cs', hc, htr⟩ := hx k hk
      rw [ce, Nat.mul_one] at hc
      obtain ⟨-, hlen, hcell⟩ := World.cells?_some hc
      obtain ⟨A', n', c', us, hcs, hn', hrt, hnc, -⟩ := open_ints0 he hi ci htr
      have hsm : us.length ≤ 9223372036854775807 := by
        rcases open_slice he htr with ⟨h1, -⟩ | ⟨a2, len2, cap2, m2, n2, D2, Pl2, h1, -, hl2, hm2, hmm2, -, -⟩
        · rw [hcs] at h1
          simp at h1
          omega
        · simp only [if_true] at hmm2
          subst hmm2
          rw [hcs] at h1
          simp at h1
          simp only [maxLen] at hm2
          omega
      have := hcell 0 (by omega)
      rw [hcs] at this
      have ha : (a.add k).add 0 = a.add k := by simp [Addr.add]
      rw [ha] at this
      exact ⟨A', c', us, by rw [← hn']; simpa using this, hrt, by omega, hsm⟩
    have each : ∀ k, k < len → ∃ us : List Int, ∃ A' c', a = ⟨a.block, a.off, none⟩ ∧ a.block < w.heap.size ∧ w.cell? ⟨a.block, a.off + k, none⟩ = some (.slice A' us.length c') ∧ RI w A' us ∧ us.length ≤ c' ∧ us.length ≤ 9223372036854775807 := by
      intro k hk
      obtain ⟨A', c', us, hc, hr, hle, hsm⟩ := inner k (by omega)
      obtain ⟨A0, c0, us0, hc0, -, -⟩ := inner 0 (by omega)
      have h0 : a.add 0 = a := by simp [Addr.add]
      rw [h0] at hc0
      have ha := addr_plain hc0
      have hlt := World.block_lt_of_cell? w _ hc0
      refine ⟨us, A', c', ha, hlt, ?_, hr, hle, hsm⟩
      rw [ha, add_plain] at hc
      exact hc
    obtain ⟨f, hf⟩ := choose_lt each
    refine ⟨some a, len, m, (List.range len).map f, rfl, by simp, fun k hk => ?_, hl, .inr ⟨_, _, rfl, by simp⟩⟩
    have hk' : k < len := by simpa using hk
    obtain ⟨A', c', ha, hlt, hc, hr, hle, hsm⟩ := hf k hk'
    have htk : rowAt ((List.range len).map f) k = f k := by simp [rowAt, hk']
    have hlk : rowLen ((List.range len).map f) k = (f k).length := by rw [rowLen, htk]
    rw [hlk, htk]
    exact ⟨a.block, a.off, A', c', by rw [← ha], hlt, hc, hr, hle, hsm⟩
theorem open_rows_arg {r : Reach} {b0 : Nat} {t e i : TypeId} {v : Value} {d : DataW H} {ps : List MemPlace} (ht : P.underlying t = some (.slice e)) (he : P.underlying e = some (.slice i)) (hi : P.underlying i = some (.int .i64)) (ce : P.cellsOf e = 1) (ci : P.cellsOf i = 1) (hby : P.bytesOf e = 24) (hby2 : P.bytesOf i = 8)
    (hval : Value.okWide P w r b0 t v) (h : DataW.Trod enc P w base (fun _ => true) held t v d ps) {ts0 : List TypeId} {ds0 : List (DataW H)} {j : Nat} (hj : ts0[j]? = some t) (hd : ds0[j]? = some d)
    (hsz : (DataW.weightsEach P ts0 ds0).all (· ≤ reachBytes) = true) :
    ∃ A n c xs, v = .slice A n c ∧ n = xs.length ∧ RR w A xs ∧ n ≤ c ∧ n ≤ 35184372088832 := by
  obtain ⟨a, len, cap, rfl⟩ := okWide_slice ht hval
  obtain ⟨fuel, hf⟩ := h
  obtain ⟨A, n, c, xs, hA, hn, hrt, hnc, hwt⟩ := open_rows0 ht he hi ce ci hf
  simp [Value.cells] at hA
  obtain ⟨rfl, rfl, rfl⟩ := hA
  refine ⟨_, _, _, xs, rfl, hn, hrt, hnc, ?_⟩
  rcases hwt with h0 | ⟨el, sp, hx, hle⟩
  · omega
  · have := List.all_eq_true.1 hsz _ (DataW.weights_mem_each hj hd ((el.length + sp.length) * P.bytesOf e) (by
      simp only at hx
      rw [hx]
      simp [DataW.weights, ht]))
    simp only [decide_eq_true_eq, hby, reachBytes] at this
    omega
end
end Go.Proofs.Ytgdmflmglkakgaa

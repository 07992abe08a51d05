/-
  Parts of the proof, in their order: Q0, QSpecL01Own, QSpecL02Ways, QSpecL02Each, QSpecL02Total, QImplAnyColour, QImplSetLeftAtImplAnyColour, QImplWithin, QImplSetIsWord1, QSlicesIndexFuncInt64Int64AtImplSetIsWord1.
-/
import Derived.Test.YtenlcakpcbmmdaaProg
import Derived.Below
import Derived.Deep.Draws
import Derived.Deep.AppendLies
import Derived.Maps.AppendAt
import Derived.OwnWalk
import Derived.Laws.BytesArg
import Derived.Laws.MakeOwn
import Derived.Laws.OwnMore
import Derived.Deep.OwnRows
import Derived.Tactics
import Derived.Lib.ConvBytes
import Derived.Laws.Slices
import Derived.WalkKit
import Derived.KernelRfl
import Derived.RowKit3
import Derived.Deep.LoopGhost
import Derived.Deep.QuietTactic
import Derived.BigQuiet
import Derived.WideLaws
import Derived.Deep.DeepCutAuto
import Derived.Deep.CutBlock
import Derived.Deep.RegionHeld3
import Derived.Laws.Rows
import Derived.Lib.AppendStr
import Derived.ArgAppend
import Derived.Laws.IdiomCopy
import Derived.OrdersHeld
import Derived.Laws.BitsLemmas
import Derived.RowKit
import Derived.Test.YtenlcakpcbmmdaaWWords
import Derived.Test.YtenlcakpcbmmdaaWLast
import Derived.Test.YtenlcakpcbmmdaaWTab
import Derived.Test.YtenlcakpcbmmdaaWFour
import Derived.Test.YtenlcakpcbmmdaaWQPut
import Derived.Test.YtenlcakpcbmmdaaWApart
import Derived.Test.YtenlcakpcbmmdaaWArr
import Derived.Test.YtenlcakpcbmmdaaWZeros
import Derived.Test.YtenlcakpcbmmdaaWFoot
import Derived.Test.YtenlcakpcbmmdaaWKept
import Derived.Test.YtenlcakpcbmmdaaWShare
import Derived.Test.YtenlcakpcbmmdaaWN
import Derived.Test.YtenlcakpcbmmdaaWFootNe
import Derived.Test.YtenlcakpcbmmdaaWAt
import Derived.Test.YtenlcakpcbmmdaaWEqStruct
import Derived.Test.YtenlcakpcbmmdaaWRepsOne
import Derived.Test.YtenlcakpcbmmdaaWInv
import Derived.Test.YtenlcakpcbmmdaaWInvWords
import Derived.Test.YtenlcakpcbmmdaaWGuard
import Derived.Test.YtenlcakpcbmmdaaWNEv
import Derived.Test.YtenlcakpcbmmdaaWMore
namespace Go.Proofs.Ytenlcakpcbmmdaa.Q
open Go.RowKit Go.Proofs.YtenlcakpcbmmdaaW.PrintWords Go.Proofs.YtenlcakpcbmmdaaW.PrintLast Go.Proofs.YtenlcakpcbmmdaaW.PrintMore
attribute [local go_sem] max2_int min2_int max_two min_two max_three min_three max_four min_four
set_option linter.unusedVariables false
set_option linter.unusedSimpArgs false
def errW : Option Int → Value
 | none => .nilIface
 | some c => .iface 0 (.int .i64 c)
theorem errW_none : errW none = .nilIface := rfl
theorem errW_some (c : Int) : errW (some c) = .iface 0 (.int .i64 c) := rfl
theorem info2 : (Try.prog.info? 2).map (fun i => (i.zero, i.size, i.bytes)) = some (some (.int .i64 0), 1, 8) := by kernel_rfl
theorem info34 : (Try.prog.info? 34).map (fun i => (i.zero, i.size, i.bytes)) = some (some (.slice none 0 0), 1, 24) := by kernel_rfl
theorem info77 : (Try.prog.info? 77).map (fun i => (i.zero, i.size, i.bytes)) = some (some (.agg #[(.int .i64 0), (.int .i64 0), (.int .i64 0), (.int .i64 0)]), 4, 32) := by kernel_rfl
structure S77 where
 f0 : Int
 f1 : Int
 f2 : Int
 f3 : Int
def z77 : S77 := ⟨(0 : Int), (0 : Int), (0 : Int), (0 : Int)⟩
def k77 : Kd S77 := Kd.iso (Kd.pair (Kd.int .i64) (Kd.pair (Kd.int .i64) (Kd.pair (Kd.int .i64) (Kd.int .i64)))) (fun x : S77 => (x.f0, x.f1, x.f2, x.f3))
theorem k77_open {w : World} {x : S77} {cs : List Value} (h : k77.K w x cs) : cs = [.int .i64 x.f0, .int .i64 x.f1, .int .i64 x.f2, .int .i64 x.f3] := by
 obtain ⟨_, _, rfl, rfl, ⟨_, _, rfl, rfl, ⟨_, _, rfl, rfl, rfl⟩⟩⟩ := h
 exact rfl
theorem k77_mk (w : World) (x : S77)  : k77.K w x [.int .i64 x.f0, .int .i64 x.f1, .int .i64 x.f2, .int .i64 x.f3] := ⟨[.int .i64 x.f0], [.int .i64 x.f1, .int .i64 x.f2, .int .i64 x.f3], rfl, rfl, ⟨[.int .i64 x.f1], [.int .i64 x.f2, .int .i64 x.f3], rfl, rfl, ⟨[.int .i64 x.f2], [.int .i64 x.f3], rfl, rfl, rfl⟩⟩⟩
def rd_T77 (xs : List S77) (i : Int) : S77 := xs.getD i.toNat z77
theorem at_T77 {w : World} {A : Option Addr} {n : Nat} {xs : List S77} (h : Kd.C k77 w A n xs) (i : Int) (h0 : 0 ≤ i) (h1 : i < n) : ∃ ad , A = some ad ∧ w.cell? (ad.add (i.toNat * 4)) = some (.int .i64 (rd_T77 xs i).f0) ∧ w.cell? ⟨(ad.add (i.toNat * 4)).block, (ad.add (i.toNat * 4)).off + 1, none⟩ = some (.int .i64 (rd_T77 xs i).f1) ∧ w.cell? ⟨(ad.add (i.toNat * 4)).block, (ad.add (i.toNat * 4)).off + 2, none⟩ = some (.int .i64 (rd_T77 xs i).f2) ∧ w.cell? ⟨(ad.add (i.toNat * 4)).block, (ad.add (i.toNat * 4)).off + 3, none⟩ = some (.int .i64 (rd_T77 xs i).f3) := by
 obtain ⟨ad, c, e, _, hK, hc0⟩ := Kd.C_get h z77 i h0 h1
 have hc : ∀ j u, c[j]? = some u → w.cell? (ad.add (i.toNat * 4 + j)) = some u := hc0
 obtain rfl := k77_open hK
 exact ⟨ad, e, hc 0 _ rfl, by rw [← add_field _ _ 1 (by omega)]; exact hc 1 _ rfl, by rw [← add_field _ _ 2 (by omega)]; exact hc 2 _ rfl, by rw [← add_field _ _ 3 (by omega)]; exact hc 3 _ rfl⟩
structure S30 where
 f0 : Int
 f1 : (List S77)
def rd_L5 (xs : List (List Int)) (i : Int) : (List Int) := xs.getD i.toNat ([] : List Int)
theorem at_L5 {w : World} {A : Option Addr} {n : Nat} {xs : List (List Int)} (h : Kd.C (Kd.slice 2 (Kd.int .i64)) w A n xs) (i : Int) (h0 : 0 ≤ i) (h1 : i < n) : ∃ ad A0 c0, A = some ad ∧ w.cell? (ad.add i.toNat) = some (.slice A0 (rd_L5 xs i).length c0) ∧ (rd_L5 xs i).length ≤ c0 ∧ (Kd.int .i64).C w A0 (rd_L5 xs i).length (rd_L5 xs i) := by
 obtain ⟨ad, c, e, _, hK, hc0⟩ := Kd.C_get h ([] : List Int) i h0 h1
 have hc : ∀ j u, c[j]? = some u → w.cell? (ad.add (i.toNat * 1 + j)) = some u := hc0
 obtain ⟨A0, c0, rfl, l0, g0⟩ := hK
 exact ⟨ad, A0, c0, e, by have hq := hc 0 _ rfl; rwa [Nat.mul_one, Nat.add_zero] at hq, l0, g0⟩
end Go.Proofs.Ytenlcakpcbmmdaa.Q
namespace Go.Proofs.Ytenlcakpcbmmdaa.Q
open Go.RowKit Go.Proofs.YtenlcakpcbmmdaaW.PrintWords Go.Proofs.YtenlcakpcbmmdaaW.PrintLast Go.Proofs.YtenlcakpcbmmdaaW.PrintMore
attribute [local go_sem] max2_int min2_int max_two min_two max_three min_three max_four min_four
set_option linter.unusedVariables false
set_option linter.unusedSimpArgs false
def spec_l01Own.f (l0 : List Int) : Option (List Int) := (some (([] : List Int) : List Int)).bind fun y104 => (if y104.length + l0.length < 17592186044416 then (some (y104 ++ l0)) else (none))
set_option maxHeartbeats 8000000 in
set_option maxRecDepth 100000 in
theorem spec_l01Own.calls (A0 : Option Addr) (c0 : Nat) (l0 : List Int) (r : List Int) (w : World) (hr0 : Kd.C (Kd.int .i64) w A0 l0.length l0) (hc0 : l0.length ≤ c0) (h : spec_l01Own.f l0 = some r) :
  Calls Try.prog 91 #[.slice A0 l0.length c0] w fun e w' => ∃ v0_ : Value, e = .returned (v0_) ∧ Kd.R (Kd.int .i64) 2 w' w.heap.size (fun _ => True) v0_ r ∧ Below w.heap.size w w' := by
 have HR0 := Aside0.mk hr0
 have HC0 := Aside0.mk hc0
 clear hr0 hc0
 have HB := Aside0.mk (Below.refl w.heap.size w)
 have H : ((some (([] : List Int) : List Int)).bind fun y104 => (if y104.length + l0.length < 17592186044416 then (some (y104 ++ l0)) else (none))) = some r := h
 clear h
 obtain ⟨y104, hy104⟩ : ∃ y_ : List Int, y_ = (([] : List Int)) := ⟨_, rfl⟩
 replace H : (if y104.length + l0.length < 17592186044416 then (some (y104 ++ l0)) else (none)) = some r := by first | (rw [hy104]; with_reducible exact H) | (have H2_ := (Option.bind_some _ _).symm.trans H; rw [hy104]; with_reducible exact H2_) | (have H2_ := (Option.bind_some _ _).symm.trans H; with_reducible exact H2_) | with_reducible exact H | (rw [hy104]; exact H) | exact H
 have Ny104 := Aside0.mk hy104
 clear hy104
 by_cases c2 : y104.length + l0.length < 17592186044416
 ·rw [if_pos c2] at H
  have LMc2 := Aside0.mk c2
  clear c2
  obtain ⟨y107, hy107⟩ : ∃ y_ : List Int, y_ = (y104 ++ l0) := ⟨_, rfl⟩
  replace H : (some y107) = some r := by first | (rw [hy107]; with_reducible exact H) | (have H2_ := (Option.bind_some _ _).symm.trans H; rw [hy107]; with_reducible exact H2_) | (have H2_ := (Option.bind_some _ _).symm.trans H; with_reducible exact H2_) | with_reducible exact H | (rw [hy107]; exact H) | exact H
  have Ny107 := Aside0.mk hy107
  clear hy107
  obtain rfl := Option.some.inj H
  go_enter Try.func91, Try.ntmps91
  go_wp2_with (first | ((with_reducible refine gate_dst (N := 3) rfl ?_); refine Kd.R_lit (Kd.int .i64) _ 2 ?hg (N := 3) ?hd (xs := ([] : List Int)) (inner := []) (ok := fun _ => True) (okp := fun _ => True) ?hr ?hp (fun _ hk => hk) trivial (Below.refl _ _) (Nat.le_refl _) (by simp) ?_; (case hd => rfl); (case hg => rfl); (case hr => first | (go_simp; done) | (go_simp; rfl)); (case hp => exact (Reps.none _ _)); intro v105 w3 ho4 hb hg_ hnew_; clear hg_ hnew_; (first | rw [← Ny104.out] at ho4 | (simp only [Int.reduceToNat] at ho4; rw [← Ny104.out] at ho4)); have n0_ := Aside0.mk (Kd.R_lower ho4 (below_size (by repeat (first | (with_reducible first | exact HB.out | apply below_alloc | apply pw_below_drewN | apply below_drew1) | exact HB.out)))); have n1_ := Aside0.mk (below_step (by repeat (first | (with_reducible first | exact HB.out | apply below_alloc | apply pw_below_drewN | apply below_drew1) | exact HB.out)) hb); clear HB; have HO106 := n0_; have HB := n1_; clear n0_ n1_; clear hb ho4) | ((with_reducible refine gate_builtin (b := .append) (xs := #[.tmp 3, .tmp 4]) rfl ?_); at_builtin; refine Kd.R_append_rows (Kd.int .i64) (w0 := w) w.heap.size rfl (.tmp 3) (.tmp 4) 34 2 (.int .i64 0) 8 rfl Try.underlying34 info2 rfl (by decide) (by omega) v105 y104 l0 _ _ _ (fun _ => True) (fun _ => False) rfl rfl ?aO ?aR (fun _ _ h => h) (fun _ h => h.elim) ?aF ?aB ?aS ?aL ?_; (case aR => repeat (first | exact (Kd.C_below HR0.out HB.out) | (with_reducible refine Kd.C_alloc ?_ _) | (with_reducible refine Kd.C_drewN ?_ _) | (with_reducible refine Kd.C_drew ?_))); (case aB => exact (by repeat (first | (with_reducible first | exact HB.out | apply below_alloc | apply pw_below_drewN | apply below_drew1) | exact HB.out))); (case aF => exact (fun _ _ => trivial)); (case aO => exact (by (with_reducible repeat (first | apply Kd.R_alloc | apply Kd.R_drewN | apply Kd.R_drew)); exact HO106.out)); (case aS => exact (below_size (by repeat (first | (with_reducible first | exact HB.out | apply below_alloc | apply pw_below_drewN | apply below_drew1) | exact HB.out)))); (case aL => have := LMc2.out; omega); intro v108 w5 ho hb hg hat; rw [← Ny107.out] at ho; have n0_ := Aside0.mk (hb); have n1_ := Aside0.mk (ho); clear HB; clear HO106; have HB := n0_; have HO109 := n1_; clear n0_ n1_; clear ho hb hg hat))
  go_ret
  exact ⟨_, by first | rfl | (simp [errW_none, errW_some] <;> rfl) | (simp [*, errW_none, errW_some] <;> rfl), by (with_reducible repeat (first | apply Kd.R_alloc | apply Kd.R_drewN | apply Kd.R_drew)); exact HO109.out, by repeat (first | (with_reducible first | exact HB.out | apply below_alloc | apply pw_below_drewN | apply below_drew1) | exact HB.out)⟩
 ·rw [if_neg c2] at H
  exact absurd H (by simp)
end Go.Proofs.Ytenlcakpcbmmdaa.Q
namespace Go.Proofs.Ytenlcakpcbmmdaa.Q
open Go.RowKit Go.Proofs.YtenlcakpcbmmdaaW.PrintWords Go.Proofs.YtenlcakpcbmmdaaW.PrintLast Go.Proofs.YtenlcakpcbmmdaaW.PrintMore
attribute [local go_sem] max2_int min2_int max_two min_two max_three min_three max_four min_four
set_option linter.unusedVariables false
set_option linter.unusedSimpArgs false
mutual
def spec_l02Ways.l0 : Nat → Int → List Int → List Int → Int → Int → List (S77) → Option (List Int)
 | 0, _, _, _, _, _, _ => none
 | k + 1, x2, x3, x9, x10, x111000, x111001 => if x10 < x2 then (if 0 ≤ x111000 then (if (x111000 : Int).toNat ≤ 35184372088832 then (spec_l02Ways.l1 k x2 x3 x9 x10 (List.replicate (x111000 : Int).toNat 0) 0 x111000 x111001) else (none)) else (none)) else (some x9)
def spec_l02Ways.l1 : Nat → Int → List Int → List Int → Int → List Int → Int → Int → List (S77) → Option (List Int)
 | 0, _, _, _, _, _, _, _, _ => none
 | k + 1, x2, x3, x9, x10, x11, x12, x111000, x111001 => if x12 < (x111001.length : Int) then (if 0 ≤ x12 then (if (x3.length : Int) > 0 then (if 0 ≤ x10 then (if x10 < (x3.length : Int) then (if (rd x3 x10) = ((rd_T77 x111001 x12).f1) then (if 0 ≤ ((rd_T77 x111001 x12).f2) then (if ((rd_T77 x111001 x12).f2) < (x11.length : Int) then (if 0 ≤ ((rd_T77 x111001 x12).f0) then (if ((rd_T77 x111001 x12).f0) < (x9.length : Int) then (spec_l02Ways.l1 k x2 x3 x9 x10 (x11.set (((rd_T77 x111001 x12).f2) : Int).toNat (mn (wrap64 ((rd x11 ((rd_T77 x111001 x12).f2)) + (rd x9 ((rd_T77 x111001 x12).f0)))) 1000000000000001)) (wrap64 (x12 + 1)) x111000 x111001) else (none)) else (none)) else (none)) else (none)) else (spec_l02Ways.l1 k x2 x3 x9 x10 x11 (wrap64 (x12 + 1)) x111000 x111001)) else (none)) else (none)) else (if 0 ≤ ((rd_T77 x111001 x12).f2) then (if ((rd_T77 x111001 x12).f2) < (x11.length : Int) then (if 0 ≤ ((rd_T77 x111001 x12).f0) then (if ((rd_T77 x111001 x12).f0) < (x9.length : Int) then (spec_l02Ways.l1 k x2 x3 x9 x10 (x11.set (((rd_T77 x111001 x12).f2) : Int).toNat (mn (wrap64 ((rd x11 ((rd_T77 x111001 x12).f2)) + (rd x9 ((rd_T77 x111001 x12).f0)))) 1000000000000001)) (wrap64 (x12 + 1)) x111000 x111001) else (none)) else (none)) else (none)) else (none))) else (none)) else (spec_l02Ways.l0 k x2 x3 x11 (wrap64 (x10 + 1)) x111000 x111001)
end
def spec_l02Ways.f (k : Nat) (a0_0 : Int) (l0_1 : List (S77)) (l1 : List Int) (a2 : Int) (l3 : List Int) : Option (List Int) := (spec_l01Own.f l1).bind fun t111 => (spec_l02Ways.l0 k a2 l3 t111 0 a0_0 l0_1)
theorem spec_l02Ways.mono_l : ∀ k, (∀ y0 y1 y2 y3 y4 y5, LeO (spec_l02Ways.l0 k y0 y1 y2 y3 y4 y5) (spec_l02Ways.l0 (k + 1) y0 y1 y2 y3 y4 y5)) ∧ (∀ y0 y1 y2 y3 y4 y5 y6 y7, LeO (spec_l02Ways.l1 k y0 y1 y2 y3 y4 y5 y6 y7) (spec_l02Ways.l1 (k + 1) y0 y1 y2 y3 y4 y5 y6 y7))
 | 0 => ⟨fun _ _ _ _ _ _ r h => by simp [spec_l02Ways.l0] at h, fun _ _ _ _ _ _ _ _ r h => by simp [spec_l02Ways.l1] at h⟩
 | k + 1 => by
  obtain ⟨ih0, ih1⟩ := spec_l02Ways.mono_l k
  refine ⟨?_, ?_⟩
  ·intro y0 y1 y2 y3 y4 y5
   unfold spec_l02Ways.l0
   repeat' first
   | (with_reducible exact ih0 _ _ _ _ _ _)
   | (with_reducible exact ih1 _ _ _ _ _ _ _ _)
   | (with_reducible exact LeO.refl _)
   | (with_reducible exact LeO.none _)
   | (with_reducible refine LeO.ite ?_ ?_)
   | (with_reducible refine LeO.bind ?_ (fun _ => ?_))
   | exact ih0 _ _ _ _ _ _
   | exact ih1 _ _ _ _ _ _ _ _
   | exact LeO.none _
   | refine LeO.ite ?_ ?_
   | refine LeO.bind ?_ (fun _ => ?_)
  ·intro y0 y1 y2 y3 y4 y5 y6 y7
   unfold spec_l02Ways.l1
   repeat' first
   | (with_reducible exact ih0 _ _ _ _ _ _)
   | (with_reducible exact ih1 _ _ _ _ _ _ _ _)
   | (with_reducible exact LeO.refl _)
   | (with_reducible exact LeO.none _)
   | (with_reducible refine LeO.ite ?_ ?_)
   | (with_reducible refine LeO.bind ?_ (fun _ => ?_))
   | exact ih0 _ _ _ _ _ _
   | exact ih1 _ _ _ _ _ _ _ _
   | exact LeO.none _
   | refine LeO.ite ?_ ?_
   | refine LeO.bind ?_ (fun _ => ?_)
theorem spec_l02Ways.mono : ∀ a0 a1 a2 a3 a4 k, LeO (spec_l02Ways.f k a0 a1 a2 a3 a4) (spec_l02Ways.f (k + 1) a0 a1 a2 a3 a4) := by
 intro a0 a1 a2 a3 a4 k
 obtain ⟨ih0, ih1⟩ := spec_l02Ways.mono_l k
 unfold spec_l02Ways.f
 repeat' first
   | (with_reducible exact ih0 _ _ _ _ _ _)
   | (with_reducible exact ih1 _ _ _ _ _ _ _ _)
   | (with_reducible exact LeO.refl _)
   | (with_reducible exact LeO.none _)
   | (with_reducible refine LeO.ite ?_ ?_)
   | (with_reducible refine LeO.bind ?_ (fun _ => ?_))
   | exact ih0 _ _ _ _ _ _
   | exact ih1 _ _ _ _ _ _ _ _
   | exact LeO.none _
   | refine LeO.ite ?_ ?_
   | refine LeO.bind ?_ (fun _ => ?_)
def spec_l02Ways.T10 : Bool × List (List Nat × List Nat) := (true, [([], []), ([0], [0]), ([1], [1]), ([2], [2]), ([3], [3]), ([3], [3]), ([4, 5, 3], [3, 4, 5]), ([6, 3], [3, 6]), ([3], [3]), ([8, 3], [3, 8]), ([7, 9, 3], [3, 7, 9]), ([3, 10], [3, 10])])
def spec_l02Ways.B10 : List Nat := [0, 1, 3, 7, 15, 15, 63, 127, 15, 271, 1023, 2047]
theorem spec_l02Ways.tab10 : rtab .any (opsOf Try.f51 10) = spec_l02Ways.T10 := by kernel_rfl
theorem spec_l02Ways.bits10 : waitsOk spec_l02Ways.T10.2 spec_l02Ways.B10 = true := by kernel_rfl
def spec_l02Ways.T11 : Bool × List (List Nat × List Nat) := (true, [([], []), ([], []), ([1], [1]), ([], []), ([], []), ([4], [4]), ([3, 5], [3, 5]), ([6], [6]), ([], []), ([], []), ([9], [9]), ([8, 10], [8, 10]), ([11], [11]), ([7, 12], [7, 12]), ([13], [13]), ([0, 2, 0, 1, 2, 3, 4, 5, 6, 7, 8, 9, 10, 11, 12, 13, 14], [0, 2]), ([15, 14, 0, 1, 2, 3, 4, 5, 6, 7, 8, 9, 10, 11, 12, 13, 14], [14, 15])])
def spec_l02Ways.B11 : List Nat := [0, 0, 2, 0, 0, 16, 56, 120, 0, 0, 512, 1792, 3840, 8184, 16376, 32767, 65535]
theorem spec_l02Ways.tab11 : rtab .any (opsOf Try.f51 11) = spec_l02Ways.T11 := by kernel_rfl
theorem spec_l02Ways.bits11 : waitsOk spec_l02Ways.T11.2 spec_l02Ways.B11 = true := by kernel_rfl
set_option maxHeartbeats 8000000 in
set_option maxRecDepth 100000 in
theorem spec_l02Ways.calls (k : Nat) (a0_0 : Int) (A0_1 : Option Addr) (c0_1 : Nat) (l0_1 : List (S77)) (A1 : Option Addr) (c1 : Nat) (l1 : List Int) (a2 : Int) (A3 : Option Addr) (c3 : Nat) (l3 : List Int) (r : List Int) (w : World) (hr0_1 : Kd.C k77 w A0_1 l0_1.length l0_1) (hc0_1 : l0_1.length ≤ c0_1) (hr1 : Kd.C (Kd.int .i64) w A1 l1.length l1) (hc1 : l1.length ≤ c1) (hr3 : Kd.C (Kd.int .i64) w A3 l3.length l3) (hc3 : l3.length ≤ c3) (h : spec_l02Ways.f k a0_0 l0_1 l1 a2 l3 = some r) :
  Calls Try.prog 51 #[.agg #[.int .i64 a0_0, .slice A0_1 l0_1.length c0_1], .slice A1 l1.length c1, .int .i64 a2, .slice A3 l3.length c3] w fun e w' => ∃ v0_ : Value, e = .returned (v0_) ∧ Kd.R (Kd.int .i64) 2 w' w.heap.size (fun _ => True) v0_ r ∧ Below w.heap.size w w' := by
 have hu30 := Try.underlying30
 have hu77 := Try.underlying77
 have HR0_1 := Aside0.mk hr0_1
 have HC0_1 := Aside0.mk hc0_1
 clear hr0_1 hc0_1
 have HR1 := Aside0.mk hr1
 have HC1 := Aside0.mk hc1
 clear hr1 hc1
 have HR3 := Aside0.mk hr3
 have HC3 := Aside0.mk hc3
 clear hr3 hc3
 have HB := Aside0.mk (Below.refl w.heap.size w)
 have H : ((spec_l01Own.f l1).bind fun t111 => (spec_l02Ways.l0 k a2 l3 t111 0 a0_0 l0_1)) = some r := h
 clear h
 replace H := Option.bind_eq_some_iff.mp H
 obtain ⟨t111, A50, H⟩ := H
 replace H : (spec_l02Ways.l0 k a2 l3 t111 0 a0_0 l0_1) = some r := H
 have A5 := Aside0.mk A50
 clear A50
 have H' := Aside0.mk H
 clear H
 go_enter Try.func51, Try.ntmps51
 go_wp2_with (first | ((with_reducible refine gate_dst (N := 4) rfl ?_); refine box_event ?hg (N := 4) ?hd (cs := #[.int .i64 a0_0, .slice A0_1 l0_1.length c0_1]) (t := 30) ?hr ?_; (case hd => rfl); (case hg => rfl); (case hr => first | (go_simp; done) | (go_simp; rfl)); intro gb110 hg w6 hbox hb; have n0_ := Aside0.mk (below_step (by repeat (first | (with_reducible first | exact HB.out | apply below_alloc | apply pw_below_drewN | apply below_drew1) | exact HB.out)) hb); have n1_ := Aside0.mk (hbox); have n2_ := Aside0.mk ((by rw [hg]; exact (below_size (by repeat (first | (with_reducible first | exact HB.out | apply below_alloc | apply pw_below_drewN | apply below_drew1) | exact HB.out))) : w.heap.size ≤ gb110)); have n3_ := Aside0.mk ((by rw [hg]; exact (below_size (by repeat (first | (with_reducible first | exact HB.out | apply below_alloc | apply pw_below_drewN | apply below_drew1) | exact HB.out))) : w.heap.size ≤ gb110)); clear HB; have HB := n0_; have BK110 := n1_; have GW110 := n2_; have GE110 := n3_; clear n0_ n1_ n2_ n3_; clear hb hbox hg) | ((with_reducible refine gate_callee (f := 91) rfl ?_); refine goesL_ (some 15) rfl rfl Try.func91 (by kernel_rfl) rfl #[.slice A1 l1.length c1] rfl (by (try simp only [List.map_toArray, List.map_cons, List.map_nil]); first | done | rfl | (simp only [List.length_drop, List.length_take]; rfl)) ?_; (with_reducible refine (spec_l01Own.calls _ _ l1 t111 _ ?side1 ?side2 A5.out).mono ?_); (case side1 => repeat (first | exact (Kd.C_below HR1.out HB.out) | (with_reducible refine Kd.C_alloc ?_ _) | (with_reducible refine Kd.C_drewN ?_ _) | (with_reducible refine Kd.C_drew ?_))); (case side2 => exact HC1.out); rintro e w7 ⟨v112, rfl, ho0, hb⟩; refine ⟨_, rfl, ?_⟩; have n0_ := Aside0.mk (Kd.R_lower ho0 (below_size (by repeat (first | (with_reducible first | exact HB.out | apply below_alloc | apply pw_below_drewN | apply below_drew1 | refine below_set ?_ GE110.out) | exact HB.out)))); have n1_ := Aside0.mk (blk_below (g := gb110) (o := .cells #[.int .i64 a0_0, .slice A0_1 l0_1.length c0_1] 30 (0, 0)) (by (with_reducible repeat (first | refine blk_drewN ?_ _ | refine blk_drew ?_ | refine blk_alloc ?_ _)); exact BK110.out) hb); have n2_ := Aside0.mk (below_step (by repeat (first | (with_reducible first | exact HB.out | apply below_alloc | apply pw_below_drewN | apply below_drew1 | refine below_set ?_ GE110.out) | exact HB.out)) hb); clear BK110; clear HB; have HO113 := n0_; have BK110 := n1_; have HB := n2_; clear n0_ n1_ n2_; (try clear hb); (try clear hb2); (try clear hk); (try clear hi); (try clear ho0)))
 go_loopg [9, 10] k (fun kq v9 v10 w' => ∃ (x9_1 : List Int) (x10_1 : Int), v10 = .int .i64 x10_1 ∧ Aside0 (spec_l02Ways.l0 kq a2 l3 x9_1 x10_1 a0_0 l0_1 = some r) ∧ Aside0 (kq ≤ k) ∧ Aside0 (Kd.R (Kd.int .i64) 2 w' w.heap.size (fun _ => True) v9 x9_1) ∧ Aside0 (w'.heap[gb110]? = some (.cells #[.int .i64 a0_0, (.slice A0_1 l0_1.length c0_1)] 30 (0, 0))) ∧ Aside0 (Below w.heap.size w w'))
 case atStart => exact ⟨(t111), (0), (by first | rfl | (simp; done) | (simp [*]; done) | (simp; decide +kernel)), H', ⟨Nat.le_refl _⟩, ⟨by (with_reducible repeat (first | apply Kd.R_alloc | apply Kd.R_drewN | apply Kd.R_drew)); exact HO113.out⟩, ⟨by (with_reducible repeat (first | refine blk_drewN ?_ _ | refine blk_drew ?_ | refine blk_alloc ?_ _)); exact BK110.out⟩, ⟨by repeat (first | (with_reducible first | exact HB.out | apply below_alloc | apply pw_below_drewN | apply below_drew1 | refine below_set ?_ GE110.out) | exact HB.out)⟩⟩
 case round =>
  clear H'
  try clear c1
  try clear p2
  try clear c3
  try clear c5
  obtain ⟨x9_1, x10_1, rfl, HA, HK1, HO_9, BK110, HB⟩ := hrel
  cases gk with
  | zero => exact absurd HA.out (by simp [spec_l02Ways.l0])
  | succ k1 =>
   have H := HA.out
   clear HA
   simp only [spec_l02Ways.l0] at H
   by_cases c8 : x10_1 < a2
   ·rw [if_pos c8] at H
    have c8b0 : decide (x10_1 < a2) = true := decide_eq_true c8
    clear c8
    by_cases c9 : 0 ≤ a0_0
    ·rw [if_pos c9] at H
     have c9b0 := eq_true c9
     have c9b1 : decide (0 ≤ a0_0) = true := decide_eq_true c9
     clear c9
     by_cases c10 : (a0_0 : Int).toNat ≤ 35184372088832
     ·rw [if_pos c10] at H
      have c10b0 := eq_true c10
      have c10b1 : decide ((a0_0 : Int).toNat ≤ 35184372088832) = true := decide_eq_true c10
      clear c10
      obtain ⟨y114, hy114⟩ : ∃ y_ : List Int, y_ = (List.replicate (a0_0 : Int).toNat 0) := ⟨_, rfl⟩
      replace H : (spec_l02Ways.l1 k1 a2 l3 x9_1 x10_1 y114 0 a0_0 l0_1) = some r := by first | (rw [hy114]; with_reducible exact H) | (have H2_ := (Option.bind_some _ _).symm.trans H; rw [hy114]; with_reducible exact H2_) | (have H2_ := (Option.bind_some _ _).symm.trans H; with_reducible exact H2_) | with_reducible exact H | (rw [hy114]; exact H) | exact H
      have Ny114 := Aside0.mk hy114
      clear hy114
      have H' := Aside0.mk H
      clear H
      have hcz11_0 : wr.cell? ⟨gb110, 0, none⟩ = some (.int .i64 a0_0) := (blk_cell BK110.out 0).trans rfl
      have hcz11_1 : wr.cell? ⟨gb110, 1, none⟩ = some (.slice A0_1 l0_1.length c0_1) := (blk_cell BK110.out 1).trans rfl
      have hfz11_0 := blk_frozen BK110.out 0
      have hfz11_1 := blk_frozen BK110.out 1
      go_wp2_with (first | ((with_reducible refine gate_dst (N := 23) rfl ?_); refine Kd.R_make (Kd.int .i64) _ 2 rfl (N := 23) rfl 34 _ _ rfl a0_0 rfl rfl Try.underlying34 (.int .i64 0) 8 info2 rfl (by decide) (by omega) 0 (ok := fun _ => True) (okp := fun _ => True) rfl (fun _ hk => hk) trivial (of_decide_eq_true (by first | (with_reducible assumption) | assumption)) (Nat.le_trans (Nat.mul_le_mul_right _ (of_decide_eq_true (by first | (with_reducible assumption) | assumption) : a0_0.toNat ≤ 35184372088832)) (by omega)) (Below.refl _ _) (Nat.le_refl _) ?_; intro v115 w12 ho13 hb hg_ hnew_; clear hg_ hnew_; (first | rw [← Ny114.out] at ho13 | (simp only [Int.reduceToNat] at ho13; rw [← Ny114.out] at ho13)); have n0_ := Aside0.mk (Kd.R_elder' (by (with_reducible repeat (first | apply Kd.R_alloc | apply Kd.R_drewN | apply Kd.R_drew)); exact HO_9.out) (Kd.R_base ho13) hb); have n1_ := Aside0.mk (Kd.R_lower (Kd.R_new' ho13 (Kd.R_lt (by (with_reducible repeat (first | apply Kd.R_alloc | apply Kd.R_drewN | apply Kd.R_drew)); exact HO_9.out))) (below_size (by repeat (first | (with_reducible first | exact HB.out | apply below_alloc | apply pw_below_drewN | apply below_drew1 | refine below_set ?_ GE110.out) | exact HB.out)))); have n2_ := Aside0.mk (blk_below (g := gb110) (o := .cells #[.int .i64 a0_0, .slice A0_1 l0_1.length c0_1] 30 (0, 0)) (by (with_reducible repeat (first | refine blk_drewN ?_ _ | refine blk_drew ?_ | refine blk_alloc ?_ _)); exact BK110.out) hb); have n3_ := Aside0.mk (below_step (by repeat (first | (with_reducible first | exact HB.out | apply below_alloc | apply pw_below_drewN | apply below_drew1 | refine below_set ?_ GE110.out) | exact HB.out)) hb); clear HO_9; clear BK110; clear HB; have HO_9 := n0_; have HO116 := n1_; have BK110 := n2_; have HB := n3_; clear n0_ n1_ n2_ n3_; clear hb ho13))
      go_loopg [12] k1 (fun kq v12 w' => ∃ (x11_2 : List Int) (x12_2 : Int), v12 = .int .i64 x12_2 ∧ Aside0 (spec_l02Ways.l1 kq a2 l3 x9_1 x10_1 x11_2 x12_2 a0_0 l0_1 = some r) ∧ Aside0 (kq ≤ k1) ∧ Aside0 (Kd.R (Kd.int .i64) 2 w' w.heap.size (fun k_ => some k_ ≠ (v115 : Value).ownBlock) u9 x9_1) ∧ Aside0 (Kd.R (Kd.int .i64) 2 w' w.heap.size (fun k_ => some k_ ≠ (u9 : Value).ownBlock) v115 x11_2) ∧ Aside0 (w'.heap[gb110]? = some (.cells #[.int .i64 a0_0, (.slice A0_1 l0_1.length c0_1)] 30 (0, 0))) ∧ Aside0 (Below w.heap.size w w'))
      case atStart => exact ⟨(y114), (0), (by first | rfl | (simp; done) | (simp [*]; done) | (simp; decide +kernel)), H', ⟨Nat.le_refl _⟩, ⟨by (with_reducible repeat (first | apply Kd.R_alloc | apply Kd.R_drewN | apply Kd.R_drew)); exact Kd.R_mono HO_9.out (fun _ hk => hk.2)⟩, ⟨by (with_reducible repeat (first | apply Kd.R_alloc | apply Kd.R_drewN | apply Kd.R_drew)); exact Kd.R_mono HO116.out (fun _ hk => hk.2)⟩, ⟨by (with_reducible repeat (first | refine blk_drewN ?_ _ | refine blk_drew ?_ | refine blk_alloc ?_ _)); exact BK110.out⟩, ⟨by repeat (first | (with_reducible first | exact HB.out | apply below_alloc | apply pw_below_drewN | apply below_drew1 | refine below_set ?_ GE110.out) | exact HB.out)⟩⟩
      case round =>
       clear H'
       try clear c1
       try clear p2
       try clear c3
       try clear c5
       try clear c8
       try clear c8b0
       try clear c9
       try clear c9b0
       try clear c9b1
       try clear c10
       try clear c10b0
       try clear c10b1
       try clear hcz11_0
       try clear hcz11_1
       try clear hfz11_0
       try clear hfz11_1
       try clear p2
       obtain ⟨x11_2, x12_2, rfl, HA, HK2, HO_9, HO_11, BK110, HB⟩ := hrel
       cases gk with
       | zero => exact absurd HA.out (by simp [spec_l02Ways.l1])
       | succ k2 =>
        have H := HA.out
        clear HA
        simp only [spec_l02Ways.l1] at H
        by_cases c14 : x12_2 < (l0_1.length : Int)
        ·rw [if_pos c14] at H
         have c14b0 : decide (x12_2 < (l0_1.length : Int)) = true := decide_eq_true c14
         clear c14
         by_cases c15 : 0 ≤ x12_2
         ·rw [if_pos c15] at H
          have c15b0 : decide (0 ≤ x12_2) = true := decide_eq_true c15
          clear c15
          by_cases c16 : (l3.length : Int) > 0
          ·rw [if_pos c16] at H
           have c16b0 : decide (0 < (l3.length : Int)) = true := decide_eq_true c16
           have c16b1 : decide (0 < l3.length) = true := decide_eq_true (by omega)
           clear c16
           by_cases c17 : 0 ≤ x10_1
           ·rw [if_pos c17] at H
            have c17b0 : decide (0 ≤ x10_1) = true := decide_eq_true c17
            clear c17
            by_cases c18 : x10_1 < (l3.length : Int)
            ·rw [if_pos c18] at H
             have c18b0 : decide (x10_1 < (l3.length : Int)) = true := decide_eq_true c18
             clear c18
             by_cases c19 : (rd l3 x10_1) = ((rd_T77 l0_1 x12_2).f1)
             ·rw [if_pos c19] at H
              have c19b0 : ((rd l3 x10_1) == ((rd_T77 l0_1 x12_2).f1)) = true := beq_iff_eq.mpr c19
              have c19b1 : ((rd l3 x10_1) != ((rd_T77 l0_1 x12_2).f1)) = false := bne_eq_false_iff_eq.mpr c19
              clear c19
              by_cases c20 : 0 ≤ ((rd_T77 l0_1 x12_2).f2)
              ·rw [if_pos c20] at H
               have c20b0 : decide (0 ≤ ((rd_T77 l0_1 x12_2).f2)) = true := decide_eq_true c20
               clear c20
               by_cases c21 : ((rd_T77 l0_1 x12_2).f2) < (x11_2.length : Int)
               ·rw [if_pos c21] at H
                have c21b0 : decide (((rd_T77 l0_1 x12_2).f2) < (x11_2.length : Int)) = true := decide_eq_true c21
                clear c21
                by_cases c22 : 0 ≤ ((rd_T77 l0_1 x12_2).f0)
                ·rw [if_pos c22] at H
                 have c22b0 : decide (0 ≤ ((rd_T77 l0_1 x12_2).f0)) = true := decide_eq_true c22
                 clear c22
                 by_cases c23 : ((rd_T77 l0_1 x12_2).f0) < (x9_1.length : Int)
                 ·rw [if_pos c23] at H
                  have c23b0 : decide (((rd_T77 l0_1 x12_2).f0) < (x9_1.length : Int)) = true := decide_eq_true c23
                  clear c23
                  obtain ⟨ji24, hji24⟩ : ∃ j_ : Int, (mn (wrap64 ((rd x11_2 ((rd_T77 l0_1 x12_2).f2)) + (rd x9_1 ((rd_T77 l0_1 x12_2).f0)))) 1000000000000001) = j_ := ⟨_, rfl⟩
                  replace H : (spec_l02Ways.l1 k2 a2 l3 x9_1 x10_1 (x11_2.set (((rd_T77 l0_1 x12_2).f2) : Int).toNat (ji24)) (wrap64 (x12_2 + 1)) a0_0 l0_1) = some r := by first | (rw [hji24] at H; exact H) | (simp only [hji24] at H ⊢; exact H)
                  have hji24_ : (if 1000000000000001 < (wrap64 ((rd x11_2 ((rd_T77 l0_1 x12_2).f2)) + (rd x9_1 ((rd_T77 l0_1 x12_2).f0)))) then 1000000000000001 else (wrap64 ((rd x11_2 ((rd_T77 l0_1 x12_2).f2)) + (rd x9_1 ((rd_T77 l0_1 x12_2).f0))))) = ji24 := hji24
                  obtain ⟨y122, hy122⟩ : ∃ y_ : List Int, y_ = (x11_2.set (((rd_T77 l0_1 x12_2).f2) : Int).toNat (ji24)) := ⟨_, rfl⟩
                  replace H : (spec_l02Ways.l1 k2 a2 l3 x9_1 x10_1 y122 (wrap64 (x12_2 + 1)) a0_0 l0_1) = some r := by first | (rw [hy122]; with_reducible exact H) | (have H2_ := (Option.bind_some _ _).symm.trans H; rw [hy122]; with_reducible exact H2_) | (have H2_ := (Option.bind_some _ _).symm.trans H; with_reducible exact H2_) | with_reducible exact H | (rw [hy122]; exact H) | exact H
                  have Ny122 := Aside0.mk hy122
                  clear hy122
                  have H' := Aside0.mk H
                  clear H
                  have hcz26_0 : wr.cell? ⟨gb110, 0, none⟩ = some (.int .i64 a0_0) := (blk_cell BK110.out 0).trans rfl
                  have hcz26_1 : wr.cell? ⟨gb110, 1, none⟩ = some (.slice A0_1 l0_1.length c0_1) := (blk_cell BK110.out 1).trans rfl
                  have hfz26_0 := blk_frozen BK110.out 0
                  have hfz26_1 := blk_frozen BK110.out 1
                  have p117 : 0 ≤ (x12_2 : Int) := of_decide_eq_true (by first | (with_reducible assumption) | assumption)
                  have q117 : x12_2 < (l0_1.length : Int) := of_decide_eq_true (by first | (with_reducible assumption) | assumption)
                  obtain ⟨ad117, e117, hx117_0, hx117_1, hx117_2, hx117_3⟩ := at_T77 HR0_1.out x12_2 p117 q117
                  cases e117
                  replace hx117_0 := (HB.out.cell (World.block_lt_of_cell? w _ hx117_0)).trans hx117_0
                  replace hx117_1 := (HB.out.cell (World.block_lt_of_cell? w _ hx117_1)).trans hx117_1
                  replace hx117_2 := (HB.out.cell (World.block_lt_of_cell? w _ hx117_2)).trans hx117_2
                  replace hx117_3 := (HB.out.cell (World.block_lt_of_cell? w _ hx117_3)).trans hx117_3
                  replace p117 := eq_true p117
                  replace q117 := eq_true q117
                  try go_wp2_with (first | ((with_reducible refine gate_dst (N := 13) rfl ?_); refine box_event ?hg (N := 13) ?hd (cs := #[.int .i64 0, .int .i64 0, .int .i64 0, .int .i64 0]) (t := 77) ?hr ?_; (case hd => rfl); (case hg => rfl); (case hr => first | (go_simp; done) | (go_simp; rfl)); intro gb118 hg w27 hbox hb; have n0_ := Aside0.mk (Kd.R_below (by (with_reducible repeat (first | apply Kd.R_alloc | apply Kd.R_drewN | apply Kd.R_drew)); exact HO_9.out) hb); have n1_ := Aside0.mk (Kd.R_below (by (with_reducible repeat (first | apply Kd.R_alloc | apply Kd.R_drewN | apply Kd.R_drew)); exact HO_11.out) hb); have n2_ := Aside0.mk (blk_below (g := gb110) (o := .cells #[.int .i64 a0_0, .slice (some ad117) l0_1.length c0_1] 30 (0, 0)) (by (with_reducible repeat (first | refine blk_drewN ?_ _ | refine blk_drew ?_ | refine blk_alloc ?_ _)); exact BK110.out) hb); have n3_ := Aside0.mk (below_step (by repeat (first | (with_reducible first | exact HB.out | apply below_alloc | apply pw_below_drewN | apply below_drew1 | refine below_set ?_ GE110.out) | exact HB.out)) hb); have n4_ := Aside0.mk (hbox); have n5_ := Aside0.mk ((by rw [hg]; exact (below_size (by repeat (first | (with_reducible first | exact HB.out | apply below_alloc | apply pw_below_drewN | apply below_drew1 | refine below_set ?_ GE110.out) | exact HB.out))) : w.heap.size ≤ gb118)); have n6_ := Aside0.mk ((by rw [hg]; exact (below_size (by repeat (first | (with_reducible first | exact HB.out | apply below_alloc | apply pw_below_drewN | apply below_drew1 | refine below_set ?_ GE110.out) | exact HB.out))) : w.heap.size ≤ gb118)); have n7_ := Aside0.mk ((by rw [hg]; exact Nat.ne_of_lt (blk_lt (g := gb110) (o := .cells #[.int .i64 a0_0, .slice (some ad117) l0_1.length c0_1] 30 (0, 0)) (by (with_reducible repeat (first | refine blk_drewN ?_ _ | refine blk_drew ?_ | refine blk_alloc ?_ _)); exact BK110.out)) : gb110 ≠ gb118)); have n8_ := Aside0.mk ((by rw [hg]; exact Nat.ne_of_gt (blk_lt (g := gb110) (o := .cells #[.int .i64 a0_0, .slice (some ad117) l0_1.length c0_1] 30 (0, 0)) (by (with_reducible repeat (first | refine blk_drewN ?_ _ | refine blk_drew ?_ | refine blk_alloc ?_ _)); exact BK110.out)) : gb118 ≠ gb110)); clear HO_9; clear HO_11; clear BK110; clear HB; have HO_9 := n0_; have HO_11 := n1_; have BK110 := n2_; have HB := n3_; have BK118 := n4_; have GW118 := n5_; have GE118 := n6_; have NB110_118 := n7_; have NB118_110 := n8_; clear n0_ n1_ n2_ n3_ n4_ n5_ n6_ n7_ n8_; clear hb hbox hg; have hnb28 := NB118_110.out; have hnc28 := NB110_118.out; have hcz29_0 : w27.cell? ⟨gb118, 0, none⟩ = some (.int .i64 0) := (blk_cell BK118.out 0).trans rfl; have hcz29_1 : w27.cell? ⟨gb118, 1, none⟩ = some (.int .i64 0) := (blk_cell BK118.out 1).trans rfl; have hcz29_2 : w27.cell? ⟨gb118, 2, none⟩ = some (.int .i64 0) := (blk_cell BK118.out 2).trans rfl; have hcz29_3 : w27.cell? ⟨gb118, 3, none⟩ = some (.int .i64 0) := (blk_cell BK118.out 3).trans rfl; have hfz29_0 := blk_frozen BK118.out 0; have hfz29_1 := blk_frozen BK118.out 1; have hfz29_2 := blk_frozen BK118.out 2; have hfz29_3 := blk_frozen BK118.out 3))
                  have n0_ : Aside0 (Kd.R (Kd.int .i64) 2 ((((w27.setCell ⟨gb118, 0, none⟩ (.int .i64 ((rd_T77 l0_1 x12_2).f0))).setCell ⟨gb118, 1, none⟩ (.int .i64 ((rd_T77 l0_1 x12_2).f1))).setCell ⟨gb118, 2, none⟩ (.int .i64 ((rd_T77 l0_1 x12_2).f2))).setCell ⟨gb118, 3, none⟩ (.int .i64 ((rd_T77 l0_1 x12_2).f3))) w.heap.size (fun k_ => some k_ ≠ (v115 : Value).ownBlock) u9 x9_1) := ⟨by (with_reducible repeat (first | apply Kd.R_alloc | apply Kd.R_drewN | apply Kd.R_drew)); exact Kd.R_mono (Kd.R_far (p := ⟨gb118, 3, none⟩) (Kd.R_far (p := ⟨gb118, 2, none⟩) (Kd.R_far (p := ⟨gb118, 1, none⟩) (Kd.R_far (p := ⟨gb118, 0, none⟩) (Kd.R_types HO_9.out BK118.out (by decide)) (fun _ hk => hk.2) (.int .i64 ((rd_T77 l0_1 x12_2).f0))) (fun _ hk => hk.2) (.int .i64 ((rd_T77 l0_1 x12_2).f1))) (fun _ hk => hk.2) (.int .i64 ((rd_T77 l0_1 x12_2).f2))) (fun _ hk => hk.2) (.int .i64 ((rd_T77 l0_1 x12_2).f3))) (fun _ hk => hk.1)⟩
                  have n1_ : Aside0 (Kd.R (Kd.int .i64) 2 ((((w27.setCell ⟨gb118, 0, none⟩ (.int .i64 ((rd_T77 l0_1 x12_2).f0))).setCell ⟨gb118, 1, none⟩ (.int .i64 ((rd_T77 l0_1 x12_2).f1))).setCell ⟨gb118, 2, none⟩ (.int .i64 ((rd_T77 l0_1 x12_2).f2))).setCell ⟨gb118, 3, none⟩ (.int .i64 ((rd_T77 l0_1 x12_2).f3))) w.heap.size (fun k_ => some k_ ≠ (u9 : Value).ownBlock) v115 x11_2) := ⟨by (with_reducible repeat (first | apply Kd.R_alloc | apply Kd.R_drewN | apply Kd.R_drew)); exact Kd.R_mono (Kd.R_far (p := ⟨gb118, 3, none⟩) (Kd.R_far (p := ⟨gb118, 2, none⟩) (Kd.R_far (p := ⟨gb118, 1, none⟩) (Kd.R_far (p := ⟨gb118, 0, none⟩) (Kd.R_types HO_11.out BK118.out (by decide)) (fun _ hk => hk.2) (.int .i64 ((rd_T77 l0_1 x12_2).f0))) (fun _ hk => hk.2) (.int .i64 ((rd_T77 l0_1 x12_2).f1))) (fun _ hk => hk.2) (.int .i64 ((rd_T77 l0_1 x12_2).f2))) (fun _ hk => hk.2) (.int .i64 ((rd_T77 l0_1 x12_2).f3))) (fun _ hk => hk.1)⟩
                  have n2_ : Aside0 (((((w27.setCell ⟨gb118, 0, none⟩ (.int .i64 ((rd_T77 l0_1 x12_2).f0))).setCell ⟨gb118, 1, none⟩ (.int .i64 ((rd_T77 l0_1 x12_2).f1))).setCell ⟨gb118, 2, none⟩ (.int .i64 ((rd_T77 l0_1 x12_2).f2))).setCell ⟨gb118, 3, none⟩ (.int .i64 ((rd_T77 l0_1 x12_2).f3))).heap[gb110]? = some (.cells #[.int .i64 a0_0, .slice (some ad117) l0_1.length c0_1] 30 (0, 0))) := ⟨by (with_reducible repeat (first | refine blk_drewN ?_ _ | refine blk_drew ?_ | refine blk_alloc ?_ _)); refine blk_far ?_ NB110_118.out _; (with_reducible repeat (first | refine blk_drewN ?_ _ | refine blk_drew ?_ | refine blk_alloc ?_ _)); refine blk_far ?_ NB110_118.out _; (with_reducible repeat (first | refine blk_drewN ?_ _ | refine blk_drew ?_ | refine blk_alloc ?_ _)); refine blk_far ?_ NB110_118.out _; (with_reducible repeat (first | refine blk_drewN ?_ _ | refine blk_drew ?_ | refine blk_alloc ?_ _)); refine blk_far ?_ NB110_118.out _; (with_reducible repeat (first | refine blk_drewN ?_ _ | refine blk_drew ?_ | refine blk_alloc ?_ _)); exact BK110.out⟩
                  have n3_ : Aside0 (((((w27.setCell ⟨gb118, 0, none⟩ (.int .i64 ((rd_T77 l0_1 x12_2).f0))).setCell ⟨gb118, 1, none⟩ (.int .i64 ((rd_T77 l0_1 x12_2).f1))).setCell ⟨gb118, 2, none⟩ (.int .i64 ((rd_T77 l0_1 x12_2).f2))).setCell ⟨gb118, 3, none⟩ (.int .i64 ((rd_T77 l0_1 x12_2).f3))).heap[gb118]? = some (.cells #[.int .i64 ((rd_T77 l0_1 x12_2).f0), .int .i64 ((rd_T77 l0_1 x12_2).f1), .int .i64 ((rd_T77 l0_1 x12_2).f2), .int .i64 ((rd_T77 l0_1 x12_2).f3)] 77 (0, 0))) := ⟨by (with_reducible repeat (first | refine blk_drewN ?_ _ | refine blk_drew ?_ | refine blk_alloc ?_ _)); refine blk_put (cs := #[.int .i64 ((rd_T77 l0_1 x12_2).f0), .int .i64 ((rd_T77 l0_1 x12_2).f1), .int .i64 ((rd_T77 l0_1 x12_2).f2), .int .i64 0]) ?_ 3 _ rfl; (with_reducible repeat (first | refine blk_drewN ?_ _ | refine blk_drew ?_ | refine blk_alloc ?_ _)); refine blk_put (cs := #[.int .i64 ((rd_T77 l0_1 x12_2).f0), .int .i64 ((rd_T77 l0_1 x12_2).f1), .int .i64 0, .int .i64 0]) ?_ 2 _ rfl; (with_reducible repeat (first | refine blk_drewN ?_ _ | refine blk_drew ?_ | refine blk_alloc ?_ _)); refine blk_put (cs := #[.int .i64 ((rd_T77 l0_1 x12_2).f0), .int .i64 0, .int .i64 0, .int .i64 0]) ?_ 1 _ rfl; (with_reducible repeat (first | refine blk_drewN ?_ _ | refine blk_drew ?_ | refine blk_alloc ?_ _)); refine blk_put (cs := #[.int .i64 0, .int .i64 0, .int .i64 0, .int .i64 0]) ?_ 0 _ rfl; (with_reducible repeat (first | refine blk_drewN ?_ _ | refine blk_drew ?_ | refine blk_alloc ?_ _)); exact BK118.out⟩
                  have n4_ : Aside0 (Below w.heap.size w ((((w27.setCell ⟨gb118, 0, none⟩ (.int .i64 ((rd_T77 l0_1 x12_2).f0))).setCell ⟨gb118, 1, none⟩ (.int .i64 ((rd_T77 l0_1 x12_2).f1))).setCell ⟨gb118, 2, none⟩ (.int .i64 ((rd_T77 l0_1 x12_2).f2))).setCell ⟨gb118, 3, none⟩ (.int .i64 ((rd_T77 l0_1 x12_2).f3)))) := ⟨by repeat (first | (with_reducible first | exact HB.out | apply below_alloc | apply pw_below_drewN | apply below_drew1 | refine below_set ?_ GE110.out | refine below_set ?_ GE118.out) | exact HB.out)⟩
                  (try clear HO_9)
                  (try clear HO_11)
                  (try clear BK110)
                  (try clear BK118)
                  (try clear HB)
                  generalize ((((w27.setCell ⟨gb118, 0, none⟩ (.int .i64 ((rd_T77 l0_1 x12_2).f0))).setCell ⟨gb118, 1, none⟩ (.int .i64 ((rd_T77 l0_1 x12_2).f1))).setCell ⟨gb118, 2, none⟩ (.int .i64 ((rd_T77 l0_1 x12_2).f2))).setCell ⟨gb118, 3, none⟩ (.int .i64 ((rd_T77 l0_1 x12_2).f3))) = w30 at n0_ n1_ n2_ n3_ n4_ ⊢
                  have HO_9 := n0_
                  have HO_11 := n1_
                  have BK110 := n2_
                  have BK118 := n3_
                  have HB := n4_
                  clear n0_ n1_ n2_ n3_ n4_
                  have n0_ := Aside0.mk (Kd.R_drew HO_9.out)
                  have n1_ := Aside0.mk (Kd.R_drew HO_11.out)
                  have n2_ := Aside0.mk (blk_drew BK110.out)
                  have n3_ := Aside0.mk (blk_drew BK118.out)
                  have n4_ := Aside0.mk (below_drew1 HB.out)
                  clear HO_9
                  clear HO_11
                  clear BK110
                  clear BK118
                  clear HB
                  have HO_9 := n0_
                  have HO_11 := n1_
                  have BK110 := n2_
                  have BK118 := n3_
                  have HB := n4_
                  clear n0_ n1_ n2_ n3_ n4_
                  have p119 : 0 ≤ (x10_1 : Int) := of_decide_eq_true (by first | (with_reducible assumption) | assumption)
                  have q119 : x10_1 < (l3.length : Int) := of_decide_eq_true (by first | (with_reducible assumption) | assumption)
                  obtain ⟨ad119, e119, hx119_0⟩ := Kd.at_int HR3.out x10_1 p119 q119
                  have hw119_0 := hx119_0
                  cases e119
                  replace hx119_0 := (HB.out.cell (World.block_lt_of_cell? w _ hx119_0)).trans hx119_0
                  replace p119 := eq_true p119
                  replace q119 := eq_true q119
                  refine start_ (n := 12) (S := fun w' => w'.cell? ⟨gb118, 0, none⟩ = some (.int .i64 ((rd_T77 l0_1 x12_2).f0)) ∧ w'.cell? ⟨gb118, 1, none⟩ = some (.int .i64 ((rd_T77 l0_1 x12_2).f1)) ∧ w'.cell? ⟨gb118, 2, none⟩ = some (.int .i64 ((rd_T77 l0_1 x12_2).f2)) ∧ w'.cell? ⟨gb118, 3, none⟩ = some (.int .i64 ((rd_T77 l0_1 x12_2).f3)) ∧ w'.cell? (ad119.add (x10_1).toNat) = some (.int .i64 (rd l3 x10_1))) (ds := []) #[false, false, false, false, false, false, false, false, false, false, false, false] (by kernel_rfl) rfl rfl ⟨(blk_cell BK118.out 0).trans rfl, (blk_cell BK118.out 1).trans rfl, (blk_cell BK118.out 2).trans rfl, (blk_cell BK118.out 3).trans rfl, ((HB.out.cell (World.block_lt_of_cell? w _ hw119_0)).trans hw119_0)⟩ (fun hHeld => ?_); refine with_tabW spec_l02Ways.tab10 spec_l02Ways.bits10 (fun HT_ HW_ => ?_)
                  generalize w30.drew = w31 at HO_9 HO_11 BK110 BK118 HB hx119_0 hHeld ⊢
                  refine pure_ (i := 0) (N := some 36) (v := ?_) (a' := ?_) #[true, false, false, false, false, false, false, false, false, false, false, false] rfl rfl (any_of HT_.out (by kernel_rfl)) (fun _ _ _ h => h) (Or.inl ⟨by rfl, ?_⟩) ?_ ?_
                  rotate_left
                  ·intro w'
                   go_simp
                   with_reducible rfl
                  rotate_left
                  ·simp only [Act.put, List.setIfInBounds_toArray, List.set_cons_zero, List.set_cons_succ, i64_w, i32_w]
                   rfl
                  refine pure_ (i := 1) (N := some 37) (v := ?_) (a' := ?_) #[true, true, false, false, false, false, false, false, false, false, false, false] rfl rfl (any_of HT_.out (by kernel_rfl)) (fun _ _ _ h => h) (Or.inl ⟨by rfl, ?_⟩) ?_ ?_
                  rotate_left
                  ·intro w'
                   go_simp
                   with_reducible rfl
                  rotate_left
                  ·simp only [Act.put, List.setIfInBounds_toArray, List.set_cons_zero, List.set_cons_succ, i64_w, i32_w]
                   rfl
                  refine pure_ (i := 2) (N := some 38) (v := ?_) (a' := ?_) #[true, true, true, false, false, false, false, false, false, false, false, false] rfl rfl (any_of HT_.out (by kernel_rfl)) (fun _ _ _ h => h) (Or.inl ⟨by rfl, ?_⟩) ?_ ?_
                  rotate_left
                  ·intro w'
                   go_simp
                   with_reducible rfl
                  rotate_left
                  ·simp only [Act.put, List.setIfInBounds_toArray, List.set_cons_zero, List.set_cons_succ, i64_w, i32_w]
                   rfl
                  refine pure_ (i := 3) (N := some 39) (v := ?_) (a' := ?_) #[true, true, true, true, false, false, false, false, false, false, false, false] rfl rfl (any_of HT_.out (by kernel_rfl)) (fun _ _ _ h => h) (Or.inl ⟨by rfl, ?_⟩) ?_ ?_
                  rotate_left
                  ·intro w'
                   go_simp
                   with_reducible rfl
                  rotate_left
                  ·simp only [Act.put, List.setIfInBounds_toArray, List.set_cons_zero, List.set_cons_succ, i64_w, i32_w]
                   rfl
                  refine pure_ (i := 4) (N := some 40) (v := ?_) (a' := ?_) #[true, true, true, true, true, false, false, false, false, false, false, false] rfl rfl (any_of HT_.out (by kernel_rfl)) (fun _ _ _ h => h) (Or.inl ⟨by rfl, ?_⟩) ?_ ?_
                  rotate_left
                  ·intro w'
                   go_simp
                   with_reducible rfl
                  rotate_left
                  ·simp only [Act.put, List.setIfInBounds_toArray, List.set_cons_zero, List.set_cons_succ, i64_w, i32_w]
                   rfl
                  refine pure_ (i := 5) (N := some 41) (v := ?_) (a' := ?_) #[true, true, true, true, true, true, false, false, false, false, false, false] rfl rfl (any_of HT_.out (by kernel_rfl)) (fun _ _ _ h => h) (Or.inl ⟨by rfl, ?_⟩) ?_ ?_
                  rotate_left
                  ·intro w'
                   go_simp
                   with_reducible rfl
                  rotate_left
                  ·simp only [Act.put, List.setIfInBounds_toArray, List.set_cons_zero, List.set_cons_succ, i64_w, i32_w]
                   rfl
                  refine pure_ (i := 6) (N := some 42) (v := ?_) (a' := ?_) #[true, true, true, true, true, true, true, false, false, false, false, false] rfl rfl (any_of HT_.out (by kernel_rfl)) (fun _ _ _ h => h) (Or.inl ⟨by rfl, ?_⟩) ?_ ?_
                  rotate_left
                  ·intro w'
                   go_simp
                   with_reducible rfl
                  rotate_left
                  ·simp only [Act.put, List.setIfInBounds_toArray, List.set_cons_zero, List.set_cons_succ, i64_w, i32_w]
                   rfl
                  refine pure_ (i := 8) (N := some 44) (v := ?_) (a' := ?_) #[true, true, true, true, true, true, true, false, true, false, false, false] rfl rfl (any_of HT_.out (by kernel_rfl)) (fun _ _ _ h => h) (Or.inl ⟨by rfl, ?_⟩) ?_ ?_
                  rotate_left
                  ·intro w'
                   go_simp
                   with_reducible rfl
                  rotate_left
                  ·simp only [Act.put, List.setIfInBounds_toArray, List.set_cons_zero, List.set_cons_succ, i64_w, i32_w]
                   rfl
                  refine take_ (i := 7) (N := some 43) (v := ?_) (a' := ?_) #[true, true, true, true, true, true, true, true, true, false, false, false] rfl rfl (take_ofW HT_.out HW_.out (by kernel_rfl)) (fun _ _ _ h => h) (Or.inl ⟨by rfl, ?_⟩) hHeld ?_ ?_
                  rotate_left
                  ·rintro w' ⟨s0, s1, s2, s3, s4⟩
                   go_simp
                   with_reducible rfl
                  rotate_left
                  ·simp only [Act.put, List.setIfInBounds_toArray, List.set_cons_zero, List.set_cons_succ, i64_w, i32_w]
                   rfl
                  refine take_ (i := 9) (N := some 45) (v := ?_) (a' := ?_) #[true, true, true, true, true, true, true, true, true, true, false, false] rfl rfl (take_ofW HT_.out HW_.out (by kernel_rfl)) (fun _ _ _ h => h) (Or.inl ⟨by rfl, ?_⟩) hHeld ?_ ?_
                  rotate_left
                  ·rintro w' ⟨s0, s1, s2, s3, s4⟩
                   go_simp
                   with_reducible rfl
                  rotate_left
                  ·simp only [Act.put, List.setIfInBounds_toArray, List.set_cons_zero, List.set_cons_succ, i64_w, i32_w]
                   rfl
                  refine pure_ (i := 10) (N := some 46) (v := ?_) (a' := ?_) #[true, true, true, true, true, true, true, true, true, true, true, false] rfl rfl (any_of HT_.out (by kernel_rfl)) (fun _ _ _ h => h) (Or.inl ⟨by rfl, ?_⟩) ?_ ?_
                  rotate_left
                  ·intro w'
                   go_simp
                   with_reducible rfl
                  rotate_left
                  ·simp only [Act.put, List.setIfInBounds_toArray, List.set_cons_zero, List.set_cons_succ, i64_w, i32_w]
                   rfl
                  refine pure_ (i := 11) (N := some 47) (v := ?_) (a' := ?_) #[true, true, true, true, true, true, true, true, true, true, true, true] rfl rfl (any_of HT_.out (by kernel_rfl)) (fun _ _ _ h => h) (Or.inl ⟨by rfl, ?_⟩) ?_ ?_
                  rotate_left
                  ·intro w'
                   go_simp
                   with_reducible rfl
                  rotate_left
                  ·simp only [Act.put, List.setIfInBounds_toArray, List.set_cons_zero, List.set_cons_succ, i64_w, i32_w]
                   rfl
                  refine done_ (done_of HT_.out (by kernel_rfl)) ?_
                  try go_wp2
                  have n0_ := Aside0.mk (Kd.R_drew HO_9.out)
                  have n1_ := Aside0.mk (Kd.R_drew HO_11.out)
                  have n2_ := Aside0.mk (blk_drew BK110.out)
                  have n3_ := Aside0.mk (blk_drew BK118.out)
                  have n4_ := Aside0.mk (below_drew1 HB.out)
                  clear HO_9
                  clear HO_11
                  clear BK110
                  clear BK118
                  clear HB
                  have HO_9 := n0_
                  have HO_11 := n1_
                  have BK110 := n2_
                  have BK118 := n3_
                  have HB := n4_
                  clear n0_ n1_ n2_ n3_ n4_
                  obtain ⟨Ao33, co33, eo33⟩ := Kd.R_slice HO_11.out
                  (first | subst eo33 | (injection eo33 with f1_ f2_ f3_; have f4_ := f1_.symm; have f5_ := f3_.symm; clear f1_ f2_ f3_; subst f4_; subst f5_))
                  have p120 : 0 ≤ (((rd_T77 l0_1 x12_2).f2) : Int) := of_decide_eq_true (by first | (with_reducible assumption) | assumption)
                  have q120 : ((rd_T77 l0_1 x12_2).f2) < (x11_2.length : Int) := of_decide_eq_true (by first | (with_reducible assumption) | assumption)
                  obtain ⟨ad120, e120, hx120_0⟩ := Kd.at_int (Kd.R_reads' HO_11.out).2.2 ((rd_T77 l0_1 x12_2).f2) p120 q120
                  cases e120
                  replace p120 := eq_true p120
                  replace q120 := eq_true q120
                  obtain ⟨Ao34, co34, eo34⟩ := Kd.R_slice HO_9.out
                  (first | subst eo34 | (injection eo34 with f1_ f2_ f3_; have f4_ := f1_.symm; have f5_ := f3_.symm; clear f1_ f2_ f3_; subst f4_; subst f5_))
                  have p121 : 0 ≤ (((rd_T77 l0_1 x12_2).f0) : Int) := of_decide_eq_true (by first | (with_reducible assumption) | assumption)
                  have q121 : ((rd_T77 l0_1 x12_2).f0) < (x9_1.length : Int) := of_decide_eq_true (by first | (with_reducible assumption) | assumption)
                  obtain ⟨ad121, e121, hx121_0⟩ := Kd.at_int (Kd.R_reads' HO_9.out).2.2 ((rd_T77 l0_1 x12_2).f0) p121 q121
                  cases e121
                  replace p121 := eq_true p121
                  replace q121 := eq_true q121
                  have p25 : 0 ≤ (((rd_T77 l0_1 x12_2).f2) : Int) := of_decide_eq_true (by first | (with_reducible assumption) | assumption)
                  have q25 : (((rd_T77 l0_1 x12_2).f2) : Int) < ((x11_2.length : Int) : Int) := of_decide_eq_true (by first | (with_reducible assumption) | assumption)
                  obtain ⟨go25, co25, eo25, gb25, gl25, cl25, HG25⟩ := Kd.R_form HO_11.out (by omega)
                  (first | cases eo25 | (injection eo25 with ea_ en_ ec_; (first | subst ea_ | (injection ea_ with ea_; subst ea_)); subst ec_; clear en_))
                  have GB25 := Aside0.mk gb25
                  have GG25 := Aside0.mk HG25
                  clear gb25 gl25 HG25
                  (first | simp only [add_plain] at hx120_0 | skip)
                  obtain ⟨hx25_0, hf25_0⟩ := Kd.R_celln 0 HO_11.out (((rd_T77 l0_1 x12_2).f2) : Int) p25 q25
                  replace p25 := eq_true p25
                  replace q25 := eq_true q25
                  have HP35 := Kd.R_putn HO_11.out (((rd_T77 l0_1 x12_2).f2) : Int) ji24
                  rw [← Ny122.out] at HP35
                  have HQ35 := Aside0.mk HP35
                  clear HP35
                  refine start_ (n := 17) (S := fun w' => w'.cell? ⟨gb118, 0, none⟩ = some (.int .i64 ((rd_T77 l0_1 x12_2).f0)) ∧ w'.cell? ⟨gb118, 1, none⟩ = some (.int .i64 ((rd_T77 l0_1 x12_2).f1)) ∧ w'.cell? ⟨gb118, 2, none⟩ = some (.int .i64 ((rd_T77 l0_1 x12_2).f2)) ∧ w'.cell? ⟨gb118, 3, none⟩ = some (.int .i64 ((rd_T77 l0_1 x12_2).f3)) ∧ w'.cell? ⟨go25, (((rd_T77 l0_1 x12_2).f2)).toNat, none⟩ = some (.int .i64 (rd x11_2 ((rd_T77 l0_1 x12_2).f2))) ∧ w'.cell? (ad121.add (((rd_T77 l0_1 x12_2).f0)).toNat) = some (.int .i64 (rd x9_1 ((rd_T77 l0_1 x12_2).f0)))) (ds := [16]) #[false, false, false, false, false, false, false, false, false, false, false, false, false, false, false, false, false] (by kernel_rfl) rfl rfl ⟨(blk_cell BK118.out 0).trans rfl, (blk_cell BK118.out 1).trans rfl, (blk_cell BK118.out 2).trans rfl, (blk_cell BK118.out 3).trans rfl, hx120_0, hx121_0⟩ (fun hHeld => ?_); refine with_tabW spec_l02Ways.tab11 spec_l02Ways.bits11 (fun HT_ HW_ => ?_)
                  generalize w31.drew = w32 at HO_9 HO_11 BK110 BK118 HB GG25 HQ35 hf25_0 hx120_0 hx121_0 hx25_0 hHeld ⊢
                  refine pure_ (i := 0) (N := some 48) (v := ?_) (a' := ?_) #[true, false, false, false, false, false, false, false, false, false, false, false, false, false, false, false, false] rfl rfl (any_of HT_.out (by kernel_rfl)) (fun _ _ _ h => h) (Or.inl ⟨by rfl, ?_⟩) ?_ ?_
                  rotate_left
                  ·intro w'
                   go_simp
                   with_reducible rfl
                  rotate_left
                  ·simp only [Act.put, List.setIfInBounds_toArray, List.set_cons_zero, List.set_cons_succ, i64_w, i32_w]
                   rfl
                  refine pure_ (i := 1) (N := some 49) (v := ?_) (a' := ?_) #[true, true, false, false, false, false, false, false, false, false, false, false, false, false, false, false, false] rfl rfl (any_of HT_.out (by kernel_rfl)) (fun _ _ _ h => h) (Or.inl ⟨by rfl, ?_⟩) ?_ ?_
                  rotate_left
                  ·intro w'
                   go_simp
                   with_reducible rfl
                  rotate_left
                  ·simp only [Act.put, List.setIfInBounds_toArray, List.set_cons_zero, List.set_cons_succ, i64_w, i32_w]
                   rfl
                  refine pure_ (i := 3) (N := some 51) (v := ?_) (a' := ?_) #[true, true, false, true, false, false, false, false, false, false, false, false, false, false, false, false, false] rfl rfl (any_of HT_.out (by kernel_rfl)) (fun _ _ _ h => h) (Or.inl ⟨by rfl, ?_⟩) ?_ ?_
                  rotate_left
                  ·intro w'
                   go_simp
                   with_reducible rfl
                  rotate_left
                  ·simp only [Act.put, List.setIfInBounds_toArray, List.set_cons_zero, List.set_cons_succ, i64_w, i32_w]
                   rfl
                  refine pure_ (i := 4) (N := some 52) (v := ?_) (a' := ?_) #[true, true, false, true, true, false, false, false, false, false, false, false, false, false, false, false, false] rfl rfl (any_of HT_.out (by kernel_rfl)) (fun _ _ _ h => h) (Or.inl ⟨by rfl, ?_⟩) ?_ ?_
                  rotate_left
                  ·intro w'
                   go_simp
                   with_reducible rfl
                  rotate_left
                  ·simp only [Act.put, List.setIfInBounds_toArray, List.set_cons_zero, List.set_cons_succ, i64_w, i32_w]
                   rfl
                  refine pure_ (i := 8) (N := some 56) (v := ?_) (a' := ?_) #[true, true, false, true, true, false, false, false, true, false, false, false, false, false, false, false, false] rfl rfl (any_of HT_.out (by kernel_rfl)) (fun _ _ _ h => h) (Or.inl ⟨by rfl, ?_⟩) ?_ ?_
                  rotate_left
                  ·intro w'
                   go_simp
                   with_reducible rfl
                  rotate_left
                  ·simp only [Act.put, List.setIfInBounds_toArray, List.set_cons_zero, List.set_cons_succ, i64_w, i32_w]
                   rfl
                  refine pure_ (i := 9) (N := some 57) (v := ?_) (a' := ?_) #[true, true, false, true, true, false, false, false, true, true, false, false, false, false, false, false, false] rfl rfl (any_of HT_.out (by kernel_rfl)) (fun _ _ _ h => h) (Or.inl ⟨by rfl, ?_⟩) ?_ ?_
                  rotate_left
                  ·intro w'
                   go_simp
                   with_reducible rfl
                  rotate_left
                  ·simp only [Act.put, List.setIfInBounds_toArray, List.set_cons_zero, List.set_cons_succ, i64_w, i32_w]
                   rfl
                  refine take_ (i := 2) (N := some 50) (v := ?_) (a' := ?_) #[true, true, true, true, true, false, false, false, true, true, false, false, false, false, false, false, false] rfl rfl (take_ofW HT_.out HW_.out (by kernel_rfl)) (fun _ _ _ h => h) (Or.inl ⟨by rfl, ?_⟩) hHeld ?_ ?_
                  rotate_left
                  ·rintro w' ⟨s0, s1, s2, s3, s4, s5⟩
                   go_simp
                   with_reducible rfl
                  rotate_left
                  ·simp only [Act.put, List.setIfInBounds_toArray, List.set_cons_zero, List.set_cons_succ, i64_w, i32_w]
                   rfl
                  refine take_ (i := 5) (N := some 53) (v := ?_) (a' := ?_) #[true, true, true, true, true, true, false, false, true, true, false, false, false, false, false, false, false] rfl rfl (take_ofW HT_.out HW_.out (by kernel_rfl)) (fun _ _ _ h => h) (Or.inl ⟨by rfl, ?_⟩) hHeld ?_ ?_
                  rotate_left
                  ·rintro w' ⟨s0, s1, s2, s3, s4, s5⟩
                   go_simp
                   with_reducible rfl
                  rotate_left
                  ·simp only [Act.put, List.setIfInBounds_toArray, List.set_cons_zero, List.set_cons_succ, i64_w, i32_w]
                   rfl
                  refine pure_ (i := 6) (N := some 54) (v := ?_) (a' := ?_) #[true, true, true, true, true, true, true, false, true, true, false, false, false, false, false, false, false] rfl rfl (any_of HT_.out (by kernel_rfl)) (fun _ _ _ h => h) (Or.inl ⟨by rfl, ?_⟩) ?_ ?_
                  rotate_left
                  ·intro w'
                   go_simp
                   with_reducible rfl
                  rotate_left
                  ·simp only [Act.put, List.setIfInBounds_toArray, List.set_cons_zero, List.set_cons_succ, i64_w, i32_w]
                   rfl
                  refine take_ (i := 7) (N := some 55) (v := ?_) (a' := ?_) #[true, true, true, true, true, true, true, true, true, true, false, false, false, false, false, false, false] rfl rfl (take_ofW HT_.out HW_.out (by kernel_rfl)) (fun _ _ _ h => h) (Or.inl ⟨by rfl, ?_⟩) hHeld ?_ ?_
                  rotate_left
                  ·rintro w' ⟨s0, s1, s2, s3, s4, s5⟩
                   go_simp
                   with_reducible rfl
                  rotate_left
                  ·simp only [Act.put, List.setIfInBounds_toArray, List.set_cons_zero, List.set_cons_succ, i64_w, i32_w]
                   rfl
                  refine take_ (i := 10) (N := some 58) (v := ?_) (a' := ?_) #[true, true, true, true, true, true, true, true, true, true, true, false, false, false, false, false, false] rfl rfl (take_ofW HT_.out HW_.out (by kernel_rfl)) (fun _ _ _ h => h) (Or.inl ⟨by rfl, ?_⟩) hHeld ?_ ?_
                  rotate_left
                  ·rintro w' ⟨s0, s1, s2, s3, s4, s5⟩
                   go_simp
                   with_reducible rfl
                  rotate_left
                  ·simp only [Act.put, List.setIfInBounds_toArray, List.set_cons_zero, List.set_cons_succ, i64_w, i32_w]
                   rfl
                  refine pure_ (i := 11) (N := some 59) (v := ?_) (a' := ?_) #[true, true, true, true, true, true, true, true, true, true, true, true, false, false, false, false, false] rfl rfl (any_of HT_.out (by kernel_rfl)) (fun _ _ _ h => h) (Or.inl ⟨by rfl, ?_⟩) ?_ ?_
                  rotate_left
                  ·intro w'
                   go_simp
                   with_reducible rfl
                  rotate_left
                  ·simp only [Act.put, List.setIfInBounds_toArray, List.set_cons_zero, List.set_cons_succ, i64_w, i32_w]
                   rfl
                  refine take_ (i := 12) (N := some 60) (v := ?_) (a' := ?_) #[true, true, true, true, true, true, true, true, true, true, true, true, true, false, false, false, false] rfl rfl (take_ofW HT_.out HW_.out (by kernel_rfl)) (fun _ _ _ h => h) (Or.inl ⟨by rfl, ?_⟩) hHeld ?_ ?_
                  rotate_left
                  ·rintro w' ⟨s0, s1, s2, s3, s4, s5⟩
                   go_simp
                   with_reducible rfl
                  rotate_left
                  ·simp only [Act.put, List.setIfInBounds_toArray, List.set_cons_zero, List.set_cons_succ, i64_w, i32_w]
                   rfl
                  refine pure_ (i := 13) (N := some 61) (v := ?_) (a' := ?_) #[true, true, true, true, true, true, true, true, true, true, true, true, true, true, false, false, false] rfl rfl (any_of HT_.out (by kernel_rfl)) (fun _ _ _ h => h) (Or.inl ⟨by rfl, ?_⟩) ?_ ?_
                  rotate_left
                  ·intro w'
                   go_simp
                   with_reducible rfl
                  rotate_left
                  ·simp only [Act.put, List.setIfInBounds_toArray, List.set_cons_zero, List.set_cons_succ, i64_w, i32_w]
                   rfl
                  refine pure_ (i := 14) (N := some 62) (v := ?_) (a' := ?_) #[true, true, true, true, true, true, true, true, true, true, true, true, true, true, true, false, false] rfl rfl (any_of HT_.out (by kernel_rfl)) (fun _ _ _ h => h) (Or.inl ⟨by rfl, ?_⟩) ?_ ?_
                  rotate_left
                  ·intro w'
                   go_simp
                   with_reducible rfl
                  rotate_left
                  ·simp only [Act.put, List.setIfInBounds_toArray, List.set_cons_zero, List.set_cons_succ, i64_w, i32_w]
                   rfl
                  refine pure_ (i := 15) (N := some 63) (v := ?_) (a' := ?_) #[true, true, true, true, true, true, true, true, true, true, true, true, true, true, true, true, false] rfl rfl (any_of HT_.out (by kernel_rfl)) (fun _ _ _ h => h) (Or.inl ⟨by rfl, ?_⟩) ?_ ?_
                  rotate_left
                  ·intro w'
                   go_simp
                   with_reducible rfl
                  rotate_left
                  ·simp only [Act.put, List.setIfInBounds_toArray, List.set_cons_zero, List.set_cons_succ, i64_w, i32_w]
                   rfl
                  refine last_ (i := 16) (N := none) #[true, true, true, true, true, true, true, true, true, true, true, true, true, true, true, true, true] rfl rfl (one_of HT_.out (by kernel_rfl)) (by decide) (fun K hK => ?_)
                  refine skip_ (w1 := ?_) (by rfl) rfl ?_ ?_
                  rotate_left
                  ·go_simp
                   rfl
                  refine hK.out _ _ ?_
                  clear hK K
                  refine done_ (done_of HT_.out (by kernel_rfl)) ?_
                  try go_wp2
                  go_roundg k2
                  case measure => have := HK1.out; have := HK2.out; omega
                  case rel => exact ⟨(y122), (wrap64 (x12_2 + 1)), (by first | rfl | (simp; done) | (simp [*]; done) | (simp; decide +kernel)), H', ⟨by have := HK1.out; have := HK2.out; omega⟩, ⟨by (with_reducible repeat (first | apply Kd.R_alloc | apply Kd.R_drewN | apply Kd.R_drew)); exact Kd.R_mono (Kd.R_far (p := ⟨go25, (((rd_T77 l0_1 x12_2).f2) : Int).toNat, none⟩) (Kd.R_mono HO_9.out (fun k_ hk => (⟨hk, fun e_ => hk (by rw [e_]; rfl)⟩ : _ ∧ k_ ≠ go25))) (fun _ hk => hk.2) (.int .i64 ji24)) (fun _ hk => hk.1)⟩, ⟨by (with_reducible repeat (first | apply Kd.R_alloc | apply Kd.R_drewN | apply Kd.R_drew)); exact HQ35.out⟩, ⟨by (with_reducible repeat (first | refine blk_drewN ?_ _ | refine blk_drew ?_ | refine blk_alloc ?_ _)); refine blk_far ?_ (by have h_ := Kd.R_ne HO_11.out BK110.out (by decide); intro e_; exact h_ (by rw [e_]; rfl)) _; (with_reducible repeat (first | refine blk_drewN ?_ _ | refine blk_drew ?_ | refine blk_alloc ?_ _)); exact BK110.out⟩, ⟨by repeat (first | (with_reducible first | exact HB.out | apply below_alloc | apply pw_below_drewN | apply below_drew1 | refine below_set ?_ GB25.out | refine below_set ?_ GE110.out | refine below_set ?_ GE118.out) | exact HB.out)⟩⟩
                 ·rw [if_neg c23] at H
                  exact absurd H (by simp)
                ·rw [if_neg c22] at H
                 exact absurd H (by simp)
               ·rw [if_neg c21] at H
                exact absurd H (by simp)
              ·rw [if_neg c20] at H
               exact absurd H (by simp)
             ·rw [if_neg c19] at H
              have c19b0 : ((rd l3 x10_1) == ((rd_T77 l0_1 x12_2).f1)) = false := beq_eq_false_iff_ne.mpr c19
              have c19b1 : ((rd l3 x10_1) != ((rd_T77 l0_1 x12_2).f1)) = true := bne_iff_ne.mpr c19
              have H' := Aside0.mk H
              clear H
              have hcz36_0 : wr.cell? ⟨gb110, 0, none⟩ = some (.int .i64 a0_0) := (blk_cell BK110.out 0).trans rfl
              have hcz36_1 : wr.cell? ⟨gb110, 1, none⟩ = some (.slice A0_1 l0_1.length c0_1) := (blk_cell BK110.out 1).trans rfl
              have hfz36_0 := blk_frozen BK110.out 0
              have hfz36_1 := blk_frozen BK110.out 1
              have p117 : 0 ≤ (x12_2 : Int) := of_decide_eq_true (by first | (with_reducible assumption) | assumption)
              have q117 : x12_2 < (l0_1.length : Int) := of_decide_eq_true (by first | (with_reducible assumption) | assumption)
              obtain ⟨ad117, e117, hx117_0, hx117_1, hx117_2, hx117_3⟩ := at_T77 HR0_1.out x12_2 p117 q117
              cases e117
              replace hx117_0 := (HB.out.cell (World.block_lt_of_cell? w _ hx117_0)).trans hx117_0
              replace hx117_1 := (HB.out.cell (World.block_lt_of_cell? w _ hx117_1)).trans hx117_1
              replace hx117_2 := (HB.out.cell (World.block_lt_of_cell? w _ hx117_2)).trans hx117_2
              replace hx117_3 := (HB.out.cell (World.block_lt_of_cell? w _ hx117_3)).trans hx117_3
              replace p117 := eq_true p117
              replace q117 := eq_true q117
              try go_wp2_with (first | ((with_reducible refine gate_dst (N := 13) rfl ?_); refine box_event ?hg (N := 13) ?hd (cs := #[.int .i64 0, .int .i64 0, .int .i64 0, .int .i64 0]) (t := 77) ?hr ?_; (case hd => rfl); (case hg => rfl); (case hr => first | (go_simp; done) | (go_simp; rfl)); intro gb118 hg w37 hbox hb; have n0_ := Aside0.mk (Kd.R_below (by (with_reducible repeat (first | apply Kd.R_alloc | apply Kd.R_drewN | apply Kd.R_drew)); exact HO_9.out) hb); have n1_ := Aside0.mk (Kd.R_below (by (with_reducible repeat (first | apply Kd.R_alloc | apply Kd.R_drewN | apply Kd.R_drew)); exact HO_11.out) hb); have n2_ := Aside0.mk (blk_below (g := gb110) (o := .cells #[.int .i64 a0_0, .slice (some ad117) l0_1.length c0_1] 30 (0, 0)) (by (with_reducible repeat (first | refine blk_drewN ?_ _ | refine blk_drew ?_ | refine blk_alloc ?_ _)); exact BK110.out) hb); have n3_ := Aside0.mk (below_step (by repeat (first | (with_reducible first | exact HB.out | apply below_alloc | apply pw_below_drewN | apply below_drew1 | refine below_set ?_ GE110.out) | exact HB.out)) hb); have n4_ := Aside0.mk (hbox); have n5_ := Aside0.mk ((by rw [hg]; exact (below_size (by repeat (first | (with_reducible first | exact HB.out | apply below_alloc | apply pw_below_drewN | apply below_drew1 | refine below_set ?_ GE110.out) | exact HB.out))) : w.heap.size ≤ gb118)); have n6_ := Aside0.mk ((by rw [hg]; exact (below_size (by repeat (first | (with_reducible first | exact HB.out | apply below_alloc | apply pw_below_drewN | apply below_drew1 | refine below_set ?_ GE110.out) | exact HB.out))) : w.heap.size ≤ gb118)); have n7_ := Aside0.mk ((by rw [hg]; exact Nat.ne_of_lt (blk_lt (g := gb110) (o := .cells #[.int .i64 a0_0, .slice (some ad117) l0_1.length c0_1] 30 (0, 0)) (by (with_reducible repeat (first | refine blk_drewN ?_ _ | refine blk_drew ?_ | refine blk_alloc ?_ _)); exact BK110.out)) : gb110 ≠ gb118)); have n8_ := Aside0.mk ((by rw [hg]; exact Nat.ne_of_gt (blk_lt (g := gb110) (o := .cells #[.int .i64 a0_0, .slice (some ad117) l0_1.length c0_1] 30 (0, 0)) (by (with_reducible repeat (first | refine blk_drewN ?_ _ | refine blk_drew ?_ | refine blk_alloc ?_ _)); exact BK110.out)) : gb118 ≠ gb110)); clear HO_9; clear HO_11; clear BK110; clear HB; have HO_9 := n0_; have HO_11 := n1_; have BK110 := n2_; have HB := n3_; have BK118 := n4_; have GW118 := n5_; have GE118 := n6_; have NB110_118 := n7_; have NB118_110 := n8_; clear n0_ n1_ n2_ n3_ n4_ n5_ n6_ n7_ n8_; clear hb hbox hg; have hnb38 := NB118_110.out; have hnc38 := NB110_118.out; have hcz39_0 : w37.cell? ⟨gb118, 0, none⟩ = some (.int .i64 0) := (blk_cell BK118.out 0).trans rfl; have hcz39_1 : w37.cell? ⟨gb118, 1, none⟩ = some (.int .i64 0) := (blk_cell BK118.out 1).trans rfl; have hcz39_2 : w37.cell? ⟨gb118, 2, none⟩ = some (.int .i64 0) := (blk_cell BK118.out 2).trans rfl; have hcz39_3 : w37.cell? ⟨gb118, 3, none⟩ = some (.int .i64 0) := (blk_cell BK118.out 3).trans rfl; have hfz39_0 := blk_frozen BK118.out 0; have hfz39_1 := blk_frozen BK118.out 1; have hfz39_2 := blk_frozen BK118.out 2; have hfz39_3 := blk_frozen BK118.out 3))
              have n0_ : Aside0 (Kd.R (Kd.int .i64) 2 ((((w37.setCell ⟨gb118, 0, none⟩ (.int .i64 ((rd_T77 l0_1 x12_2).f0))).setCell ⟨gb118, 1, none⟩ (.int .i64 ((rd_T77 l0_1 x12_2).f1))).setCell ⟨gb118, 2, none⟩ (.int .i64 ((rd_T77 l0_1 x12_2).f2))).setCell ⟨gb118, 3, none⟩ (.int .i64 ((rd_T77 l0_1 x12_2).f3))) w.heap.size (fun k_ => some k_ ≠ (v115 : Value).ownBlock) u9 x9_1) := ⟨by (with_reducible repeat (first | apply Kd.R_alloc | apply Kd.R_drewN | apply Kd.R_drew)); exact Kd.R_mono (Kd.R_far (p := ⟨gb118, 3, none⟩) (Kd.R_far (p := ⟨gb118, 2, none⟩) (Kd.R_far (p := ⟨gb118, 1, none⟩) (Kd.R_far (p := ⟨gb118, 0, none⟩) (Kd.R_types HO_9.out BK118.out (by decide)) (fun _ hk => hk.2) (.int .i64 ((rd_T77 l0_1 x12_2).f0))) (fun _ hk => hk.2) (.int .i64 ((rd_T77 l0_1 x12_2).f1))) (fun _ hk => hk.2) (.int .i64 ((rd_T77 l0_1 x12_2).f2))) (fun _ hk => hk.2) (.int .i64 ((rd_T77 l0_1 x12_2).f3))) (fun _ hk => hk.1)⟩
              have n1_ : Aside0 (Kd.R (Kd.int .i64) 2 ((((w37.setCell ⟨gb118, 0, none⟩ (.int .i64 ((rd_T77 l0_1 x12_2).f0))).setCell ⟨gb118, 1, none⟩ (.int .i64 ((rd_T77 l0_1 x12_2).f1))).setCell ⟨gb118, 2, none⟩ (.int .i64 ((rd_T77 l0_1 x12_2).f2))).setCell ⟨gb118, 3, none⟩ (.int .i64 ((rd_T77 l0_1 x12_2).f3))) w.heap.size (fun k_ => some k_ ≠ (u9 : Value).ownBlock) v115 x11_2) := ⟨by (with_reducible repeat (first | apply Kd.R_alloc | apply Kd.R_drewN | apply Kd.R_drew)); exact Kd.R_mono (Kd.R_far (p := ⟨gb118, 3, none⟩) (Kd.R_far (p := ⟨gb118, 2, none⟩) (Kd.R_far (p := ⟨gb118, 1, none⟩) (Kd.R_far (p := ⟨gb118, 0, none⟩) (Kd.R_types HO_11.out BK118.out (by decide)) (fun _ hk => hk.2) (.int .i64 ((rd_T77 l0_1 x12_2).f0))) (fun _ hk => hk.2) (.int .i64 ((rd_T77 l0_1 x12_2).f1))) (fun _ hk => hk.2) (.int .i64 ((rd_T77 l0_1 x12_2).f2))) (fun _ hk => hk.2) (.int .i64 ((rd_T77 l0_1 x12_2).f3))) (fun _ hk => hk.1)⟩
              have n2_ : Aside0 (((((w37.setCell ⟨gb118, 0, none⟩ (.int .i64 ((rd_T77 l0_1 x12_2).f0))).setCell ⟨gb118, 1, none⟩ (.int .i64 ((rd_T77 l0_1 x12_2).f1))).setCell ⟨gb118, 2, none⟩ (.int .i64 ((rd_T77 l0_1 x12_2).f2))).setCell ⟨gb118, 3, none⟩ (.int .i64 ((rd_T77 l0_1 x12_2).f3))).heap[gb110]? = some (.cells #[.int .i64 a0_0, .slice (some ad117) l0_1.length c0_1] 30 (0, 0))) := ⟨by (with_reducible repeat (first | refine blk_drewN ?_ _ | refine blk_drew ?_ | refine blk_alloc ?_ _)); refine blk_far ?_ NB110_118.out _; (with_reducible repeat (first | refine blk_drewN ?_ _ | refine blk_drew ?_ | refine blk_alloc ?_ _)); refine blk_far ?_ NB110_118.out _; (with_reducible repeat (first | refine blk_drewN ?_ _ | refine blk_drew ?_ | refine blk_alloc ?_ _)); refine blk_far ?_ NB110_118.out _; (with_reducible repeat (first | refine blk_drewN ?_ _ | refine blk_drew ?_ | refine blk_alloc ?_ _)); refine blk_far ?_ NB110_118.out _; (with_reducible repeat (first | refine blk_drewN ?_ _ | refine blk_drew ?_ | refine blk_alloc ?_ _)); exact BK110.out⟩
              have n3_ : Aside0 (((((w37.setCell ⟨gb118, 0, none⟩ (.int .i64 ((rd_T77 l0_1 x12_2).f0))).setCell ⟨gb118, 1, none⟩ (.int .i64 ((rd_T77 l0_1 x12_2).f1))).setCell ⟨gb118, 2, none⟩ (.int .i64 ((rd_T77 l0_1 x12_2).f2))).setCell ⟨gb118, 3, none⟩ (.int .i64 ((rd_T77 l0_1 x12_2).f3))).heap[gb118]? = some (.cells #[.int .i64 ((rd_T77 l0_1 x12_2).f0), .int .i64 ((rd_T77 l0_1 x12_2).f1), .int .i64 ((rd_T77 l0_1 x12_2).f2), .int .i64 ((rd_T77 l0_1 x12_2).f3)] 77 (0, 0))) := ⟨by (with_reducible repeat (first | refine blk_drewN ?_ _ | refine blk_drew ?_ | refine blk_alloc ?_ _)); refine blk_put (cs := #[.int .i64 ((rd_T77 l0_1 x12_2).f0), .int .i64 ((rd_T77 l0_1 x12_2).f1), .int .i64 ((rd_T77 l0_1 x12_2).f2), .int .i64 0]) ?_ 3 _ rfl; (with_reducible repeat (first | refine blk_drewN ?_ _ | refine blk_drew ?_ | refine blk_alloc ?_ _)); refine blk_put (cs := #[.int .i64 ((rd_T77 l0_1 x12_2).f0), .int .i64 ((rd_T77 l0_1 x12_2).f1), .int .i64 0, .int .i64 0]) ?_ 2 _ rfl; (with_reducible repeat (first | refine blk_drewN ?_ _ | refine blk_drew ?_ | refine blk_alloc ?_ _)); refine blk_put (cs := #[.int .i64 ((rd_T77 l0_1 x12_2).f0), .int .i64 0, .int .i64 0, .int .i64 0]) ?_ 1 _ rfl; (with_reducible repeat (first | refine blk_drewN ?_ _ | refine blk_drew ?_ | refine blk_alloc ?_ _)); refine blk_put (cs := #[.int .i64 0, .int .i64 0, .int .i64 0, .int .i64 0]) ?_ 0 _ rfl; (with_reducible repeat (first | refine blk_drewN ?_ _ | refine blk_drew ?_ | refine blk_alloc ?_ _)); exact BK118.out⟩
              have n4_ : Aside0 (Below w.heap.size w ((((w37.setCell ⟨gb118, 0, none⟩ (.int .i64 ((rd_T77 l0_1 x12_2).f0))).setCell ⟨gb118, 1, none⟩ (.int .i64 ((rd_T77 l0_1 x12_2).f1))).setCell ⟨gb118, 2, none⟩ (.int .i64 ((rd_T77 l0_1 x12_2).f2))).setCell ⟨gb118, 3, none⟩ (.int .i64 ((rd_T77 l0_1 x12_2).f3)))) := ⟨by repeat (first | (with_reducible first | exact HB.out | apply below_alloc | apply pw_below_drewN | apply below_drew1 | refine below_set ?_ GE110.out | refine below_set ?_ GE118.out) | exact HB.out)⟩
              (try clear HO_9)
              (try clear HO_11)
              (try clear BK110)
              (try clear BK118)
              (try clear HB)
              generalize ((((w37.setCell ⟨gb118, 0, none⟩ (.int .i64 ((rd_T77 l0_1 x12_2).f0))).setCell ⟨gb118, 1, none⟩ (.int .i64 ((rd_T77 l0_1 x12_2).f1))).setCell ⟨gb118, 2, none⟩ (.int .i64 ((rd_T77 l0_1 x12_2).f2))).setCell ⟨gb118, 3, none⟩ (.int .i64 ((rd_T77 l0_1 x12_2).f3))) = w40 at n0_ n1_ n2_ n3_ n4_ ⊢
              have HO_9 := n0_
              have HO_11 := n1_
              have BK110 := n2_
              have BK118 := n3_
              have HB := n4_
              clear n0_ n1_ n2_ n3_ n4_
              have n0_ := Aside0.mk (Kd.R_drew HO_9.out)
              have n1_ := Aside0.mk (Kd.R_drew HO_11.out)
              have n2_ := Aside0.mk (blk_drew BK110.out)
              have n3_ := Aside0.mk (blk_drew BK118.out)
              have n4_ := Aside0.mk (below_drew1 HB.out)
              clear HO_9
              clear HO_11
              clear BK110
              clear BK118
              clear HB
              have HO_9 := n0_
              have HO_11 := n1_
              have BK110 := n2_
              have BK118 := n3_
              have HB := n4_
              clear n0_ n1_ n2_ n3_ n4_
              have p119 : 0 ≤ (x10_1 : Int) := of_decide_eq_true (by first | (with_reducible assumption) | assumption)
              have q119 : x10_1 < (l3.length : Int) := of_decide_eq_true (by first | (with_reducible assumption) | assumption)
              obtain ⟨ad119, e119, hx119_0⟩ := Kd.at_int HR3.out x10_1 p119 q119
              have hw119_0 := hx119_0
              cases e119
              replace hx119_0 := (HB.out.cell (World.block_lt_of_cell? w _ hx119_0)).trans hx119_0
              replace p119 := eq_true p119
              replace q119 := eq_true q119
              refine start_ (n := 12) (S := fun w' => w'.cell? ⟨gb118, 0, none⟩ = some (.int .i64 ((rd_T77 l0_1 x12_2).f0)) ∧ w'.cell? ⟨gb118, 1, none⟩ = some (.int .i64 ((rd_T77 l0_1 x12_2).f1)) ∧ w'.cell? ⟨gb118, 2, none⟩ = some (.int .i64 ((rd_T77 l0_1 x12_2).f2)) ∧ w'.cell? ⟨gb118, 3, none⟩ = some (.int .i64 ((rd_T77 l0_1 x12_2).f3)) ∧ w'.cell? (ad119.add (x10_1).toNat) = some (.int .i64 (rd l3 x10_1))) (ds := []) #[false, false, false, false, false, false, false, false, false, false, false, false] (by kernel_rfl) rfl rfl ⟨(blk_cell BK118.out 0).trans rfl, (blk_cell BK118.out 1).trans rfl, (blk_cell BK118.out 2).trans rfl, (blk_cell BK118.out 3).trans rfl, ((HB.out.cell (World.block_lt_of_cell? w _ hw119_0)).trans hw119_0)⟩ (fun hHeld => ?_); refine with_tabW spec_l02Ways.tab10 spec_l02Ways.bits10 (fun HT_ HW_ => ?_)
              generalize w40.drew = w41 at HO_9 HO_11 BK110 BK118 HB hx119_0 hHeld ⊢
              refine pure_ (i := 0) (N := some 36) (v := ?_) (a' := ?_) #[true, false, false, false, false, false, false, false, false, false, false, false] rfl rfl (any_of HT_.out (by kernel_rfl)) (fun _ _ _ h => h) (Or.inl ⟨by rfl, ?_⟩) ?_ ?_
              rotate_left
              ·intro w'
               go_simp
               with_reducible rfl
              rotate_left
              ·simp only [Act.put, List.setIfInBounds_toArray, List.set_cons_zero, List.set_cons_succ, i64_w, i32_w]
               rfl
              refine pure_ (i := 1) (N := some 37) (v := ?_) (a' := ?_) #[true, true, false, false, false, false, false, false, false, false, false, false] rfl rfl (any_of HT_.out (by kernel_rfl)) (fun _ _ _ h => h) (Or.inl ⟨by rfl, ?_⟩) ?_ ?_
              rotate_left
              ·intro w'
               go_simp
               with_reducible rfl
              rotate_left
              ·simp only [Act.put, List.setIfInBounds_toArray, List.set_cons_zero, List.set_cons_succ, i64_w, i32_w]
               rfl
              refine pure_ (i := 2) (N := some 38) (v := ?_) (a' := ?_) #[true, true, true, false, false, false, false, false, false, false, false, false] rfl rfl (any_of HT_.out (by kernel_rfl)) (fun _ _ _ h => h) (Or.inl ⟨by rfl, ?_⟩) ?_ ?_
              rotate_left
              ·intro w'
               go_simp
               with_reducible rfl
              rotate_left
              ·simp only [Act.put, List.setIfInBounds_toArray, List.set_cons_zero, List.set_cons_succ, i64_w, i32_w]
               rfl
              refine pure_ (i := 3) (N := some 39) (v := ?_) (a' := ?_) #[true, true, true, true, false, false, false, false, false, false, false, false] rfl rfl (any_of HT_.out (by kernel_rfl)) (fun _ _ _ h => h) (Or.inl ⟨by rfl, ?_⟩) ?_ ?_
              rotate_left
              ·intro w'
               go_simp
               with_reducible rfl
              rotate_left
              ·simp only [Act.put, List.setIfInBounds_toArray, List.set_cons_zero, List.set_cons_succ, i64_w, i32_w]
               rfl
              refine pure_ (i := 4) (N := some 40) (v := ?_) (a' := ?_) #[true, true, true, true, true, false, false, false, false, false, false, false] rfl rfl (any_of HT_.out (by kernel_rfl)) (fun _ _ _ h => h) (Or.inl ⟨by rfl, ?_⟩) ?_ ?_
              rotate_left
              ·intro w'
               go_simp
               with_reducible rfl
              rotate_left
              ·simp only [Act.put, List.setIfInBounds_toArray, List.set_cons_zero, List.set_cons_succ, i64_w, i32_w]
               rfl
              refine pure_ (i := 5) (N := some 41) (v := ?_) (a' := ?_) #[true, true, true, true, true, true, false, false, false, false, false, false] rfl rfl (any_of HT_.out (by kernel_rfl)) (fun _ _ _ h => h) (Or.inl ⟨by rfl, ?_⟩) ?_ ?_
              rotate_left
              ·intro w'
               go_simp
               with_reducible rfl
              rotate_left
              ·simp only [Act.put, List.setIfInBounds_toArray, List.set_cons_zero, List.set_cons_succ, i64_w, i32_w]
               rfl
              refine pure_ (i := 6) (N := some 42) (v := ?_) (a' := ?_) #[true, true, true, true, true, true, true, false, false, false, false, false] rfl rfl (any_of HT_.out (by kernel_rfl)) (fun _ _ _ h => h) (Or.inl ⟨by rfl, ?_⟩) ?_ ?_
              rotate_left
              ·intro w'
               go_simp
               with_reducible rfl
              rotate_left
              ·simp only [Act.put, List.setIfInBounds_toArray, List.set_cons_zero, List.set_cons_succ, i64_w, i32_w]
               rfl
              refine pure_ (i := 8) (N := some 44) (v := ?_) (a' := ?_) #[true, true, true, true, true, true, true, false, true, false, false, false] rfl rfl (any_of HT_.out (by kernel_rfl)) (fun _ _ _ h => h) (Or.inl ⟨by rfl, ?_⟩) ?_ ?_
              rotate_left
              ·intro w'
               go_simp
               with_reducible rfl
              rotate_left
              ·simp only [Act.put, List.setIfInBounds_toArray, List.set_cons_zero, List.set_cons_succ, i64_w, i32_w]
               rfl
              refine take_ (i := 7) (N := some 43) (v := ?_) (a' := ?_) #[true, true, true, true, true, true, true, true, true, false, false, false] rfl rfl (take_ofW HT_.out HW_.out (by kernel_rfl)) (fun _ _ _ h => h) (Or.inl ⟨by rfl, ?_⟩) hHeld ?_ ?_
              rotate_left
              ·rintro w' ⟨s0, s1, s2, s3, s4⟩
               go_simp
               with_reducible rfl
              rotate_left
              ·simp only [Act.put, List.setIfInBounds_toArray, List.set_cons_zero, List.set_cons_succ, i64_w, i32_w]
               rfl
              refine take_ (i := 9) (N := some 45) (v := ?_) (a' := ?_) #[true, true, true, true, true, true, true, true, true, true, false, false] rfl rfl (take_ofW HT_.out HW_.out (by kernel_rfl)) (fun _ _ _ h => h) (Or.inl ⟨by rfl, ?_⟩) hHeld ?_ ?_
              rotate_left
              ·rintro w' ⟨s0, s1, s2, s3, s4⟩
               go_simp
               with_reducible rfl
              rotate_left
              ·simp only [Act.put, List.setIfInBounds_toArray, List.set_cons_zero, List.set_cons_succ, i64_w, i32_w]
               rfl
              refine pure_ (i := 10) (N := some 46) (v := ?_) (a' := ?_) #[true, true, true, true, true, true, true, true, true, true, true, false] rfl rfl (any_of HT_.out (by kernel_rfl)) (fun _ _ _ h => h) (Or.inl ⟨by rfl, ?_⟩) ?_ ?_
              rotate_left
              ·intro w'
               go_simp
               with_reducible rfl
              rotate_left
              ·simp only [Act.put, List.setIfInBounds_toArray, List.set_cons_zero, List.set_cons_succ, i64_w, i32_w]
               rfl
              refine pure_ (i := 11) (N := some 47) (v := ?_) (a' := ?_) #[true, true, true, true, true, true, true, true, true, true, true, true] rfl rfl (any_of HT_.out (by kernel_rfl)) (fun _ _ _ h => h) (Or.inl ⟨by rfl, ?_⟩) ?_ ?_
              rotate_left
              ·intro w'
               go_simp
               with_reducible rfl
              rotate_left
              ·simp only [Act.put, List.setIfInBounds_toArray, List.set_cons_zero, List.set_cons_succ, i64_w, i32_w]
               rfl
              refine done_ (done_of HT_.out (by kernel_rfl)) ?_
              try go_wp2
              go_roundg k2
              case measure => have := HK1.out; have := HK2.out; omega
              case rel => exact ⟨(x11_2), (wrap64 (x12_2 + 1)), (by first | rfl | (simp; done) | (simp [*]; done) | (simp; decide +kernel)), H', ⟨by have := HK1.out; have := HK2.out; omega⟩, ⟨by (with_reducible repeat (first | apply Kd.R_alloc | apply Kd.R_drewN | apply Kd.R_drew)); exact HO_9.out⟩, ⟨by (with_reducible repeat (first | apply Kd.R_alloc | apply Kd.R_drewN | apply Kd.R_drew)); exact HO_11.out⟩, ⟨by (with_reducible repeat (first | refine blk_drewN ?_ _ | refine blk_drew ?_ | refine blk_alloc ?_ _)); exact BK110.out⟩, ⟨by repeat (first | (with_reducible first | exact HB.out | apply below_alloc | apply pw_below_drewN | apply below_drew1 | refine below_set ?_ GE110.out | refine below_set ?_ GE118.out) | exact HB.out)⟩⟩
            ·rw [if_neg c18] at H
             exact absurd H (by simp)
           ·rw [if_neg c17] at H
            exact absurd H (by simp)
          ·rw [if_neg c16] at H
           have c16b0 : decide (0 < (l3.length : Int)) = false := decide_eq_false c16
           have c16b1 : decide (0 < l3.length) = false := decide_eq_false (by omega)
           clear c16
           by_cases c42 : 0 ≤ ((rd_T77 l0_1 x12_2).f2)
           ·rw [if_pos c42] at H
            have c42b0 : decide (0 ≤ ((rd_T77 l0_1 x12_2).f2)) = true := decide_eq_true c42
            clear c42
            by_cases c43 : ((rd_T77 l0_1 x12_2).f2) < (x11_2.length : Int)
            ·rw [if_pos c43] at H
             have c43b0 : decide (((rd_T77 l0_1 x12_2).f2) < (x11_2.length : Int)) = true := decide_eq_true c43
             clear c43
             by_cases c44 : 0 ≤ ((rd_T77 l0_1 x12_2).f0)
             ·rw [if_pos c44] at H
              have c44b0 : decide (0 ≤ ((rd_T77 l0_1 x12_2).f0)) = true := decide_eq_true c44
              clear c44
              by_cases c45 : ((rd_T77 l0_1 x12_2).f0) < (x9_1.length : Int)
              ·rw [if_pos c45] at H
               have c45b0 : decide (((rd_T77 l0_1 x12_2).f0) < (x9_1.length : Int)) = true := decide_eq_true c45
               clear c45
               obtain ⟨ji46, hji46⟩ : ∃ j_ : Int, (mn (wrap64 ((rd x11_2 ((rd_T77 l0_1 x12_2).f2)) + (rd x9_1 ((rd_T77 l0_1 x12_2).f0)))) 1000000000000001) = j_ := ⟨_, rfl⟩
               replace H : (spec_l02Ways.l1 k2 a2 l3 x9_1 x10_1 (x11_2.set (((rd_T77 l0_1 x12_2).f2) : Int).toNat (ji46)) (wrap64 (x12_2 + 1)) a0_0 l0_1) = some r := by first | (rw [hji46] at H; exact H) | (simp only [hji46] at H ⊢; exact H)
               have hji46_ : (if 1000000000000001 < (wrap64 ((rd x11_2 ((rd_T77 l0_1 x12_2).f2)) + (rd x9_1 ((rd_T77 l0_1 x12_2).f0)))) then 1000000000000001 else (wrap64 ((rd x11_2 ((rd_T77 l0_1 x12_2).f2)) + (rd x9_1 ((rd_T77 l0_1 x12_2).f0))))) = ji46 := hji46
               obtain ⟨y125, hy125⟩ : ∃ y_ : List Int, y_ = (x11_2.set (((rd_T77 l0_1 x12_2).f2) : Int).toNat (ji46)) := ⟨_, rfl⟩
               replace H : (spec_l02Ways.l1 k2 a2 l3 x9_1 x10_1 y125 (wrap64 (x12_2 + 1)) a0_0 l0_1) = some r := by first | (rw [hy125]; with_reducible exact H) | (have H2_ := (Option.bind_some _ _).symm.trans H; rw [hy125]; with_reducible exact H2_) | (have H2_ := (Option.bind_some _ _).symm.trans H; with_reducible exact H2_) | with_reducible exact H | (rw [hy125]; exact H) | exact H
               have Ny125 := Aside0.mk hy125
               clear hy125
               have H' := Aside0.mk H
               clear H
               have hcz48_0 : wr.cell? ⟨gb110, 0, none⟩ = some (.int .i64 a0_0) := (blk_cell BK110.out 0).trans rfl
               have hcz48_1 : wr.cell? ⟨gb110, 1, none⟩ = some (.slice A0_1 l0_1.length c0_1) := (blk_cell BK110.out 1).trans rfl
               have hfz48_0 := blk_frozen BK110.out 0
               have hfz48_1 := blk_frozen BK110.out 1
               have p117 : 0 ≤ (x12_2 : Int) := of_decide_eq_true (by first | (with_reducible assumption) | assumption)
               have q117 : x12_2 < (l0_1.length : Int) := of_decide_eq_true (by first | (with_reducible assumption) | assumption)
               obtain ⟨ad117, e117, hx117_0, hx117_1, hx117_2, hx117_3⟩ := at_T77 HR0_1.out x12_2 p117 q117
               cases e117
               replace hx117_0 := (HB.out.cell (World.block_lt_of_cell? w _ hx117_0)).trans hx117_0
               replace hx117_1 := (HB.out.cell (World.block_lt_of_cell? w _ hx117_1)).trans hx117_1
               replace hx117_2 := (HB.out.cell (World.block_lt_of_cell? w _ hx117_2)).trans hx117_2
               replace hx117_3 := (HB.out.cell (World.block_lt_of_cell? w _ hx117_3)).trans hx117_3
               replace p117 := eq_true p117
               replace q117 := eq_true q117
               try go_wp2_with (first | ((with_reducible refine gate_dst (N := 13) rfl ?_); refine box_event ?hg (N := 13) ?hd (cs := #[.int .i64 0, .int .i64 0, .int .i64 0, .int .i64 0]) (t := 77) ?hr ?_; (case hd => rfl); (case hg => rfl); (case hr => first | (go_simp; done) | (go_simp; rfl)); intro gb118 hg w49 hbox hb; have n0_ := Aside0.mk (Kd.R_below (by (with_reducible repeat (first | apply Kd.R_alloc | apply Kd.R_drewN | apply Kd.R_drew)); exact HO_9.out) hb); have n1_ := Aside0.mk (Kd.R_below (by (with_reducible repeat (first | apply Kd.R_alloc | apply Kd.R_drewN | apply Kd.R_drew)); exact HO_11.out) hb); have n2_ := Aside0.mk (blk_below (g := gb110) (o := .cells #[.int .i64 a0_0, .slice (some ad117) l0_1.length c0_1] 30 (0, 0)) (by (with_reducible repeat (first | refine blk_drewN ?_ _ | refine blk_drew ?_ | refine blk_alloc ?_ _)); exact BK110.out) hb); have n3_ := Aside0.mk (below_step (by repeat (first | (with_reducible first | exact HB.out | apply below_alloc | apply pw_below_drewN | apply below_drew1 | refine below_set ?_ GE110.out) | exact HB.out)) hb); have n4_ := Aside0.mk (hbox); have n5_ := Aside0.mk ((by rw [hg]; exact (below_size (by repeat (first | (with_reducible first | exact HB.out | apply below_alloc | apply pw_below_drewN | apply below_drew1 | refine below_set ?_ GE110.out) | exact HB.out))) : w.heap.size ≤ gb118)); have n6_ := Aside0.mk ((by rw [hg]; exact (below_size (by repeat (first | (with_reducible first | exact HB.out | apply below_alloc | apply pw_below_drewN | apply below_drew1 | refine below_set ?_ GE110.out) | exact HB.out))) : w.heap.size ≤ gb118)); have n7_ := Aside0.mk ((by rw [hg]; exact Nat.ne_of_lt (blk_lt (g := gb110) (o := .cells #[.int .i64 a0_0, .slice (some ad117) l0_1.length c0_1] 30 (0, 0)) (by (with_reducible repeat (first | refine blk_drewN ?_ _ | refine blk_drew ?_ | refine blk_alloc ?_ _)); exact BK110.out)) : gb110 ≠ gb118)); have n8_ := Aside0.mk ((by rw [hg]; exact Nat.ne_of_gt (blk_lt (g := gb110) (o := .cells #[.int .i64 a0_0, .slice (some ad117) l0_1.length c0_1] 30 (0, 0)) (by (with_reducible repeat (first | refine blk_drewN ?_ _ | refine blk_drew ?_ | refine blk_alloc ?_ _)); exact BK110.out)) : gb118 ≠ gb110)); clear HO_9; clear HO_11; clear BK110; clear HB; have HO_9 := n0_; have HO_11 := n1_; have BK110 := n2_; have HB := n3_; have BK118 := n4_; have GW118 := n5_; have GE118 := n6_; have NB110_118 := n7_; have NB118_110 := n8_; clear n0_ n1_ n2_ n3_ n4_ n5_ n6_ n7_ n8_; clear hb hbox hg; have hnb50 := NB118_110.out; have hnc50 := NB110_118.out; have hcz51_0 : w49.cell? ⟨gb118, 0, none⟩ = some (.int .i64 0) := (blk_cell BK118.out 0).trans rfl; have hcz51_1 : w49.cell? ⟨gb118, 1, none⟩ = some (.int .i64 0) := (blk_cell BK118.out 1).trans rfl; have hcz51_2 : w49.cell? ⟨gb118, 2, none⟩ = some (.int .i64 0) := (blk_cell BK118.out 2).trans rfl; have hcz51_3 : w49.cell? ⟨gb118, 3, none⟩ = some (.int .i64 0) := (blk_cell BK118.out 3).trans rfl; have hfz51_0 := blk_frozen BK118.out 0; have hfz51_1 := blk_frozen BK118.out 1; have hfz51_2 := blk_frozen BK118.out 2; have hfz51_3 := blk_frozen BK118.out 3))
               have n0_ : Aside0 (Kd.R (Kd.int .i64) 2 ((((w49.setCell ⟨gb118, 0, none⟩ (.int .i64 ((rd_T77 l0_1 x12_2).f0))).setCell ⟨gb118, 1, none⟩ (.int .i64 ((rd_T77 l0_1 x12_2).f1))).setCell ⟨gb118, 2, none⟩ (.int .i64 ((rd_T77 l0_1 x12_2).f2))).setCell ⟨gb118, 3, none⟩ (.int .i64 ((rd_T77 l0_1 x12_2).f3))) w.heap.size (fun k_ => some k_ ≠ (v115 : Value).ownBlock) u9 x9_1) := ⟨by (with_reducible repeat (first | apply Kd.R_alloc | apply Kd.R_drewN | apply Kd.R_drew)); exact Kd.R_mono (Kd.R_far (p := ⟨gb118, 3, none⟩) (Kd.R_far (p := ⟨gb118, 2, none⟩) (Kd.R_far (p := ⟨gb118, 1, none⟩) (Kd.R_far (p := ⟨gb118, 0, none⟩) (Kd.R_types HO_9.out BK118.out (by decide)) (fun _ hk => hk.2) (.int .i64 ((rd_T77 l0_1 x12_2).f0))) (fun _ hk => hk.2) (.int .i64 ((rd_T77 l0_1 x12_2).f1))) (fun _ hk => hk.2) (.int .i64 ((rd_T77 l0_1 x12_2).f2))) (fun _ hk => hk.2) (.int .i64 ((rd_T77 l0_1 x12_2).f3))) (fun _ hk => hk.1)⟩
               have n1_ : Aside0 (Kd.R (Kd.int .i64) 2 ((((w49.setCell ⟨gb118, 0, none⟩ (.int .i64 ((rd_T77 l0_1 x12_2).f0))).setCell ⟨gb118, 1, none⟩ (.int .i64 ((rd_T77 l0_1 x12_2).f1))).setCell ⟨gb118, 2, none⟩ (.int .i64 ((rd_T77 l0_1 x12_2).f2))).setCell ⟨gb118, 3, none⟩ (.int .i64 ((rd_T77 l0_1 x12_2).f3))) w.heap.size (fun k_ => some k_ ≠ (u9 : Value).ownBlock) v115 x11_2) := ⟨by (with_reducible repeat (first | apply Kd.R_alloc | apply Kd.R_drewN | apply Kd.R_drew)); exact Kd.R_mono (Kd.R_far (p := ⟨gb118, 3, none⟩) (Kd.R_far (p := ⟨gb118, 2, none⟩) (Kd.R_far (p := ⟨gb118, 1, none⟩) (Kd.R_far (p := ⟨gb118, 0, none⟩) (Kd.R_types HO_11.out BK118.out (by decide)) (fun _ hk => hk.2) (.int .i64 ((rd_T77 l0_1 x12_2).f0))) (fun _ hk => hk.2) (.int .i64 ((rd_T77 l0_1 x12_2).f1))) (fun _ hk => hk.2) (.int .i64 ((rd_T77 l0_1 x12_2).f2))) (fun _ hk => hk.2) (.int .i64 ((rd_T77 l0_1 x12_2).f3))) (fun _ hk => hk.1)⟩
               have n2_ : Aside0 (((((w49.setCell ⟨gb118, 0, none⟩ (.int .i64 ((rd_T77 l0_1 x12_2).f0))).setCell ⟨gb118, 1, none⟩ (.int .i64 ((rd_T77 l0_1 x12_2).f1))).setCell ⟨gb118, 2, none⟩ (.int .i64 ((rd_T77 l0_1 x12_2).f2))).setCell ⟨gb118, 3, none⟩ (.int .i64 ((rd_T77 l0_1 x12_2).f3))).heap[gb110]? = some (.cells #[.int .i64 a0_0, .slice (some ad117) l0_1.length c0_1] 30 (0, 0))) := ⟨by (with_reducible repeat (first | refine blk_drewN ?_ _ | refine blk_drew ?_ | refine blk_alloc ?_ _)); refine blk_far ?_ NB110_118.out _; (with_reducible repeat (first | refine blk_drewN ?_ _ | refine blk_drew ?_ | refine blk_alloc ?_ _)); refine blk_far ?_ NB110_118.out _; (with_reducible repeat (first | refine blk_drewN ?_ _ | refine blk_drew ?_ | refine blk_alloc ?_ _)); refine blk_far ?_ NB110_118.out _; (with_reducible repeat (first | refine blk_drewN ?_ _ | refine blk_drew ?_ | refine blk_alloc ?_ _)); refine blk_far ?_ NB110_118.out _; (with_reducible repeat (first | refine blk_drewN ?_ _ | refine blk_drew ?_ | refine blk_alloc ?_ _)); exact BK110.out⟩
               have n3_ : Aside0 (((((w49.setCell ⟨gb118, 0, none⟩ (.int .i64 ((rd_T77 l0_1 x12_2).f0))).setCell ⟨gb118, 1, none⟩ (.int .i64 ((rd_T77 l0_1 x12_2).f1))).setCell ⟨gb118, 2, none⟩ (.int .i64 ((rd_T77 l0_1 x12_2).f2))).setCell ⟨gb118, 3, none⟩ (.int .i64 ((rd_T77 l0_1 x12_2).f3))).heap[gb118]? = some (.cells #[.int .i64 ((rd_T77 l0_1 x12_2).f0), .int .i64 ((rd_T77 l0_1 x12_2).f1), .int .i64 ((rd_T77 l0_1 x12_2).f2), .int .i64 ((rd_T77 l0_1 x12_2).f3)] 77 (0, 0))) := ⟨by (with_reducible repeat (first | refine blk_drewN ?_ _ | refine blk_drew ?_ | refine blk_alloc ?_ _)); refine blk_put (cs := #[.int .i64 ((rd_T77 l0_1 x12_2).f0), .int .i64 ((rd_T77 l0_1 x12_2).f1), .int .i64 ((rd_T77 l0_1 x12_2).f2), .int .i64 0]) ?_ 3 _ rfl; (with_reducible repeat (first | refine blk_drewN ?_ _ | refine blk_drew ?_ | refine blk_alloc ?_ _)); refine blk_put (cs := #[.int .i64 ((rd_T77 l0_1 x12_2).f0), .int .i64 ((rd_T77 l0_1 x12_2).f1), .int .i64 0, .int .i64 0]) ?_ 2 _ rfl; (with_reducible repeat (first | refine blk_drewN ?_ _ | refine blk_drew ?_ | refine blk_alloc ?_ _)); refine blk_put (cs := #[.int .i64 ((rd_T77 l0_1 x12_2).f0), .int .i64 0, .int .i64 0, .int .i64 0]) ?_ 1 _ rfl; (with_reducible repeat (first | refine blk_drewN ?_ _ | refine blk_drew ?_ | refine blk_alloc ?_ _)); refine blk_put (cs := #[.int .i64 0, .int .i64 0, .int .i64 0, .int .i64 0]) ?_ 0 _ rfl; (with_reducible repeat (first | refine blk_drewN ?_ _ | refine blk_drew ?_ | refine blk_alloc ?_ _)); exact BK118.out⟩
               have n4_ : Aside0 (Below w.heap.size w ((((w49.setCell ⟨gb118, 0, none⟩ (.int .i64 ((rd_T77 l0_1 x12_2).f0))).setCell ⟨gb118, 1, none⟩ (.int .i64 ((rd_T77 l0_1 x12_2).f1))).setCell ⟨gb118, 2, none⟩ (.int .i64 ((rd_T77 l0_1 x12_2).f2))).setCell ⟨gb118, 3, none⟩ (.int .i64 ((rd_T77 l0_1 x12_2).f3)))) := ⟨by repeat (first | (with_reducible first | exact HB.out | apply below_alloc | apply pw_below_drewN | apply below_drew1 | refine below_set ?_ GE110.out | refine below_set ?_ GE118.out) | exact HB.out)⟩
               (try clear HO_9)
               (try clear HO_11)
               (try clear BK110)
               (try clear BK118)
               (try clear HB)
               generalize ((((w49.setCell ⟨gb118, 0, none⟩ (.int .i64 ((rd_T77 l0_1 x12_2).f0))).setCell ⟨gb118, 1, none⟩ (.int .i64 ((rd_T77 l0_1 x12_2).f1))).setCell ⟨gb118, 2, none⟩ (.int .i64 ((rd_T77 l0_1 x12_2).f2))).setCell ⟨gb118, 3, none⟩ (.int .i64 ((rd_T77 l0_1 x12_2).f3))) = w52 at n0_ n1_ n2_ n3_ n4_ ⊢
               have HO_9 := n0_
               have HO_11 := n1_
               have BK110 := n2_
               have BK118 := n3_
               have HB := n4_
               clear n0_ n1_ n2_ n3_ n4_
               have n0_ := Aside0.mk (Kd.R_drew HO_9.out)
               have n1_ := Aside0.mk (Kd.R_drew HO_11.out)
               have n2_ := Aside0.mk (blk_drew BK110.out)
               have n3_ := Aside0.mk (blk_drew BK118.out)
               have n4_ := Aside0.mk (below_drew1 HB.out)
               clear HO_9
               clear HO_11
               clear BK110
               clear BK118
               clear HB
               have HO_9 := n0_
               have HO_11 := n1_
               have BK110 := n2_
               have BK118 := n3_
               have HB := n4_
               clear n0_ n1_ n2_ n3_ n4_
               refine start_ (n := 12) (S := fun w' => True) (ds := []) #[false, false, false, false, false, false, false, false, false, false, false, false] (by kernel_rfl) rfl rfl trivial (fun hHeld => ?_); refine with_tabW spec_l02Ways.tab10 spec_l02Ways.bits10 (fun HT_ HW_ => ?_)
               generalize w52.drew = w53 at HO_9 HO_11 BK110 BK118 HB hHeld ⊢
               refine pure_ (i := 0) (N := some 36) (v := ?_) (a' := ?_) #[true, false, false, false, false, false, false, false, false, false, false, false] rfl rfl (any_of HT_.out (by kernel_rfl)) (fun _ _ _ h => h) (Or.inl ⟨by rfl, ?_⟩) ?_ ?_
               rotate_left
               ·intro w'
                go_simp
                with_reducible rfl
               rotate_left
               ·simp only [Act.put, List.setIfInBounds_toArray, List.set_cons_zero, List.set_cons_succ, i64_w, i32_w]
                rfl
               refine pure_ (i := 1) (N := some 37) (v := ?_) (a' := ?_) #[true, true, false, false, false, false, false, false, false, false, false, false] rfl rfl (any_of HT_.out (by kernel_rfl)) (fun _ _ _ h => h) (Or.inl ⟨by rfl, ?_⟩) ?_ ?_
               rotate_left
               ·intro w'
                go_simp
                with_reducible rfl
               rotate_left
               ·simp only [Act.put, List.setIfInBounds_toArray, List.set_cons_zero, List.set_cons_succ, i64_w, i32_w]
                rfl
               refine pure_ (i := 2) (N := some 38) (v := ?_) (a' := ?_) #[true, true, true, false, false, false, false, false, false, false, false, false] rfl rfl (any_of HT_.out (by kernel_rfl)) (fun _ _ _ h => h) (Or.inl ⟨by rfl, ?_⟩) ?_ ?_
               rotate_left
               ·intro w'
                go_simp
                with_reducible rfl
               rotate_left
               ·simp only [Act.put, List.setIfInBounds_toArray, List.set_cons_zero, List.set_cons_succ, i64_w, i32_w]
                rfl
               refine pure_ (i := 3) (N := some 39) (v := ?_) (a' := ?_) #[true, true, true, true, false, false, false, false, false, false, false, false] rfl rfl (any_of HT_.out (by kernel_rfl)) (fun _ _ _ h => h) (Or.inl ⟨by rfl, ?_⟩) ?_ ?_
               rotate_left
               ·intro w'
                go_simp
                with_reducible rfl
               rotate_left
               ·simp only [Act.put, List.setIfInBounds_toArray, List.set_cons_zero, List.set_cons_succ, i64_w, i32_w]
                rfl
               refine pure_ (i := 4) (N := some 40) (v := undef) (a' := ?_) #[true, true, true, true, true, false, false, false, false, false, false, false] rfl rfl (any_of HT_.out (by kernel_rfl)) (fun _ _ _ h => h) (Or.inr ⟨by rfl, rfl⟩) ?_ ?_
               rotate_left
               ·simp only [Act.put, List.setIfInBounds_toArray, List.set_cons_zero, List.set_cons_succ, i64_w, i32_w]
                rfl
               refine pure_ (i := 5) (N := some 41) (v := undef) (a' := ?_) #[true, true, true, true, true, true, false, false, false, false, false, false] rfl rfl (any_of HT_.out (by kernel_rfl)) (fun _ _ _ h => h) (Or.inr ⟨by rfl, rfl⟩) ?_ ?_
               rotate_left
               ·simp only [Act.put, List.setIfInBounds_toArray, List.set_cons_zero, List.set_cons_succ, i64_w, i32_w]
                rfl
               refine pure_ (i := 6) (N := some 42) (v := undef) (a' := ?_) #[true, true, true, true, true, true, true, false, false, false, false, false] rfl rfl (any_of HT_.out (by kernel_rfl)) (fun _ _ _ h => h) (Or.inr ⟨by rfl, rfl⟩) ?_ ?_
               rotate_left
               ·simp only [Act.put, List.setIfInBounds_toArray, List.set_cons_zero, List.set_cons_succ, i64_w, i32_w]
                rfl
               refine pure_ (i := 7) (N := some 43) (v := undef) (a' := ?_) #[true, true, true, true, true, true, true, true, false, false, false, false] rfl rfl (any_of HT_.out (by kernel_rfl)) (fun _ _ _ h => h) (Or.inr ⟨by rfl, rfl⟩) ?_ ?_
               rotate_left
               ·simp only [Act.put, List.setIfInBounds_toArray, List.set_cons_zero, List.set_cons_succ, i64_w, i32_w]
                rfl
               refine pure_ (i := 8) (N := some 44) (v := undef) (a' := ?_) #[true, true, true, true, true, true, true, true, true, false, false, false] rfl rfl (any_of HT_.out (by kernel_rfl)) (fun _ _ _ h => h) (Or.inr ⟨by rfl, rfl⟩) ?_ ?_
               rotate_left
               ·simp only [Act.put, List.setIfInBounds_toArray, List.set_cons_zero, List.set_cons_succ, i64_w, i32_w]
                rfl
               refine pure_ (i := 9) (N := some 45) (v := undef) (a' := ?_) #[true, true, true, true, true, true, true, true, true, true, false, false] rfl rfl (any_of HT_.out (by kernel_rfl)) (fun _ _ _ h => h) (Or.inr ⟨by rfl, rfl⟩) ?_ ?_
               rotate_left
               ·simp only [Act.put, List.setIfInBounds_toArray, List.set_cons_zero, List.set_cons_succ, i64_w, i32_w]
                rfl
               refine pure_ (i := 10) (N := some 46) (v := undef) (a' := ?_) #[true, true, true, true, true, true, true, true, true, true, true, false] rfl rfl (any_of HT_.out (by kernel_rfl)) (fun _ _ _ h => h) (Or.inr ⟨by rfl, rfl⟩) ?_ ?_
               rotate_left
               ·simp only [Act.put, List.setIfInBounds_toArray, List.set_cons_zero, List.set_cons_succ, i64_w, i32_w]
                rfl
               refine pure_ (i := 11) (N := some 47) (v := ?_) (a' := ?_) #[true, true, true, true, true, true, true, true, true, true, true, true] rfl rfl (any_of HT_.out (by kernel_rfl)) (fun _ _ _ h => h) (Or.inl ⟨by rfl, ?_⟩) ?_ ?_
               rotate_left
               ·intro w'
                go_simp
                with_reducible rfl
               rotate_left
               ·simp only [Act.put, List.setIfInBounds_toArray, List.set_cons_zero, List.set_cons_succ, i64_w, i32_w]
                rfl
               refine done_ (done_of HT_.out (by kernel_rfl)) ?_
               try go_wp2
               have n0_ := Aside0.mk (Kd.R_drew HO_9.out)
               have n1_ := Aside0.mk (Kd.R_drew HO_11.out)
               have n2_ := Aside0.mk (blk_drew BK110.out)
               have n3_ := Aside0.mk (blk_drew BK118.out)
               have n4_ := Aside0.mk (below_drew1 HB.out)
               clear HO_9
               clear HO_11
               clear BK110
               clear BK118
               clear HB
               have HO_9 := n0_
               have HO_11 := n1_
               have BK110 := n2_
               have BK118 := n3_
               have HB := n4_
               clear n0_ n1_ n2_ n3_ n4_
               obtain ⟨Ao55, co55, eo55⟩ := Kd.R_slice HO_11.out
               (first | subst eo55 | (injection eo55 with f1_ f2_ f3_; have f4_ := f1_.symm; have f5_ := f3_.symm; clear f1_ f2_ f3_; subst f4_; subst f5_))
               have p123 : 0 ≤ (((rd_T77 l0_1 x12_2).f2) : Int) := of_decide_eq_true (by first | (with_reducible assumption) | assumption)
               have q123 : ((rd_T77 l0_1 x12_2).f2) < (x11_2.length : Int) := of_decide_eq_true (by first | (with_reducible assumption) | assumption)
               obtain ⟨ad123, e123, hx123_0⟩ := Kd.at_int (Kd.R_reads' HO_11.out).2.2 ((rd_T77 l0_1 x12_2).f2) p123 q123
               cases e123
               replace p123 := eq_true p123
               replace q123 := eq_true q123
               obtain ⟨Ao56, co56, eo56⟩ := Kd.R_slice HO_9.out
               (first | subst eo56 | (injection eo56 with f1_ f2_ f3_; have f4_ := f1_.symm; have f5_ := f3_.symm; clear f1_ f2_ f3_; subst f4_; subst f5_))
               have p124 : 0 ≤ (((rd_T77 l0_1 x12_2).f0) : Int) := of_decide_eq_true (by first | (with_reducible assumption) | assumption)
               have q124 : ((rd_T77 l0_1 x12_2).f0) < (x9_1.length : Int) := of_decide_eq_true (by first | (with_reducible assumption) | assumption)
               obtain ⟨ad124, e124, hx124_0⟩ := Kd.at_int (Kd.R_reads' HO_9.out).2.2 ((rd_T77 l0_1 x12_2).f0) p124 q124
               cases e124
               replace p124 := eq_true p124
               replace q124 := eq_true q124
               have p47 : 0 ≤ (((rd_T77 l0_1 x12_2).f2) : Int) := of_decide_eq_true (by first | (with_reducible assumption) | assumption)
               have q47 : (((rd_T77 l0_1 x12_2).f2) : Int) < ((x11_2.length : Int) : Int) := of_decide_eq_true (by first | (with_reducible assumption) | assumption)
               obtain ⟨go47, co47, eo47, gb47, gl47, cl47, HG47⟩ := Kd.R_form HO_11.out (by omega)
               (first | cases eo47 | (injection eo47 with ea_ en_ ec_; (first | subst ea_ | (injection ea_ with ea_; subst ea_)); subst ec_; clear en_))
               have GB47 := Aside0.mk gb47
               have GG47 := Aside0.mk HG47
               clear gb47 gl47 HG47
               (first | simp only [add_plain] at hx123_0 | skip)
               obtain ⟨hx47_0, hf47_0⟩ := Kd.R_celln 0 HO_11.out (((rd_T77 l0_1 x12_2).f2) : Int) p47 q47
               replace p47 := eq_true p47
               replace q47 := eq_true q47
               have HP57 := Kd.R_putn HO_11.out (((rd_T77 l0_1 x12_2).f2) : Int) ji46
               rw [← Ny125.out] at HP57
               have HQ57 := Aside0.mk HP57
               clear HP57
               refine start_ (n := 17) (S := fun w' => w'.cell? ⟨gb118, 0, none⟩ = some (.int .i64 ((rd_T77 l0_1 x12_2).f0)) ∧ w'.cell? ⟨gb118, 1, none⟩ = some (.int .i64 ((rd_T77 l0_1 x12_2).f1)) ∧ w'.cell? ⟨gb118, 2, none⟩ = some (.int .i64 ((rd_T77 l0_1 x12_2).f2)) ∧ w'.cell? ⟨gb118, 3, none⟩ = some (.int .i64 ((rd_T77 l0_1 x12_2).f3)) ∧ w'.cell? ⟨go47, (((rd_T77 l0_1 x12_2).f2)).toNat, none⟩ = some (.int .i64 (rd x11_2 ((rd_T77 l0_1 x12_2).f2))) ∧ w'.cell? (ad124.add (((rd_T77 l0_1 x12_2).f0)).toNat) = some (.int .i64 (rd x9_1 ((rd_T77 l0_1 x12_2).f0)))) (ds := [16]) #[false, false, false, false, false, false, false, false, false, false, false, false, false, false, false, false, false] (by kernel_rfl) rfl rfl ⟨(blk_cell BK118.out 0).trans rfl, (blk_cell BK118.out 1).trans rfl, (blk_cell BK118.out 2).trans rfl, (blk_cell BK118.out 3).trans rfl, hx123_0, hx124_0⟩ (fun hHeld => ?_); refine with_tabW spec_l02Ways.tab11 spec_l02Ways.bits11 (fun HT_ HW_ => ?_)
               generalize w53.drew = w54 at HO_9 HO_11 BK110 BK118 HB GG47 HQ57 hf47_0 hx123_0 hx124_0 hx47_0 hHeld ⊢
               refine pure_ (i := 0) (N := some 48) (v := ?_) (a' := ?_) #[true, false, false, false, false, false, false, false, false, false, false, false, false, false, false, false, false] rfl rfl (any_of HT_.out (by kernel_rfl)) (fun _ _ _ h => h) (Or.inl ⟨by rfl, ?_⟩) ?_ ?_
               rotate_left
               ·intro w'
                go_simp
                with_reducible rfl
               rotate_left
               ·simp only [Act.put, List.setIfInBounds_toArray, List.set_cons_zero, List.set_cons_succ, i64_w, i32_w]
                rfl
               refine pure_ (i := 1) (N := some 49) (v := ?_) (a' := ?_) #[true, true, false, false, false, false, false, false, false, false, false, false, false, false, false, false, false] rfl rfl (any_of HT_.out (by kernel_rfl)) (fun _ _ _ h => h) (Or.inl ⟨by rfl, ?_⟩) ?_ ?_
               rotate_left
               ·intro w'
                go_simp
                with_reducible rfl
               rotate_left
               ·simp only [Act.put, List.setIfInBounds_toArray, List.set_cons_zero, List.set_cons_succ, i64_w, i32_w]
                rfl
               refine pure_ (i := 3) (N := some 51) (v := ?_) (a' := ?_) #[true, true, false, true, false, false, false, false, false, false, false, false, false, false, false, false, false] rfl rfl (any_of HT_.out (by kernel_rfl)) (fun _ _ _ h => h) (Or.inl ⟨by rfl, ?_⟩) ?_ ?_
               rotate_left
               ·intro w'
                go_simp
                with_reducible rfl
               rotate_left
               ·simp only [Act.put, List.setIfInBounds_toArray, List.set_cons_zero, List.set_cons_succ, i64_w, i32_w]
                rfl
               refine pure_ (i := 4) (N := some 52) (v := ?_) (a' := ?_) #[true, true, false, true, true, false, false, false, false, false, false, false, false, false, false, false, false] rfl rfl (any_of HT_.out (by kernel_rfl)) (fun _ _ _ h => h) (Or.inl ⟨by rfl, ?_⟩) ?_ ?_
               rotate_left
               ·intro w'
                go_simp
                with_reducible rfl
               rotate_left
               ·simp only [Act.put, List.setIfInBounds_toArray, List.set_cons_zero, List.set_cons_succ, i64_w, i32_w]
                rfl
               refine pure_ (i := 8) (N := some 56) (v := ?_) (a' := ?_) #[true, true, false, true, true, false, false, false, true, false, false, false, false, false, false, false, false] rfl rfl (any_of HT_.out (by kernel_rfl)) (fun _ _ _ h => h) (Or.inl ⟨by rfl, ?_⟩) ?_ ?_
               rotate_left
               ·intro w'
                go_simp
                with_reducible rfl
               rotate_left
               ·simp only [Act.put, List.setIfInBounds_toArray, List.set_cons_zero, List.set_cons_succ, i64_w, i32_w]
                rfl
               refine pure_ (i := 9) (N := some 57) (v := ?_) (a' := ?_) #[true, true, false, true, true, false, false, false, true, true, false, false, false, false, false, false, false] rfl rfl (any_of HT_.out (by kernel_rfl)) (fun _ _ _ h => h) (Or.inl ⟨by rfl, ?_⟩) ?_ ?_
               rotate_left
               ·intro w'
                go_simp
                with_reducible rfl
               rotate_left
               ·simp only [Act.put, List.setIfInBounds_toArray, List.set_cons_zero, List.set_cons_succ, i64_w, i32_w]
                rfl
               refine take_ (i := 2) (N := some 50) (v := ?_) (a' := ?_) #[true, true, true, true, true, false, false, false, true, true, false, false, false, false, false, false, false] rfl rfl (take_ofW HT_.out HW_.out (by kernel_rfl)) (fun _ _ _ h => h) (Or.inl ⟨by rfl, ?_⟩) hHeld ?_ ?_
               rotate_left
               ·rintro w' ⟨s0, s1, s2, s3, s4, s5⟩
                go_simp
                with_reducible rfl
               rotate_left
               ·simp only [Act.put, List.setIfInBounds_toArray, List.set_cons_zero, List.set_cons_succ, i64_w, i32_w]
                rfl
               refine take_ (i := 5) (N := some 53) (v := ?_) (a' := ?_) #[true, true, true, true, true, true, false, false, true, true, false, false, false, false, false, false, false] rfl rfl (take_ofW HT_.out HW_.out (by kernel_rfl)) (fun _ _ _ h => h) (Or.inl ⟨by rfl, ?_⟩) hHeld ?_ ?_
               rotate_left
               ·rintro w' ⟨s0, s1, s2, s3, s4, s5⟩
                go_simp
                with_reducible rfl
               rotate_left
               ·simp only [Act.put, List.setIfInBounds_toArray, List.set_cons_zero, List.set_cons_succ, i64_w, i32_w]
                rfl
               refine pure_ (i := 6) (N := some 54) (v := ?_) (a' := ?_) #[true, true, true, true, true, true, true, false, true, true, false, false, false, false, false, false, false] rfl rfl (any_of HT_.out (by kernel_rfl)) (fun _ _ _ h => h) (Or.inl ⟨by rfl, ?_⟩) ?_ ?_
               rotate_left
               ·intro w'
                go_simp
                with_reducible rfl
               rotate_left
               ·simp only [Act.put, List.setIfInBounds_toArray, List.set_cons_zero, List.set_cons_succ, i64_w, i32_w]
                rfl
               refine take_ (i := 7) (N := some 55) (v := ?_) (a' := ?_) #[true, true, true, true, true, true, true, true, true, true, false, false, false, false, false, false, false] rfl rfl (take_ofW HT_.out HW_.out (by kernel_rfl)) (fun _ _ _ h => h) (Or.inl ⟨by rfl, ?_⟩) hHeld ?_ ?_
               rotate_left
               ·rintro w' ⟨s0, s1, s2, s3, s4, s5⟩
                go_simp
                with_reducible rfl
               rotate_left
               ·simp only [Act.put, List.setIfInBounds_toArray, List.set_cons_zero, List.set_cons_succ, i64_w, i32_w]
                rfl
               refine take_ (i := 10) (N := some 58) (v := ?_) (a' := ?_) #[true, true, true, true, true, true, true, true, true, true, true, false, false, false, false, false, false] rfl rfl (take_ofW HT_.out HW_.out (by kernel_rfl)) (fun _ _ _ h => h) (Or.inl ⟨by rfl, ?_⟩) hHeld ?_ ?_
               rotate_left
               ·rintro w' ⟨s0, s1, s2, s3, s4, s5⟩
                go_simp
                with_reducible rfl
               rotate_left
               ·simp only [Act.put, List.setIfInBounds_toArray, List.set_cons_zero, List.set_cons_succ, i64_w, i32_w]
                rfl
               refine pure_ (i := 11) (N := some 59) (v := ?_) (a' := ?_) #[true, true, true, true, true, true, true, true, true, true, true, true, false, false, false, false, false] rfl rfl (any_of HT_.out (by kernel_rfl)) (fun _ _ _ h => h) (Or.inl ⟨by rfl, ?_⟩) ?_ ?_
               rotate_left
               ·intro w'
                go_simp
                with_reducible rfl
               rotate_left
               ·simp only [Act.put, List.setIfInBounds_toArray, List.set_cons_zero, List.set_cons_succ, i64_w, i32_w]
                rfl
               refine take_ (i := 12) (N := some 60) (v := ?_) (a' := ?_) #[true, true, true, true, true, true, true, true, true, true, true, true, true, false, false, false, false] rfl rfl (take_ofW HT_.out HW_.out (by kernel_rfl)) (fun _ _ _ h => h) (Or.inl ⟨by rfl, ?_⟩) hHeld ?_ ?_
               rotate_left
               ·rintro w' ⟨s0, s1, s2, s3, s4, s5⟩
                go_simp
                with_reducible rfl
               rotate_left
               ·simp only [Act.put, List.setIfInBounds_toArray, List.set_cons_zero, List.set_cons_succ, i64_w, i32_w]
                rfl
               refine pure_ (i := 13) (N := some 61) (v := ?_) (a' := ?_) #[true, true, true, true, true, true, true, true, true, true, true, true, true, true, false, false, false] rfl rfl (any_of HT_.out (by kernel_rfl)) (fun _ _ _ h => h) (Or.inl ⟨by rfl, ?_⟩) ?_ ?_
               rotate_left
               ·intro w'
                go_simp
                with_reducible rfl
               rotate_left
               ·simp only [Act.put, List.setIfInBounds_toArray, List.set_cons_zero, List.set_cons_succ, i64_w, i32_w]
                rfl
               refine pure_ (i := 14) (N := some 62) (v := ?_) (a' := ?_) #[true, true, true, true, true, true, true, true, true, true, true, true, true, true, true, false, false] rfl rfl (any_of HT_.out (by kernel_rfl)) (fun _ _ _ h => h) (Or.inl ⟨by rfl, ?_⟩) ?_ ?_
               rotate_left
               ·intro w'
                go_simp
                with_reducible rfl
               rotate_left
               ·simp only [Act.put, List.setIfInBounds_toArray, List.set_cons_zero, List.set_cons_succ, i64_w, i32_w]
                rfl
               refine pure_ (i := 15) (N := some 63) (v := ?_) (a' := ?_) #[true, true, true, true, true, true, true, true, true, true, true, true, true, true, true, true, false] rfl rfl (any_of HT_.out (by kernel_rfl)) (fun _ _ _ h => h) (Or.inl ⟨by rfl, ?_⟩) ?_ ?_
               rotate_left
               ·intro w'
                go_simp
                with_reducible rfl
               rotate_left
               ·simp only [Act.put, List.setIfInBounds_toArray, List.set_cons_zero, List.set_cons_succ, i64_w, i32_w]
                rfl
               refine last_ (i := 16) (N := none) #[true, true, true, true, true, true, true, true, true, true, true, true, true, true, true, true, true] rfl rfl (one_of HT_.out (by kernel_rfl)) (by decide) (fun K hK => ?_)
               refine skip_ (w1 := ?_) (by rfl) rfl ?_ ?_
               rotate_left
               ·go_simp
                rfl
               refine hK.out _ _ ?_
               clear hK K
               refine done_ (done_of HT_.out (by kernel_rfl)) ?_
               try go_wp2
               go_roundg k2
               case measure => have := HK1.out; have := HK2.out; omega
               case rel => exact ⟨(y125), (wrap64 (x12_2 + 1)), (by first | rfl | (simp; done) | (simp [*]; done) | (simp; decide +kernel)), H', ⟨by have := HK1.out; have := HK2.out; omega⟩, ⟨by (with_reducible repeat (first | apply Kd.R_alloc | apply Kd.R_drewN | apply Kd.R_drew)); exact Kd.R_mono (Kd.R_far (p := ⟨go47, (((rd_T77 l0_1 x12_2).f2) : Int).toNat, none⟩) (Kd.R_mono HO_9.out (fun k_ hk => (⟨hk, fun e_ => hk (by rw [e_]; rfl)⟩ : _ ∧ k_ ≠ go47))) (fun _ hk => hk.2) (.int .i64 ji46)) (fun _ hk => hk.1)⟩, ⟨by (with_reducible repeat (first | apply Kd.R_alloc | apply Kd.R_drewN | apply Kd.R_drew)); exact HQ57.out⟩, ⟨by (with_reducible repeat (first | refine blk_drewN ?_ _ | refine blk_drew ?_ | refine blk_alloc ?_ _)); refine blk_far ?_ (by have h_ := Kd.R_ne HO_11.out BK110.out (by decide); intro e_; exact h_ (by rw [e_]; rfl)) _; (with_reducible repeat (first | refine blk_drewN ?_ _ | refine blk_drew ?_ | refine blk_alloc ?_ _)); exact BK110.out⟩, ⟨by repeat (first | (with_reducible first | exact HB.out | apply below_alloc | apply pw_below_drewN | apply below_drew1 | refine below_set ?_ GB47.out | refine below_set ?_ GE110.out | refine below_set ?_ GE118.out) | exact HB.out)⟩⟩
              ·rw [if_neg c45] at H
               exact absurd H (by simp)
             ·rw [if_neg c44] at H
              exact absurd H (by simp)
            ·rw [if_neg c43] at H
             exact absurd H (by simp)
           ·rw [if_neg c42] at H
            exact absurd H (by simp)
         ·rw [if_neg c15] at H
          exact absurd H (by simp)
        ·rw [if_neg c14] at H
         have c14b0 : decide (x12_2 < (l0_1.length : Int)) = false := decide_eq_false c14
         clear c14
         have H' := Aside0.mk H
         clear H
         have hcz58_0 : wr.cell? ⟨gb110, 0, none⟩ = some (.int .i64 a0_0) := (blk_cell BK110.out 0).trans rfl
         have hcz58_1 : wr.cell? ⟨gb110, 1, none⟩ = some (.slice A0_1 l0_1.length c0_1) := (blk_cell BK110.out 1).trans rfl
         have hfz58_0 := blk_frozen BK110.out 0
         have hfz58_1 := blk_frozen BK110.out 1
         go_wp2
         go_roundg k2
         case measure => have := HK1.out; have := HK2.out; omega
         case rel => exact ⟨(x11_2), (wrap64 (x10_1 + 1)), (by first | rfl | (simp; done) | (simp [*]; done) | (simp; decide +kernel)), H', ⟨by have := HK1.out; have := HK2.out; omega⟩, ⟨by (with_reducible repeat (first | apply Kd.R_alloc | apply Kd.R_drewN | apply Kd.R_drew)); exact Kd.R_mono HO_11.out (fun _ hk => trivial)⟩, ⟨by (with_reducible repeat (first | refine blk_drewN ?_ _ | refine blk_drew ?_ | refine blk_alloc ?_ _)); exact BK110.out⟩, ⟨by repeat (first | (with_reducible first | exact HB.out | apply below_alloc | apply pw_below_drewN | apply below_drew1 | refine below_set ?_ GE110.out) | exact HB.out)⟩⟩
     ·rw [if_neg c10] at H
      exact absurd H (by simp)
    ·rw [if_neg c9] at H
     exact absurd H (by simp)
   ·rw [if_neg c8] at H
    have c8b0 : decide (x10_1 < a2) = false := decide_eq_false c8
    clear c8
    obtain rfl := Option.some.inj H
    go_wp2
    go_ret
    exact ⟨_, by first | rfl | (simp [errW_none, errW_some] <;> rfl) | (simp [*, errW_none, errW_some] <;> rfl), by (with_reducible repeat (first | apply Kd.R_alloc | apply Kd.R_drewN | apply Kd.R_drew)); exact HO_9.out, by repeat (first | (with_reducible first | exact HB.out | apply below_alloc | apply pw_below_drewN | apply below_drew1 | refine below_set ?_ GE110.out) | exact HB.out)⟩
end Go.Proofs.Ytenlcakpcbmmdaa.Q
namespace Go.Proofs.Ytenlcakpcbmmdaa.Q
open Go.RowKit Go.Proofs.YtenlcakpcbmmdaaW.PrintWords Go.Proofs.YtenlcakpcbmmdaaW.PrintLast Go.Proofs.YtenlcakpcbmmdaaW.PrintMore
attribute [local go_sem] max2_int min2_int max_two min_two max_three min_three max_four min_four
set_option linter.unusedVariables false
set_option linter.unusedSimpArgs false
def spec_l02Each.l0 : Nat → Int → List Int → Int → Option (List Int)
 | 0, _, _, _ => none
 | k + 1, x0, x3, x4 => if x4 < x0 then (if x3.length < 17592186044416 then (spec_l02Each.l0 k x0 (x3 ++ [1]) (wrap64 (x4 + 1))) else (none)) else (some x3)
def spec_l02Each.f (k : Nat) (a0 : Int) : Option (List Int) := spec_l02Each.l0 k a0 (([] : List Int)) 0
theorem spec_l02Each.mono_l : ∀ k, (∀ y0 y1 y2, LeO (spec_l02Each.l0 k y0 y1 y2) (spec_l02Each.l0 (k + 1) y0 y1 y2))
 | 0 => fun _ _ _ r h => by simp [spec_l02Each.l0] at h
 | k + 1 => by
  have ih0 := spec_l02Each.mono_l k
  ·intro y0 y1 y2
   unfold spec_l02Each.l0
   repeat' first
   | (with_reducible exact ih0 _ _ _)
   | (with_reducible exact LeO.refl _)
   | (with_reducible exact LeO.none _)
   | (with_reducible refine LeO.ite ?_ ?_)
   | (with_reducible refine LeO.bind ?_ (fun _ => ?_))
   | exact ih0 _ _ _
   | exact LeO.none _
   | refine LeO.ite ?_ ?_
   | refine LeO.bind ?_ (fun _ => ?_)
theorem spec_l02Each.mono : ∀ a0 k, LeO (spec_l02Each.f k a0) (spec_l02Each.f (k + 1) a0) := by
 intro a0 k
 have ih0 := spec_l02Each.mono_l k
 unfold spec_l02Each.f
 repeat' first
   | (with_reducible exact ih0 _ _ _)
   | (with_reducible exact LeO.refl _)
   | (with_reducible exact LeO.none _)
   | (with_reducible refine LeO.ite ?_ ?_)
   | (with_reducible refine LeO.bind ?_ (fun _ => ?_))
   | exact ih0 _ _ _
   | exact LeO.none _
   | refine LeO.ite ?_ ?_
   | refine LeO.bind ?_ (fun _ => ?_)
set_option maxHeartbeats 8000000 in
set_option maxRecDepth 100000 in
theorem spec_l02Each.calls (k : Nat) (a0 : Int) (r : List Int) (w : World) (h : spec_l02Each.f k a0 = some r) :
  Calls Try.prog 61 #[.int .i64 a0] w fun e w' => ∃ v0_ : Value, e = .returned (v0_) ∧ Kd.R (Kd.int .i64) 2 w' w.heap.size (fun _ => True) v0_ r ∧ Below w.heap.size w w' := by
 have HB := Aside0.mk (Below.refl w.heap.size w)
 have H : (spec_l02Each.l0 k a0 (([] : List Int)) 0) = some r := h
 clear h
 obtain ⟨y179, hy179⟩ : ∃ y_ : List Int, y_ = (([] : List Int)) := ⟨_, rfl⟩
 replace H : (spec_l02Each.l0 k a0 y179 0) = some r := by first | (rw [hy179]; with_reducible exact H) | (have H2_ := (Option.bind_some _ _).symm.trans H; rw [hy179]; with_reducible exact H2_) | (have H2_ := (Option.bind_some _ _).symm.trans H; with_reducible exact H2_) | with_reducible exact H | (rw [hy179]; exact H) | exact H
 have Ny179 := Aside0.mk hy179
 clear hy179
 have H' := Aside0.mk H
 clear H
 go_enter Try.func61, Try.ntmps61
 go_wp2_with (first | ((with_reducible refine gate_dst (N := 5) rfl ?_); refine Kd.R_lit (Kd.int .i64) _ 2 ?hg (N := 5) ?hd (xs := ([] : List Int)) (inner := []) (ok := fun _ => True) (okp := fun _ => True) ?hr ?hp (fun _ hk => hk) trivial (Below.refl _ _) (Nat.le_refl _) (by simp) ?_; (case hd => rfl); (case hg => rfl); (case hr => first | (go_simp; done) | (go_simp; rfl)); (case hp => exact (Reps.none _ _)); intro v180 w2 ho3 hb hg_ hnew_; clear hg_ hnew_; (first | rw [← Ny179.out] at ho3 | (simp only [Int.reduceToNat] at ho3; rw [← Ny179.out] at ho3)); have n0_ := Aside0.mk (Kd.R_lower ho3 (below_size (by repeat (first | (with_reducible first | exact HB.out | apply below_alloc | apply pw_below_drewN | apply below_drew1) | exact HB.out)))); have n1_ := Aside0.mk (below_step (by repeat (first | (with_reducible first | exact HB.out | apply below_alloc | apply pw_below_drewN | apply below_drew1) | exact HB.out)) hb); clear HB; have HO181 := n0_; have HB := n1_; clear n0_ n1_; clear hb ho3))
 go_loopg [3, 4] k (fun kq v3 v4 w' => ∃ (x3_1 : List Int) (x4_1 : Int), v4 = .int .i64 x4_1 ∧ Aside0 (spec_l02Each.l0 kq a0 x3_1 x4_1 = some r) ∧ Aside0 (kq ≤ k) ∧ Aside0 (Kd.R (Kd.int .i64) 2 w' w.heap.size (fun _ => True) v3 x3_1) ∧ Aside0 (Below w.heap.size w w'))
 case atStart => exact ⟨(y179), (0), (by first | rfl | (simp; done) | (simp [*]; done) | (simp; decide +kernel)), H', ⟨Nat.le_refl _⟩, ⟨by (with_reducible repeat (first | apply Kd.R_alloc | apply Kd.R_drewN | apply Kd.R_drew)); exact HO181.out⟩, ⟨by repeat (first | (with_reducible first | exact HB.out | apply below_alloc | apply pw_below_drewN | apply below_drew1) | exact HB.out)⟩⟩
 case round =>
  clear H'
  try clear p2
  obtain ⟨x3_1, x4_1, rfl, HA, HK1, HO_3, HB⟩ := hrel
  cases gk with
  | zero => exact absurd HA.out (by simp [spec_l02Each.l0])
  | succ k1 =>
   have H := HA.out
   clear HA
   simp only [spec_l02Each.l0] at H
   by_cases c4 : x4_1 < a0
   ·rw [if_pos c4] at H
    have c4b0 : decide (x4_1 < a0) = true := decide_eq_true c4
    clear c4
    by_cases c5 : x3_1.length < 17592186044416
    ·rw [if_pos c5] at H
     have LMc5 := Aside0.mk c5
     clear c5
     obtain ⟨y182, hy182⟩ : ∃ y_ : List Int, y_ = (x3_1 ++ [1]) := ⟨_, rfl⟩
     replace H : (spec_l02Each.l0 k1 a0 y182 (wrap64 (x4_1 + 1))) = some r := by first | (rw [hy182]; with_reducible exact H) | (have H2_ := (Option.bind_some _ _).symm.trans H; rw [hy182]; with_reducible exact H2_) | (have H2_ := (Option.bind_some _ _).symm.trans H; with_reducible exact H2_) | with_reducible exact H | (rw [hy182]; exact H) | exact H
     have Ny182 := Aside0.mk hy182
     clear hy182
     have H' := Aside0.mk H
     clear H
     go_wp2_with (first | ((with_reducible refine gate_builtin (b := .append) (xs := #[.tmp 11, .tmp 12]) rfl ?_); at_builtin; refine Kd.R_append (Kd.int .i64) (w0 := w) w.heap.size rfl (.tmp 11) (.tmp 12) 34 2 (.int .i64 0) 8 rfl Try.underlying34 info2 rfl (by decide) (by omega) u3 x3_1 1 [.int .i64 1] (fun _ => True) (fun _ => False) rfl rfl ?aP (fun _ hk => hk.elim) ?aF ?aO ?aB ?aS ?aL ?_; (case aP => exact rfl); (case aB => exact (by repeat (first | (with_reducible first | exact HB.out | apply below_alloc | apply pw_below_drewN | apply below_drew1) | exact HB.out))); (case aF => exact (fun _ _ => trivial)); (case aO => exact (by (with_reducible repeat (first | apply Kd.R_alloc | apply Kd.R_drewN | apply Kd.R_drew)); exact HO_3.out)); (case aS => exact (below_size (by repeat (first | (with_reducible first | exact HB.out | apply below_alloc | apply pw_below_drewN | apply below_drew1) | exact HB.out)))); (case aL => have := LMc5.out; omega); intro v183 w6 ho hb hg hat; rw [← Ny182.out] at ho; have n0_ := Aside0.mk (hb); have n1_ := Aside0.mk (ho); clear HB; clear HO_3; have HB := n0_; have HO184 := n1_; clear n0_ n1_; clear ho hb hg hat))
     go_roundg k1
     case measure => have := HK1.out; omega
     case rel => exact ⟨(y182), (wrap64 (x4_1 + 1)), (by first | rfl | (simp; done) | (simp [*]; done) | (simp; decide +kernel)), H', ⟨by have := HK1.out; omega⟩, ⟨by (with_reducible repeat (first | apply Kd.R_alloc | apply Kd.R_drewN | apply Kd.R_drew)); exact HO184.out⟩, ⟨by repeat (first | (with_reducible first | exact HB.out | apply below_alloc | apply pw_below_drewN | apply below_drew1) | exact HB.out)⟩⟩
    ·rw [if_neg c5] at H
     exact absurd H (by simp)
   ·rw [if_neg c4] at H
    have c4b0 : decide (x4_1 < a0) = false := decide_eq_false c4
    clear c4
    obtain rfl := Option.some.inj H
    go_wp2
    go_ret
    exact ⟨_, by first | rfl | (simp [errW_none, errW_some] <;> rfl) | (simp [*, errW_none, errW_some] <;> rfl), by (with_reducible repeat (first | apply Kd.R_alloc | apply Kd.R_drewN | apply Kd.R_drew)); exact HO_3.out, by repeat (first | (with_reducible first | exact HB.out | apply below_alloc | apply pw_below_drewN | apply below_drew1) | exact HB.out)⟩
end Go.Proofs.Ytenlcakpcbmmdaa.Q
namespace Go.Proofs.Ytenlcakpcbmmdaa.Q
open Go.RowKit Go.Proofs.YtenlcakpcbmmdaaW.PrintWords Go.Proofs.YtenlcakpcbmmdaaW.PrintLast Go.Proofs.YtenlcakpcbmmdaaW.PrintMore
attribute [local go_sem] max2_int min2_int max_two min_two max_three min_three max_four min_four
set_option linter.unusedVariables false
set_option linter.unusedSimpArgs false
def spec_l02Total.l0 : Nat → List Int → Int → Int → Option (Int)
 | 0, _, _, _ => none
 | k + 1, x0, x3, x4 => if x4 < (x0.length : Int) then (if 0 ≤ x4 then (spec_l02Total.l0 k x0 (mn (wrap64 (x3 + (rd x0 x4))) 1000000000000001) (wrap64 (x4 + 1))) else (none)) else (some x3)
def spec_l02Total.f (k : Nat) (l0 : List Int) : Option (Int) := spec_l02Total.l0 k l0 0 0
theorem spec_l02Total.mono_l : ∀ k, (∀ y0 y1 y2, LeO (spec_l02Total.l0 k y0 y1 y2) (spec_l02Total.l0 (k + 1) y0 y1 y2))
 | 0 => fun _ _ _ r h => by simp [spec_l02Total.l0] at h
 | k + 1 => by
  have ih0 := spec_l02Total.mono_l k
  ·intro y0 y1 y2
   unfold spec_l02Total.l0
   repeat' first
   | (with_reducible exact ih0 _ _ _)
   | (with_reducible exact LeO.refl _)
   | (with_reducible exact LeO.none _)
   | (with_reducible refine LeO.ite ?_ ?_)
   | (with_reducible refine LeO.bind ?_ (fun _ => ?_))
   | exact ih0 _ _ _
   | exact LeO.none _
   | refine LeO.ite ?_ ?_
   | refine LeO.bind ?_ (fun _ => ?_)
theorem spec_l02Total.mono : ∀ a0 k, LeO (spec_l02Total.f k a0) (spec_l02Total.f (k + 1) a0) := by
 intro a0 k
 have ih0 := spec_l02Total.mono_l k
 unfold spec_l02Total.f
 repeat' first
   | (with_reducible exact ih0 _ _ _)
   | (with_reducible exact LeO.refl _)
   | (with_reducible exact LeO.none _)
   | (with_reducible refine LeO.ite ?_ ?_)
   | (with_reducible refine LeO.bind ?_ (fun _ => ?_))
   | exact ih0 _ _ _
   | exact LeO.none _
   | refine LeO.ite ?_ ?_
   | refine LeO.bind ?_ (fun _ => ?_)
set_option maxHeartbeats 8000000 in
set_option maxRecDepth 100000 in
theorem spec_l02Total.calls (k : Nat) (A0 : Option Addr) (c0 : Nat) (l0 : List Int) (r : Int) (w : World) (hr0 : Kd.C (Kd.int .i64) w A0 l0.length l0) (hc0 : l0.length ≤ c0) (h : spec_l02Total.f k l0 = some r) :
  Calls Try.prog 60 #[.slice A0 l0.length c0] w fun e w' => e = .returned (.int .i64 r) ∧ Below w.heap.size w w' := by
 have HR0 := Aside0.mk hr0
 have HC0 := Aside0.mk hc0
 clear hr0 hc0
 have HB := Aside0.mk (Below.refl w.heap.size w)
 have H : (spec_l02Total.l0 k l0 0 0) = some r := h
 clear h
 have H' := Aside0.mk H
 clear H
 go_enter Try.func60, Try.ntmps60
 go_wp2
 go_loopg [3, 4] k (fun kq v3 v4 w' => ∃ (x3_1 : Int) (x4_1 : Int), v3 = .int .i64 x3_1 ∧ v4 = .int .i64 x4_1 ∧ Aside0 (spec_l02Total.l0 kq l0 x3_1 x4_1 = some r) ∧ Aside0 (kq ≤ k) ∧ Aside0 (Below w.heap.size w w'))
 case atStart => exact ⟨(0), (0), (by first | rfl | (simp; done) | (simp [*]; done) | (simp; decide +kernel)), (by first | rfl | (simp; done) | (simp [*]; done) | (simp; decide +kernel)), H', ⟨Nat.le_refl _⟩, ⟨by repeat (first | (with_reducible first | exact HB.out | apply below_alloc | apply pw_below_drewN | apply below_drew1) | exact HB.out)⟩⟩
 case round =>
  clear H'
  obtain ⟨x3_1, x4_1, rfl, rfl, HA, HK1, HB⟩ := hrel
  cases gk with
  | zero => exact absurd HA.out (by simp [spec_l02Total.l0])
  | succ k1 =>
   have H := HA.out
   clear HA
   simp only [spec_l02Total.l0] at H
   by_cases c2 : x4_1 < (l0.length : Int)
   ·rw [if_pos c2] at H
    have c2b0 : decide (x4_1 < (l0.length : Int)) = true := decide_eq_true c2
    clear c2
    by_cases c3 : 0 ≤ x4_1
    ·rw [if_pos c3] at H
     have c3b0 : decide (0 ≤ x4_1) = true := decide_eq_true c3
     clear c3
     obtain ⟨ji4, hji4⟩ : ∃ j_ : Int, (mn (wrap64 (x3_1 + (rd l0 x4_1))) 1000000000000001) = j_ := ⟨_, rfl⟩
     replace H : (spec_l02Total.l0 k1 l0 ji4 (wrap64 (x4_1 + 1))) = some r := by first | (rw [hji4] at H; exact H) | (simp only [hji4] at H ⊢; exact H)
     have hji4_ : (if 1000000000000001 < (wrap64 (x3_1 + (rd l0 x4_1))) then 1000000000000001 else (wrap64 (x3_1 + (rd l0 x4_1)))) = ji4 := hji4
     have H' := Aside0.mk H
     clear H
     have p178 : 0 ≤ (x4_1 : Int) := of_decide_eq_true (by first | (with_reducible assumption) | assumption)
     have q178 : x4_1 < (l0.length : Int) := of_decide_eq_true (by first | (with_reducible assumption) | assumption)
     obtain ⟨ad178, e178, hx178_0⟩ := Kd.at_int HR0.out x4_1 p178 q178
     cases e178
     replace hx178_0 := (HB.out.cell (World.block_lt_of_cell? w _ hx178_0)).trans hx178_0
     replace p178 := eq_true p178
     replace q178 := eq_true q178
     go_wp2
     go_roundg k1
     case measure => have := HK1.out; omega
     case rel => exact ⟨(ji4), (wrap64 (x4_1 + 1)), (by first | rfl | (simp; done) | (simp only [← hji4] <;> (first | rfl | simp)) | (simp [*]; done)), (by first | rfl | (simp; done) | (simp [*]; done) | (simp; decide +kernel)), H', ⟨by have := HK1.out; omega⟩, ⟨by repeat (first | (with_reducible first | exact HB.out | apply below_alloc | apply pw_below_drewN | apply below_drew1) | exact HB.out)⟩⟩
    ·rw [if_neg c3] at H
     exact absurd H (by simp)
   ·rw [if_neg c2] at H
    have c2b0 : decide (x4_1 < (l0.length : Int)) = false := decide_eq_false c2
    clear c2
    obtain rfl := Option.some.inj H
    go_wp2
    go_ret
    exact ⟨by first | rfl | (simp [errW_none, errW_some] <;> rfl) | (simp [*, errW_none, errW_some] <;> rfl), by repeat (first | (with_reducible first | exact HB.out | apply below_alloc | apply pw_below_drewN | apply below_drew1) | exact HB.out)⟩
end Go.Proofs.Ytenlcakpcbmmdaa.Q
namespace Go.Proofs.Ytenlcakpcbmmdaa.Q
open Go.RowKit Go.Proofs.YtenlcakpcbmmdaaW.PrintWords Go.Proofs.YtenlcakpcbmmdaaW.PrintLast Go.Proofs.YtenlcakpcbmmdaaW.PrintMore
attribute [local go_sem] max2_int min2_int max_two min_two max_three min_three max_four min_four
set_option linter.unusedVariables false
set_option linter.unusedSimpArgs false
def impl_anyColour.f (a0 : Int) : Option (Bool) := some true
set_option maxHeartbeats 8000000 in
set_option maxRecDepth 100000 in
theorem impl_anyColour.calls (a0 : Int) (r : Bool) (w : World) (h : impl_anyColour.f a0 = some r) :
  Calls Try.prog 67 #[.int .i64 a0] w fun e w' => e = .returned (.bool r) ∧ Drawn0 w w' := by
 have H : (some true) = some r := h
 clear h
 obtain rfl := Option.some.inj H
 go_enter Try.func67, Try.ntmps67
 go_wp2
 go_ret
 exact ⟨by first | rfl | (simp; done) | (simp [*]; done) | (simp; decide +kernel), by repeat (first | exact Drawn0.refl _ | apply Drawn0.step)⟩
end Go.Proofs.Ytenlcakpcbmmdaa.Q
namespace Go.Proofs.Ytenlcakpcbmmdaa.Q
open Go.RowKit Go.Proofs.YtenlcakpcbmmdaaW.PrintWords Go.Proofs.YtenlcakpcbmmdaaW.PrintLast Go.Proofs.YtenlcakpcbmmdaaW.PrintMore
attribute [local go_sem] max2_int min2_int max_two min_two max_three min_three max_four min_four
set_option linter.unusedVariables false
set_option linter.unusedSimpArgs false
mutual
def impl_Set_left_at_impl_anyColour.l0 : Nat → List Int → List (List Int) → Int → Int → List (S77) → Option ((List (List Int)))
 | 0, _, _, _, _, _ => none
 | k + 1, x1, x7, x8, x233000, x233001 => if x8 ≥ 0 then (if 0 ≤ x233000 then (if (x233000 : Int).toNat ≤ 35184372088832 then (if 0 ≤ x8 then (if x8 < (x7.length : Int) then (impl_Set_left_at_impl_anyColour.l1 k x1 (x7.set (x8 : Int).toNat (List.replicate (x233000 : Int).toNat 0)) x8 x233000 0 x233000 x233001) else (none)) else (none)) else (none)) else (none)) else (some x7)
def impl_Set_left_at_impl_anyColour.l1 : Nat → List Int → List (List Int) → Int → Int → Int → Int → List (S77) → Option ((List (List Int)))
 | 0, _, _, _, _, _, _, _ => none
 | k + 1, x1, x7, x8, x29, x30, x233000, x233001 => if x30 < x29 then (if x8 = (x1.length : Int) then ((impl_anyColour.f x30).bind fun t240 => (if t240 = true then (if 0 ≤ x8 then (if x8 < (x7.length : Int) then (if 0 ≤ x30 then (if x30 < ((rd_L5 x7 x8).length : Int) then (impl_Set_left_at_impl_anyColour.l1 k x1 (x7.set (x8 : Int).toNat ((rd_L5 x7 x8).set (x30 : Int).toNat 1)) x8 x29 (wrap64 (x30 + 1)) x233000 x233001) else (none)) else (none)) else (none)) else (none)) else (impl_Set_left_at_impl_anyColour.l1 k x1 x7 x8 x29 (wrap64 (x30 + 1)) x233000 x233001))) else (impl_Set_left_at_impl_anyColour.l1 k x1 x7 x8 x29 (wrap64 (x30 + 1)) x233000 x233001)) else (if x8 = (x1.length : Int) then (impl_Set_left_at_impl_anyColour.l0 k x1 x7 (wrap64 (x8 - 1)) x233000 x233001) else (impl_Set_left_at_impl_anyColour.l2 k x1 x7 x8 x233001 (x233001.length : Int) 0 x233000 x233001))
def impl_Set_left_at_impl_anyColour.l2 : Nat → List Int → List (List Int) → Int → List (S77) → Int → Int → Int → List (S77) → Option ((List (List Int)))
 | 0, _, _, _, _, _, _, _, _ => none
 | k + 1, x1, x7, x8, x54, x55, x56, x233000, x233001 => if x56 < x55 then (if 0 ≤ x56 then (if x56 < (x54.length : Int) then (if 0 ≤ x8 then (if x8 < (x1.length : Int) then (if ((rd_T77 x54 x56).f1) = (rd x1 x8) then (if x8 < (x7.length : Int) then (if 0 ≤ ((rd_T77 x54 x56).f0) then (if ((rd_T77 x54 x56).f0) < ((rd_L5 x7 x8).length : Int) then (if 0 ≤ (wrap64 (x8 + 1)) then (if (wrap64 (x8 + 1)) < (x7.length : Int) then (if 0 ≤ ((rd_T77 x54 x56).f2) then (if ((rd_T77 x54 x56).f2) < ((rd_L5 x7 (wrap64 (x8 + 1))).length : Int) then (impl_Set_left_at_impl_anyColour.l2 k x1 (x7.set (x8 : Int).toNat ((rd_L5 x7 x8).set (((rd_T77 x54 x56).f0) : Int).toNat (mn 1000000000000001 (wrap64 ((rd (rd_L5 x7 x8) ((rd_T77 x54 x56).f0)) + (rd (rd_L5 x7 (wrap64 (x8 + 1))) ((rd_T77 x54 x56).f2))))))) x8 x54 x55 (wrap64 (x56 + 1)) x233000 x233001) else (none)) else (none)) else (none)) else (none)) else (none)) else (none)) else (none)) else (impl_Set_left_at_impl_anyColour.l2 k x1 x7 x8 x54 x55 (wrap64 (x56 + 1)) x233000 x233001)) else (none)) else (none)) else (none)) else (none)) else (impl_Set_left_at_impl_anyColour.l0 k x1 x7 (wrap64 (x8 - 1)) x233000 x233001)
end
def impl_Set_left_at_impl_anyColour.f (k : Nat) (a0_0 : Int) (l0_1 : List (S77)) (l1 : List Int)  : Option ((List (List Int))) := if 0 ≤ (wrap64 ((l1.length : Int) + 1)) then (if (wrap64 ((l1.length : Int) + 1) : Int).toNat ≤ 11728124029610 then (impl_Set_left_at_impl_anyColour.l0 k l1 (List.replicate (wrap64 ((l1.length : Int) + 1) : Int).toNat []) (l1.length : Int) a0_0 l0_1) else (none)) else (none)
theorem impl_Set_left_at_impl_anyColour.mono_l : ∀ k, (∀ y0 y1 y2 y3 y4, LeO (impl_Set_left_at_impl_anyColour.l0 k y0 y1 y2 y3 y4) (impl_Set_left_at_impl_anyColour.l0 (k + 1) y0 y1 y2 y3 y4)) ∧ (∀ y0 y1 y2 y3 y4 y5 y6, LeO (impl_Set_left_at_impl_anyColour.l1 k y0 y1 y2 y3 y4 y5 y6) (impl_Set_left_at_impl_anyColour.l1 (k + 1) y0 y1 y2 y3 y4 y5 y6)) ∧ (∀ y0 y1 y2 y3 y4 y5 y6 y7, LeO (impl_Set_left_at_impl_anyColour.l2 k y0 y1 y2 y3 y4 y5 y6 y7) (impl_Set_left_at_impl_anyColour.l2 (k + 1) y0 y1 y2 y3 y4 y5 y6 y7))
 | 0 => ⟨fun _ _ _ _ _ r h => by simp [impl_Set_left_at_impl_anyColour.l0] at h, fun _ _ _ _ _ _ _ r h => by simp [impl_Set_left_at_impl_anyColour.l1] at h, fun _ _ _ _ _ _ _ _ r h => by simp [impl_Set_left_at_impl_anyColour.l2] at h⟩
 | k + 1 => by
  obtain ⟨ih0, ih1, ih2⟩ := impl_Set_left_at_impl_anyColour.mono_l k
  refine ⟨?_, ?_, ?_⟩
  ·intro y0 y1 y2 y3 y4
   unfold impl_Set_left_at_impl_anyColour.l0
   repeat' first
   | (with_reducible exact ih0 _ _ _ _ _)
   | (with_reducible exact ih1 _ _ _ _ _ _ _)
   | (with_reducible exact ih2 _ _ _ _ _ _ _ _)
   | (with_reducible exact LeO.refl _)
   | (with_reducible exact LeO.none _)
   | (with_reducible refine LeO.ite ?_ ?_)
   | (with_reducible refine LeO.bind ?_ (fun _ => ?_))
   | exact ih0 _ _ _ _ _
   | exact ih1 _ _ _ _ _ _ _
   | exact ih2 _ _ _ _ _ _ _ _
   | exact LeO.none _
   | refine LeO.ite ?_ ?_
   | refine LeO.bind ?_ (fun _ => ?_)
  ·intro y0 y1 y2 y3 y4 y5 y6
   unfold impl_Set_left_at_impl_anyColour.l1
   repeat' first
   | (with_reducible exact ih0 _ _ _ _ _)
   | (with_reducible exact ih1 _ _ _ _ _ _ _)
   | (with_reducible exact ih2 _ _ _ _ _ _ _ _)
   | (with_reducible exact LeO.refl _)
   | (with_reducible exact LeO.none _)
   | (with_reducible refine LeO.ite ?_ ?_)
   | (with_reducible refine LeO.bind ?_ (fun _ => ?_))
   | exact ih0 _ _ _ _ _
   | exact ih1 _ _ _ _ _ _ _
   | exact ih2 _ _ _ _ _ _ _ _
   | exact LeO.none _
   | refine LeO.ite ?_ ?_
   | refine LeO.bind ?_ (fun _ => ?_)
  ·intro y0 y1 y2 y3 y4 y5 y6 y7
   unfold impl_Set_left_at_impl_anyColour.l2
   repeat' first
   | (with_reducible exact ih0 _ _ _ _ _)
   | (with_reducible exact ih1 _ _ _ _ _ _ _)
   | (with_reducible exact ih2 _ _ _ _ _ _ _ _)
   | (with_reducible exact LeO.refl _)
   | (with_reducible exact LeO.none _)
   | (with_reducible refine LeO.ite ?_ ?_)
   | (with_reducible refine LeO.bind ?_ (fun _ => ?_))
   | exact ih0 _ _ _ _ _
   | exact ih1 _ _ _ _ _ _ _
   | exact ih2 _ _ _ _ _ _ _ _
   | exact LeO.none _
   | refine LeO.ite ?_ ?_
   | refine LeO.bind ?_ (fun _ => ?_)
theorem impl_Set_left_at_impl_anyColour.mono : ∀ a0 a1 a2 k, LeO (impl_Set_left_at_impl_anyColour.f k a0 a1 a2) (impl_Set_left_at_impl_anyColour.f (k + 1) a0 a1 a2) := by
 intro a0 a1 a2 k
 obtain ⟨ih0, ih1, ih2⟩ := impl_Set_left_at_impl_anyColour.mono_l k
 unfold impl_Set_left_at_impl_anyColour.f
 repeat' first
   | (with_reducible exact ih0 _ _ _ _ _)
   | (with_reducible exact ih1 _ _ _ _ _ _ _)
   | (with_reducible exact ih2 _ _ _ _ _ _ _ _)
   | (with_reducible exact LeO.refl _)
   | (with_reducible exact LeO.none _)
   | (with_reducible refine LeO.ite ?_ ?_)
   | (with_reducible refine LeO.bind ?_ (fun _ => ?_))
   | exact ih0 _ _ _ _ _
   | exact ih1 _ _ _ _ _ _ _
   | exact ih2 _ _ _ _ _ _ _ _
   | exact LeO.none _
   | refine LeO.ite ?_ ?_
   | refine LeO.bind ?_ (fun _ => ?_)
def impl_Set_left_at_impl_anyColour.T17 : Bool × List (List Nat × List Nat) := (true, [([], []), ([], []), ([0, 1], [0, 1]), ([2], [2]), ([], []), ([4], [4]), ([], []), ([], []), ([6, 7], [6, 7]), ([8], [8]), ([], []), ([10], [10]), ([9, 11], [9, 11]), ([12], [12]), ([], []), ([], []), ([15], [15]), ([14, 16], [14, 16]), ([17], [17]), ([], []), ([19], [19]), ([18, 20], [18, 20]), ([21], [21]), ([13, 22], [13, 22]), ([23], [23]), ([3, 5, 0, 1, 2, 3, 4, 5, 6, 7, 8, 9, 10, 11, 12, 13, 14, 15, 16, 17, 18, 19, 20, 21, 22, 23, 24], [3, 5]), ([25, 24, 0, 1, 2, 3, 4, 5, 6, 7, 8, 9, 10, 11, 12, 13, 14, 15, 16, 17, 18, 19, 20, 21, 22, 23, 24], [24, 25])])
def impl_Set_left_at_impl_anyColour.B17 : List Nat := [0, 0, 3, 7, 0, 16, 0, 0, 192, 448, 0, 1024, 4032, 8128, 0, 0, 32768, 114688, 245760, 0, 524288, 2080768, 4177920, 8388544, 16777152, 33554431, 67108863]
theorem impl_Set_left_at_impl_anyColour.tab17 : rtab .any (opsOf Try.f66 17) = impl_Set_left_at_impl_anyColour.T17 := by kernel_rfl
theorem impl_Set_left_at_impl_anyColour.bits17 : waitsOk impl_Set_left_at_impl_anyColour.T17.2 impl_Set_left_at_impl_anyColour.B17 = true := by kernel_rfl
set_option maxHeartbeats 8000000 in
set_option maxRecDepth 100000 in
theorem impl_Set_left_at_impl_anyColour.calls (k : Nat) (a0_0 : Int) (A0_1 : Option Addr) (c0_1 : Nat) (l0_1 : List (S77)) (A1 : Option Addr) (c1 : Nat) (l1 : List Int)  (r : List (List Int)) (w : World) (hr0_1 : Kd.C k77 w A0_1 l0_1.length l0_1) (hc0_1 : l0_1.length ≤ c0_1) (hr1 : Kd.C (Kd.int .i64) w A1 l1.length l1) (hc1 : l1.length ≤ c1) (h : impl_Set_left_at_impl_anyColour.f k a0_0 l0_1 l1 = some r) :
  Calls Try.prog 66 #[.agg #[.int .i64 a0_0, .slice A0_1 l0_1.length c0_1], .slice A1 l1.length c1, .func (.func 67) #[] #[]] w fun e w' => ∃ v0_ : Value, e = .returned (v0_) ∧ Kd.S (Kd.slice 2 (Kd.int .i64)) 34 w' w.heap.size (fun _ => True) v0_ r ∧ Below w.heap.size w w' := by
 have hu30 := Try.underlying30
 have hu77 := Try.underlying77
 have HR0_1 := Aside0.mk hr0_1
 have HC0_1 := Aside0.mk hc0_1
 clear hr0_1 hc0_1
 have HR1 := Aside0.mk hr1
 have HC1 := Aside0.mk hc1
 clear hr1 hc1
 have HB := Aside0.mk (Below.refl w.heap.size w)
 have H : (if 0 ≤ (wrap64 ((l1.length : Int) + 1)) then (if (wrap64 ((l1.length : Int) + 1) : Int).toNat ≤ 11728124029610 then (impl_Set_left_at_impl_anyColour.l0 k l1 (List.replicate (wrap64 ((l1.length : Int) + 1) : Int).toNat []) (l1.length : Int) a0_0 l0_1) else (none)) else (none)) = some r := h
 clear h
 obtain ⟨ji4, hji4⟩ : ∃ j_ : Int, (wrap64 ((l1.length : Int) + 1)) = j_ := ⟨_, rfl⟩
 replace H : (if 0 ≤ (ji4) then (if (ji4 : Int).toNat ≤ 11728124029610 then (impl_Set_left_at_impl_anyColour.l0 k l1 (List.replicate (ji4 : Int).toNat []) (l1.length : Int) a0_0 l0_1) else (none)) else (none)) = some r := by first | (rw [hji4] at H; exact H) | (simp only [hji4] at H ⊢; exact H)
 have hji4w : (IntKind.i64.wrap ((l1.length : Int) + 1)) = ji4 := (i64_w _).trans hji4
 by_cases c5 : 0 ≤ (ji4)
 ·rw [if_pos c5] at H
  have c5b0 := eq_true c5
  have c5b1 : decide (0 ≤ (ji4)) = true := decide_eq_true c5
  clear c5
  by_cases c6 : (ji4 : Int).toNat ≤ 11728124029610
  ·rw [if_pos c6] at H
   have c6b0 := eq_true c6
   have c6b1 : decide ((ji4 : Int).toNat ≤ 11728124029610) = true := decide_eq_true c6
   clear c6
   obtain ⟨y233, hy233⟩ : ∃ y_ : List (List Int), y_ = (List.replicate (ji4 : Int).toNat []) := ⟨_, rfl⟩
   replace H : (impl_Set_left_at_impl_anyColour.l0 k l1 y233 (l1.length : Int) a0_0 l0_1) = some r := by first | (rw [hy233]; with_reducible exact H) | (have H2_ := (Option.bind_some _ _).symm.trans H; rw [hy233]; with_reducible exact H2_) | (have H2_ := (Option.bind_some _ _).symm.trans H; with_reducible exact H2_) | with_reducible exact H | (rw [hy233]; exact H) | exact H
   have Ny233 := Aside0.mk hy233
   clear hy233
   have H' := Aside0.mk H
   clear H
   go_enter Try.func66, Try.ntmps66
   go_wp2_with (first | ((with_reducible refine gate_dst (N := 3) rfl ?_); refine box_event ?hg (N := 3) ?hd (cs := #[.int .i64 a0_0, .slice A0_1 l0_1.length c0_1]) (t := 30) ?hr ?_; (case hd => rfl); (case hg => rfl); (case hr => first | (go_simp; done) | (go_simp; rfl)); intro gb232 hg w7 hbox hb; have n0_ := Aside0.mk (below_step (by repeat (first | (with_reducible first | exact HB.out | apply below_alloc | apply pw_below_drewN | apply below_drew1) | exact HB.out)) hb); have n1_ := Aside0.mk (hbox); have n2_ := Aside0.mk ((by rw [hg]; exact (below_size (by repeat (first | (with_reducible first | exact HB.out | apply below_alloc | apply pw_below_drewN | apply below_drew1) | exact HB.out))) : w.heap.size ≤ gb232)); have n3_ := Aside0.mk ((by rw [hg]; exact (below_size (by repeat (first | (with_reducible first | exact HB.out | apply below_alloc | apply pw_below_drewN | apply below_drew1) | exact HB.out))) : w.heap.size ≤ gb232)); clear HB; have HB := n0_; have BK232 := n1_; have GW232 := n2_; have GE232 := n3_; clear n0_ n1_ n2_ n3_; clear hb hbox hg) | ((with_reducible refine gate_dst (N := 15) rfl ?_); refine Kd.S_make (Kd.slice 2 (Kd.int .i64)) _ 34 rfl (N := 15) rfl 43 _ _ rfl ji4 rfl rfl Try.underlying43 (.slice none 0 0) 24 info34 rfl (by decide) (by omega) [] (ok := fun _ => True) (okp := fun _ => True) ⟨_, rfl, Kd.R_nil _ _ _ _ _⟩ (fun _ hk => hk) trivial (of_decide_eq_true (by first | (with_reducible assumption) | assumption)) (Nat.le_trans (Nat.mul_le_mul_right _ (of_decide_eq_true (by first | (with_reducible assumption) | assumption) : ji4.toNat ≤ 11728124029610)) (by omega)) (Below.refl _ _) (Nat.le_refl _) ?_; intro v234 w8 ho9 hb hg_ hnew_; clear hg_ hnew_; (first | rw [← Ny233.out] at ho9 | (simp only [Int.reduceToNat] at ho9; rw [← Ny233.out] at ho9)); have n0_ := Aside0.mk (Kd.S_lower ho9 (below_size (by repeat (first | (with_reducible first | exact HB.out | apply below_alloc | apply pw_below_drewN | apply below_drew1 | refine below_set ?_ GE232.out) | exact HB.out)))); have n1_ := Aside0.mk (blk_below (g := gb232) (o := .cells #[.int .i64 a0_0, .slice A0_1 l0_1.length c0_1] 30 (0, 0)) (by (with_reducible repeat (first | refine blk_drewN ?_ _ | refine blk_drew ?_ | refine blk_alloc ?_ _)); exact BK232.out) hb); have n2_ := Aside0.mk (below_step (by repeat (first | (with_reducible first | exact HB.out | apply below_alloc | apply pw_below_drewN | apply below_drew1 | refine below_set ?_ GE232.out) | exact HB.out)) hb); clear BK232; clear HB; have HO235 := n0_; have BK232 := n1_; have HB := n2_; clear n0_ n1_ n2_; clear hb ho9))
   go_loopg [8] k (fun kq v8 w' => ∃ (x7_1 : List (List Int)) (x8_1 : Int), v8 = .int .i64 x8_1 ∧ Aside0 (impl_Set_left_at_impl_anyColour.l0 kq l1 x7_1 x8_1 a0_0 l0_1 = some r) ∧ Aside0 (kq ≤ k) ∧ Aside0 (Kd.S (Kd.slice 2 (Kd.int .i64)) 34 w' w.heap.size (fun _ => True) v234 x7_1) ∧ Aside0 (w'.heap[gb232]? = some (.cells #[.int .i64 a0_0, (.slice A0_1 l0_1.length c0_1)] 30 (0, 0))) ∧ Aside0 (Below w.heap.size w w'))
   case atStart => exact ⟨(y233), ((l1.length : Int)), (by first | rfl | (simp; done) | (simp [*]; done) | (simp; decide +kernel)), H', ⟨Nat.le_refl _⟩, ⟨by (with_reducible repeat (first | apply Kd.S_alloc | apply Kd.S_drewN | apply Kd.S_drew)); exact HO235.out⟩, ⟨by (with_reducible repeat (first | refine blk_drewN ?_ _ | refine blk_drew ?_ | refine blk_alloc ?_ _)); exact BK232.out⟩, ⟨by repeat (first | (with_reducible first | exact HB.out | apply below_alloc | apply pw_below_drewN | apply below_drew1 | refine below_set ?_ GE232.out) | exact HB.out)⟩⟩
   case round =>
    clear H'
    try clear c1
    try clear p2
    try clear c5
    try clear c5b0
    try clear c5b1
    try clear c6
    try clear c6b0
    try clear c6b1
    try clear p6
    obtain ⟨x7_1, x8_1, rfl, HA, HK1, HO_7, BK232, HB⟩ := hrel
    cases gk with
    | zero => exact absurd HA.out (by simp [impl_Set_left_at_impl_anyColour.l0])
    | succ k1 =>
     have H := HA.out
     clear HA
     simp only [impl_Set_left_at_impl_anyColour.l0] at H
     by_cases c10 : x8_1 ≥ 0
     ·rw [if_pos c10] at H
      have c10b0 : decide (0 ≤ x8_1) = true := decide_eq_true c10
      clear c10
      by_cases c11 : 0 ≤ a0_0
      ·rw [if_pos c11] at H
       have c11b0 := eq_true c11
       have c11b1 : decide (0 ≤ a0_0) = true := decide_eq_true c11
       clear c11
       by_cases c12 : (a0_0 : Int).toNat ≤ 35184372088832
       ·rw [if_pos c12] at H
        have c12b0 := eq_true c12
        have c12b1 : decide ((a0_0 : Int).toNat ≤ 35184372088832) = true := decide_eq_true c12
        clear c12
        obtain ⟨y236, hy236⟩ : ∃ y_ : List Int, y_ = (List.replicate (a0_0 : Int).toNat 0) := ⟨_, rfl⟩
        replace H : (if 0 ≤ x8_1 then (if x8_1 < (x7_1.length : Int) then (impl_Set_left_at_impl_anyColour.l1 k1 l1 (x7_1.set (x8_1 : Int).toNat y236) x8_1 a0_0 0 a0_0 l0_1) else (none)) else (none)) = some r := by first | (rw [hy236]; with_reducible exact H) | (have H2_ := (Option.bind_some _ _).symm.trans H; rw [hy236]; with_reducible exact H2_) | (have H2_ := (Option.bind_some _ _).symm.trans H; with_reducible exact H2_) | with_reducible exact H | (rw [hy236]; exact H) | exact H
        have Ny236 := Aside0.mk hy236
        clear hy236
        by_cases c13 : 0 ≤ x8_1
        ·rw [if_pos c13] at H
         have c13b0 : decide (0 ≤ x8_1) = true := decide_eq_true c13
         clear c13
         by_cases c14 : x8_1 < (x7_1.length : Int)
         ·rw [if_pos c14] at H
          have c14b0 : decide (x8_1 < (x7_1.length : Int)) = true := decide_eq_true c14
          clear c14
          obtain ⟨y239, hy239⟩ : ∃ y_ : List (List Int), y_ = (x7_1.set (x8_1 : Int).toNat y236) := ⟨_, rfl⟩
          replace H : (impl_Set_left_at_impl_anyColour.l1 k1 l1 y239 x8_1 a0_0 0 a0_0 l0_1) = some r := by first | (rw [hy239]; with_reducible exact H) | (have H2_ := (Option.bind_some _ _).symm.trans H; rw [hy239]; with_reducible exact H2_) | (have H2_ := (Option.bind_some _ _).symm.trans H; with_reducible exact H2_) | with_reducible exact H | (rw [hy239]; exact H) | exact H
          have Ny239 := Aside0.mk hy239
          clear hy239
          have H' := Aside0.mk H
          clear H
          have hcz16_0 : wr.cell? ⟨gb232, 0, none⟩ = some (.int .i64 a0_0) := (blk_cell BK232.out 0).trans rfl
          have hcz16_1 : wr.cell? ⟨gb232, 1, none⟩ = some (.slice A0_1 l0_1.length c0_1) := (blk_cell BK232.out 1).trans rfl
          have hfz16_0 := blk_frozen BK232.out 0
          have hfz16_1 := blk_frozen BK232.out 1
          go_wp2_with (first | ((with_reducible refine gate_dst (N := 26) rfl ?_); refine Kd.R_make (Kd.int .i64) _ 2 rfl (N := 26) rfl 34 _ _ rfl a0_0 rfl rfl Try.underlying34 (.int .i64 0) 8 info2 rfl (by decide) (by omega) 0 (ok := fun _ => True) (okp := fun _ => True) rfl (fun _ hk => hk) trivial (of_decide_eq_true (by first | (with_reducible assumption) | assumption)) (Nat.le_trans (Nat.mul_le_mul_right _ (of_decide_eq_true (by first | (with_reducible assumption) | assumption) : a0_0.toNat ≤ 35184372088832)) (by omega)) (Below.refl _ _) (Nat.le_refl _) ?_; intro v237 w17 ho18 hb hg_ hnew_; clear hg_ hnew_; (first | rw [← Ny236.out] at ho18 | (simp only [Int.reduceToNat] at ho18; rw [← Ny236.out] at ho18)); have n0_ := Aside0.mk (Kd.S_elder' (by (with_reducible repeat (first | apply Kd.S_alloc | apply Kd.S_drewN | apply Kd.S_drew)); exact HO_7.out) (Kd.R_base ho18) hb); have n1_ := Aside0.mk (Kd.R_lower ho18 (below_size (by repeat (first | (with_reducible first | exact HB.out | apply below_alloc | apply pw_below_drewN | apply below_drew1 | refine below_set ?_ GE232.out) | exact HB.out)))); have n2_ := Aside0.mk (blk_below (g := gb232) (o := .cells #[.int .i64 a0_0, .slice A0_1 l0_1.length c0_1] 30 (0, 0)) (by (with_reducible repeat (first | refine blk_drewN ?_ _ | refine blk_drew ?_ | refine blk_alloc ?_ _)); exact BK232.out) hb); have n3_ := Aside0.mk (below_step (by repeat (first | (with_reducible first | exact HB.out | apply below_alloc | apply pw_below_drewN | apply below_drew1 | refine below_set ?_ GE232.out) | exact HB.out)) hb); clear HO_7; clear BK232; clear HB; have HO_7 := n0_; have HO238 := n1_; have BK232 := n2_; have HB := n3_; clear n0_ n1_ n2_ n3_; clear hb ho18; have p15 : 0 ≤ (x8_1 : Int) := of_decide_eq_true (by first | (with_reducible assumption) | assumption); have q15 : (x8_1 : Int) < ((x7_1.length : Int) : Int) := of_decide_eq_true (by first | (with_reducible assumption) | assumption); obtain ⟨go15, co15, eo15, gb15, gl15, cl15, HG15⟩ := Kd.S_form HO_7.out (by omega); (first | cases eo15 | (injection eo15 with ea_ en_ ec_; (first | subst ea_ | (injection ea_ with ea_; subst ea_)); subst ec_; clear en_)); have GB15 := Aside0.mk gb15; have GG15 := Aside0.mk HG15; clear gb15 gl15 HG15; obtain ⟨_, ce15, hcl15, hM15, hcc15, hfr15, _, _⟩ := Kd.S_elem HO_7.out [] (x8_1 : Int) p15 q15; obtain ⟨ve15_0, rfl, ge15_0⟩ := hM15; have hx15_0 := hcc15 0 _ rfl; have hf15_0 := hfr15 0; (try simp only [show ((Kd.slice 2 (Kd.int .i64))).sz = 1 from rfl, Nat.mul_one, Nat.add_zero] at hx15_0); (try simp only [show ((Kd.slice 2 (Kd.int .i64))).sz = 1 from rfl, Nat.mul_one, Nat.add_zero] at hf15_0); clear hcl15 hcc15 hfr15; (try clear hM15); replace p15 := eq_true p15; replace q15 := eq_true q15; obtain ⟨Ao21, co21, eo21⟩ := Kd.R_slice HO238.out; subst eo21; have n_ := Aside0.mk (Kd.S_mono (ok' := (fun k_ => some k_ ≠ (.slice Ao21 y236.length co21 : Value).ownBlock)) HO_7.out (fun k_ hk => hk.2)); clear HO_7; have HO_7 := n_; clear n_; have HX19 := Aside0.mk (show Kd.S (Kd.slice 2 (Kd.int .i64)) 34 w17 w.heap.size (fun k_ => ((fun _ => True)) k_ ∧ ¬ ((fun k_ => some k_ = (.slice Ao21 y236.length co21 : Value).ownBlock)) k_) (.slice (some ⟨go15, 0, none⟩) x7_1.length co15) x7_1 from (by (with_reducible repeat (first | apply Kd.S_alloc | apply Kd.S_drewN | apply Kd.S_drew)); exact Kd.S_mono HO_7.out (fun k_ hk => ⟨trivial, fun e_ => hk e_⟩))); obtain ⟨oki19, ce19, hcl19, hM19, hcc19, hfr19, hoki19, hH19⟩ := Kd.S_elem HX19.out [] (x8_1 : Int) (of_decide_eq_true (by first | (with_reducible assumption) | assumption)) (by have h_ : (x8_1 : Int) < ((x7_1.length : Int) : Int) := of_decide_eq_true (by first | (with_reducible assumption) | assumption); first | exact h_ | (have e_ := (Kd.S_reads' HO_7.out).1; omega) | simpa using h_); obtain ⟨ve19_0, rfl, ge19_0⟩ := hM19; have HP19 := Kd.S_seg hH19 (of_decide_eq_true (by first | (with_reducible assumption) | assumption)) (by have h_ : (x8_1 : Int) < ((x7_1.length : Int) : Int) := of_decide_eq_true (by first | (with_reducible assumption) | assumption); first | exact h_ | (have e_ := (Kd.S_reads' HO_7.out).1; omega) | simpa using h_) (seg := [.slice Ao21 y236.length co21]) (j := 0) (show 1 ≤ 1 from by decide) (x' := y236) (Kd.M_row (Kd.R_mono (Kd.R_tight rfl (Kd.R_mono (ok' := fun k_ => ((fun _ => True)) k_ ∧ k_ ≠ go15) (Kd.R_apart' (HO238.out) (Kd.S_typed HO_7.out) (by decide)) (fun k_ hk => ⟨trivial, fun e_ => (hk.2) (by rw [e_]; rfl)⟩))) (fun _ h_ => Or.inr (h_)))) (fun _ hk => hk) (fun k_ hk_ => ((Kd.R_mono (ok' := fun k_ => ((fun _ => True)) k_ ∧ k_ ≠ go15) (Kd.R_apart' (HO238.out) (Kd.S_typed HO_7.out) (by decide)) (fun k_ hk => ⟨trivial, fun e_ => (hk.2) (by rw [e_]; rfl)⟩))).1 k_ hk_.symm); have hx19_0 := hcc19 0 _ rfl; (try simp only [show ((Kd.slice 2 (Kd.int .i64))).sz = 1 from rfl, Nat.mul_one, Nat.add_zero] at hx19_0); have hf19_0 := hfr19 0; (try simp only [show ((Kd.slice 2 (Kd.int .i64))).sz = 1 from rfl, Nat.mul_one, Nat.add_zero] at hf19_0); clear hcl19 hcc19 hfr19 hoki19 hH19; (try clear hM19); (try simp only [show ((Kd.slice 2 (Kd.int .i64))).sz = 1 from rfl, Nat.mul_one, Nat.add_zero] at HP19)) | ((with_reducible refine gate_store (t := 34) (p := 27) rfl ?_); refine store_event (t := 34) (p := 27) (v := ?vo_w20) (w1 := (w17.setCell ⟨go15, (x8_1 : Int).toNat, none⟩ (.slice Ao21 y236.length co21))) ?hg ?ho ?hn ?hr ?_; (case ho => rfl); (case hg => rfl); (case hn => rfl); (case hr => first | (go_simp; done) | (go_simp; rfl)); intro w20 hw; have hg : w17.grownBy w20 (some go15) := (by rw [hw]; exact HP19.2); have hp_ : Kd.S (Kd.slice 2 (Kd.int .i64)) 34 w20 w.heap.size (fun _ => True) (.slice (some ⟨go15, 0, none⟩) x7_1.length co15) y239 := (by rw [hw, Ny239.out]; exact HP19.1); clear HP19; have n0_ := Aside0.mk (hp_); have n1_ := Aside0.mk (blk_grown (g := gb232) (o := .cells #[.int .i64 a0_0, .slice A0_1 l0_1.length c0_1] 30 (0, 0)) (by (with_reducible repeat (first | refine blk_drewN ?_ _ | refine blk_drew ?_ | refine blk_alloc ?_ _)); exact BK232.out) hg (Kd.S_ne HO_7.out BK232.out (by decide))); have n2_ := Aside0.mk ((by rw [hw]; exact below_set (HB.out) GB15.out : Below w.heap.size w w20)); clear HO_7; clear BK232; clear HB; clear HO238; have HO_7 := n0_; have BK232 := n1_; have HB := n2_; clear n0_ n1_ n2_; clear hg hw hp_; have hcz22_0 : w20.cell? ⟨gb232, 0, none⟩ = some (.int .i64 a0_0) := (blk_cell BK232.out 0).trans rfl; have hcz22_1 : w20.cell? ⟨gb232, 1, none⟩ = some (.slice A0_1 l0_1.length c0_1) := (blk_cell BK232.out 1).trans rfl; have hfz22_0 := blk_frozen BK232.out 0; have hfz22_1 := blk_frozen BK232.out 1))
          go_loopg [30] k1 (fun kq v30 w' => ∃ (x7_2 : List (List Int)) (x30_2 : Int), v30 = .int .i64 x30_2 ∧ Aside0 (impl_Set_left_at_impl_anyColour.l1 kq l1 x7_2 x8_1 a0_0 x30_2 a0_0 l0_1 = some r) ∧ Aside0 (kq ≤ k1) ∧ Aside0 (Kd.S (Kd.slice 2 (Kd.int .i64)) 34 w' w.heap.size (fun _ => True) (.slice (some ⟨go15, 0, none⟩) x7_1.length co15) x7_2) ∧ Aside0 (w'.heap[gb232]? = some (.cells #[.int .i64 a0_0, (.slice A0_1 l0_1.length c0_1)] 30 (0, 0))) ∧ Aside0 (Below w.heap.size w w'))
          case atStart => exact ⟨(y239), (0), (by first | rfl | (simp; done) | (simp [*]; done) | (simp; decide +kernel)), H', ⟨Nat.le_refl _⟩, ⟨by (with_reducible repeat (first | apply Kd.S_alloc | apply Kd.S_drewN | apply Kd.S_drew)); exact HO_7.out⟩, ⟨by (with_reducible repeat (first | refine blk_drewN ?_ _ | refine blk_drew ?_ | refine blk_alloc ?_ _)); exact BK232.out⟩, ⟨by repeat (first | (with_reducible first | exact HB.out | apply below_alloc | apply pw_below_drewN | apply below_drew1 | refine below_set ?_ GE232.out) | exact HB.out)⟩⟩
          case round =>
           clear H'
           try clear c1
           try clear p1
           try clear q1
           try clear hx1
           try clear p2
           try clear c5
           try clear c5b0
           try clear c5b1
           try clear c6
           try clear c6b0
           try clear c6b1
           try clear p6
           try clear c10
           try clear c10b0
           try clear c11
           try clear c11b0
           try clear c11b1
           try clear c12
           try clear c12b0
           try clear c12b1
           try clear c13
           try clear c13b0
           try clear c14
           try clear c14b0
           try clear c15
           try clear p15
           try clear q15
           try clear hx15
           try clear hf15
           try clear c19
           try clear hx19
           try clear hf19
           try clear hcz16_0
           try clear hcz16_1
           try clear hcz22_0
           try clear hcz22_1
           try clear hfz16_0
           try clear hfz16_1
           try clear hfz22_0
           try clear hfz22_1
           try clear hx15_0
           try clear hx19_0
           try clear p15
           try clear p2
           try clear p6
           try clear q15
           obtain ⟨x7_2, x30_2, rfl, HA, HK2, HO_7, BK232, HB⟩ := hrel
           have hl7_2 := (Kd.S_reads' HO_7.out).1
           rw [hl7_2] at HO_7
           (try simp only [hl7_2])
           (try simp only [hl7_2] at BK232)
           cases gk with
           | zero => exact absurd HA.out (by simp [impl_Set_left_at_impl_anyColour.l1])
           | succ k2 =>
            have H := HA.out
            clear HA
            simp only [impl_Set_left_at_impl_anyColour.l1] at H
            by_cases c23 : x30_2 < a0_0
            ·rw [if_pos c23] at H
             have c23b0 : decide (x30_2 < a0_0) = true := decide_eq_true c23
             clear c23
             by_cases c24 : x8_1 = (l1.length : Int)
             ·rw [if_pos c24] at H
              have c24b0 : (x8_1 == (l1.length : Int)) = true := beq_iff_eq.mpr c24
              have c24b1 : (x8_1 != (l1.length : Int)) = false := bne_eq_false_iff_eq.mpr c24
              clear c24
              replace H := Option.bind_eq_some_iff.mp H
              obtain ⟨t240, A250, H⟩ := H
              replace H : (if t240 = true then (if 0 ≤ x8_1 then (if x8_1 < (x7_2.length : Int) then (if 0 ≤ x30_2 then (if x30_2 < ((rd_L5 x7_2 x8_1).length : Int) then (impl_Set_left_at_impl_anyColour.l1 k2 l1 (x7_2.set (x8_1 : Int).toNat ((rd_L5 x7_2 x8_1).set (x30_2 : Int).toNat 1)) x8_1 a0_0 (wrap64 (x30_2 + 1)) a0_0 l0_1) else (none)) else (none)) else (none)) else (none)) else (impl_Set_left_at_impl_anyColour.l1 k2 l1 x7_2 x8_1 a0_0 (wrap64 (x30_2 + 1)) a0_0 l0_1)) = some r := H
              have A25 := Aside0.mk A250
              clear A250
              by_cases c26 : t240 = true
              ·subst c26
               have H1 : (if 0 ≤ x8_1 then (if x8_1 < (x7_2.length : Int) then (if 0 ≤ x30_2 then (if x30_2 < ((rd_L5 x7_2 x8_1).length : Int) then (impl_Set_left_at_impl_anyColour.l1 k2 l1 (x7_2.set (x8_1 : Int).toNat ((rd_L5 x7_2 x8_1).set (x30_2 : Int).toNat 1)) x8_1 a0_0 (wrap64 (x30_2 + 1)) a0_0 l0_1) else (none)) else (none)) else (none)) else (none)) = some r := by rw [if_pos rfl] at H; exact H
               clear H
               have H := H1
               clear H1
               by_cases c27 : 0 ≤ x8_1
               ·rw [if_pos c27] at H
                have c27b0 : decide (0 ≤ x8_1) = true := decide_eq_true c27
                clear c27
                by_cases c28 : x8_1 < (x7_2.length : Int)
                ·rw [if_pos c28] at H
                 have c28b0 : decide (x8_1 < (x7_2.length : Int)) = true := decide_eq_true c28
                 clear c28
                 by_cases c29 : 0 ≤ x30_2
                 ·rw [if_pos c29] at H
                  have c29b0 : decide (0 ≤ x30_2) = true := decide_eq_true c29
                  clear c29
                  by_cases c30 : x30_2 < ((rd_L5 x7_2 x8_1).length : Int)
                  ·rw [if_pos c30] at H
                   have c30b0 : decide (x30_2 < ((rd_L5 x7_2 x8_1).length : Int)) = true := decide_eq_true c30
                   clear c30
                   obtain ⟨y242, hy242⟩ : ∃ y_ : List Int, y_ = ((rd_L5 x7_2 x8_1).set (x30_2 : Int).toNat 1) := ⟨_, rfl⟩
                   replace H : (impl_Set_left_at_impl_anyColour.l1 k2 l1 (x7_2.set (x8_1 : Int).toNat y242) x8_1 a0_0 (wrap64 (x30_2 + 1)) a0_0 l0_1) = some r := by first | (rw [hy242]; with_reducible exact H) | (have H2_ := (Option.bind_some _ _).symm.trans H; rw [hy242]; with_reducible exact H2_) | (have H2_ := (Option.bind_some _ _).symm.trans H; with_reducible exact H2_) | with_reducible exact H | (rw [hy242]; exact H) | exact H
                   have Ny242 := Aside0.mk hy242
                   clear hy242
                   obtain ⟨y244, hy244⟩ : ∃ y_ : List (List Int), y_ = (x7_2.set (x8_1 : Int).toNat y242) := ⟨_, rfl⟩
                   replace H : (impl_Set_left_at_impl_anyColour.l1 k2 l1 y244 x8_1 a0_0 (wrap64 (x30_2 + 1)) a0_0 l0_1) = some r := by first | (rw [hy244]; with_reducible exact H) | (have H2_ := (Option.bind_some _ _).symm.trans H; rw [hy244]; with_reducible exact H2_) | (have H2_ := (Option.bind_some _ _).symm.trans H; with_reducible exact H2_) | with_reducible exact H | (rw [hy244]; exact H) | exact H
                   have Ny244 := Aside0.mk hy244
                   clear hy244
                   have H' := Aside0.mk H
                   clear H
                   try go_wp2_with fail
                   (with_reducible refine (impl_anyColour.calls x30_2 true _ A25.out).mono ?_)
                   rintro e w' ⟨rfl, ⟨nd, rfl⟩⟩
                   (try (rw [drewN_self wr]; generalize hq_ : World.drewN wr _ = wr; have n0_ : Aside0 (Kd.S (Kd.slice 2 (Kd.int .i64)) 34 wr w.heap.size (fun _ => True) (.slice (some ⟨go15, 0, none⟩) x7_2.length co15) x7_2) := ⟨by rw [← hq_]; exact (by (with_reducible repeat (first | apply Kd.S_alloc | apply Kd.S_drewN | apply Kd.S_drew)); exact HO_7.out)⟩; have n1_ : Aside0 (wr.heap[gb232]? = some (.cells #[.int .i64 a0_0, .slice A0_1 l0_1.length c0_1] 30 (0, 0))) := ⟨by rw [← hq_]; exact (by (with_reducible repeat (first | refine blk_drewN ?_ _ | refine blk_drew ?_ | refine blk_alloc ?_ _)); exact BK232.out)⟩; have n2_ : Aside0 (Below w.heap.size w wr) := ⟨by rw [← hq_]; exact (by repeat (first | (with_reducible first | exact HB.out | apply below_alloc | apply pw_below_drewN | apply below_drew1 | refine below_set ?_ GE232.out) | exact HB.out))⟩; clear HO_7 BK232 HB hq_; have HO_7 := n0_; have BK232 := n1_; have HB := n2_; clear n0_ n1_ n2_))
                   have p241 : 0 ≤ (x8_1 : Int) := of_decide_eq_true (by first | (with_reducible assumption) | assumption)
                   have q241 : x8_1 < (x7_2.length : Int) := of_decide_eq_true (by first | (with_reducible assumption) | assumption)
                   obtain ⟨ad241, A241_0, c241_0, e241, hx241_0, hl241_0, hi241_0⟩ := at_L5 (Kd.S_reads' HO_7.out).2.2 x8_1 p241 q241
                   obtain rfl : (⟨go15, 0, none⟩ : Addr) = ad241 := (by injection e241)
                   obtain ⟨ce241, hce241, hMe241, hcc241⟩ := Kd.S_get HO_7.out [] x8_1 p241 (by first | exact q241 | exact of_decide_eq_true (by first | (with_reducible assumption) | assumption) | (have e_ := (Kd.S_reads' HO_7.out).1; omega))
                   obtain ⟨ve241_0, rfl, ge241_0⟩ := hMe241
                   have hv241_0 := hcc241 0 _ rfl
                   rw [Nat.add_zero, show ((Kd.slice 2 (Kd.int .i64))).sz = 1 from rfl, Nat.mul_one] at hv241_0
                   replace hv241_0 := Option.some.inj (hv241_0.symm.trans hx241_0)
                   rw [hv241_0] at ge241_0
                   have HL241_0 := Aside0.mk (show Kd.R (Kd.int .i64) 2 _ _ _ _ (rd_L5 x7_2 x8_1) from ge241_0)
                   clear hv241_0 ge241_0
                   have HX241_0 := Aside0.mk hx241_0
                   clear hcc241 hce241
                   (first | simp only [add_plain] at hx241_0 | simp only [add_at] at hx241_0 | simp only [Addr.add, Nat.zero_add] at hx241_0 | skip)
                   have HR241_0 := Aside0.mk hi241_0
                   have HC241_0 := Aside0.mk hl241_0
                   clear hi241_0 hl241_0
                   replace p241 := eq_true p241
                   replace q241 := eq_true q241
                   have p31 : 0 ≤ (x30_2 : Int) := of_decide_eq_true (by first | (with_reducible assumption) | assumption)
                   have q31 : (x30_2 : Int) < (((rd_L5 x7_2 x8_1).length : Int) : Int) := of_decide_eq_true (by first | (with_reducible assumption) | assumption)
                   obtain ⟨go31, co31, eo31, gb31, gl31, cl31, HG31⟩ := Kd.R_form HL241_0.out (by omega)
                   (first | cases eo31 | (injection eo31 with ea_ en_ ec_; (first | subst ea_ | (injection ea_ with ea_; subst ea_)); subst ec_; clear en_))
                   have GB31 := Aside0.mk gb31
                   have GG31 := Aside0.mk HG31
                   clear gb31 gl31 HG31
                   obtain ⟨hx31_0, hf31_0⟩ := Kd.R_celln 0 HL241_0.out (x30_2 : Int) p31 q31
                   replace p31 := eq_true p31
                   replace q31 := eq_true q31
                   have hq33 : (x8_1 : Int) < (x7_2.length : Int) := (by have h_ : (x8_1 : Int) < ((x7_2.length : Int) : Int) := of_decide_eq_true (by first | (with_reducible assumption) | assumption); first | exact h_ | (have e_ := (Kd.S_reads' HO_7.out).1; omega) | simpa only [List.length_set, List.length_set] using h_)
                   obtain ⟨oki33, ce33, hcl33, hM33, hcc33, hok33, hbk33⟩ := Kd.S_borrow HO_7.out [] (x8_1 : Int) (of_decide_eq_true (by first | (with_reducible assumption) | assumption)) hq33
                   obtain ⟨ve33_0, rfl, ge33_0⟩ := hM33
                   have hv33 := hcc33 0 _ rfl
                   rw [Nat.add_zero, show ((Kd.slice 2 (Kd.int .i64))).sz = 1 from rfl, Nat.mul_one] at hv33
                   replace hv33 := Option.some.inj (hv33.symm.trans HX241_0.out)
                   subst hv33
                   clear hcc33 hcl33
                   replace ge33_0 := (show Kd.R (Kd.int .i64) 2 _ _ _ _ (rd_L5 x7_2 x8_1) from ge33_0)
                   have HP33 := Kd.R_putg ge33_0 (x30_2 : Int) 1
                   try go_wp2_with (first | ((with_reducible refine gate_store (t := 2) (p := 47) rfl ?_); refine store_event (t := 2) (p := 47) (v := ?vo_w34) (w1 := (wr.setCell ⟨go31, (x30_2 : Int).toNat, none⟩ (.int .i64 1))) ?hg ?ho ?hn ?hr ?_; (case ho => rfl); (case hg => rfl); (case hn => rfl); (case hr => first | (go_simp; done) | (go_simp; rfl)); intro w34 hw; have hg : wr.grownBy w34 (some go31) := (by rw [hw]; exact HP33.2); have hz_ : Kd.R (Kd.int .i64) 2 w34 w.heap.size oki33 (.slice (some ⟨go31, 0, none⟩) (rd_L5 x7_2 x8_1).length c241_0) y242 := (by rw [hw, Ny242.out]; exact HP33.1); have hp_ : Kd.S (Kd.slice 2 (Kd.int .i64)) 34 w34 w.heap.size (fun _ => True) (.slice (some ⟨go15, 0, none⟩) x7_2.length co15) y244 := (by rw [Ny244.out]; exact hbk33 hg (fun k_ e_ => by injection e_ with e_; subst e_; exact ge33_0.1 _ rfl) (Kd.M_row hz_)); have hm_ := Kd.R_mono hz_ hok33; clear HP33 hbk33; have n0_ := Aside0.mk (hp_); have n1_ := Aside0.mk (blk_grown (g := gb232) (o := .cells #[.int .i64 a0_0, .slice A0_1 l0_1.length c0_1] 30 (0, 0)) (by (with_reducible repeat (first | refine blk_drewN ?_ _ | refine blk_drew ?_ | refine blk_alloc ?_ _)); exact BK232.out) hg (Kd.R_ne HL241_0.out BK232.out (by decide))); have n2_ := Aside0.mk ((by rw [hw]; exact below_set (HB.out) GB31.out : Below w.heap.size w w34)); have n3_ := Aside0.mk (hm_); have n4_ := Aside0.mk ((Kd.R_reads' hm_).2.1); clear HO_7; clear BK232; clear HB; clear HL241_0; have HO_7 := n0_; have BK232 := n1_; have HB := n2_; have HL256 := n3_; have HC243 := n4_; clear n0_ n1_ n2_ n3_ n4_; clear hg hw hp_ hz_ hm_ hok33))
                   (try simp only [← hl7_2])
                   go_roundg k2
                   case measure => have := HK1.out; have := HK2.out; omega
                   case rel => exact ⟨(y244), (wrap64 (x30_2 + 1)), (by first | rfl | (simp; done) | (simp [*]; done) | (simp; decide +kernel)), H', ⟨by have := HK1.out; have := HK2.out; omega⟩, ⟨by (try simp only [hl7_2]); (with_reducible repeat (first | apply Kd.S_alloc | apply Kd.S_drewN | apply Kd.S_drew)); exact HO_7.out⟩, ⟨by (try simp only [hl7_2]); (with_reducible repeat (first | refine blk_drewN ?_ _ | refine blk_drew ?_ | refine blk_alloc ?_ _)); exact BK232.out⟩, ⟨by repeat (first | (with_reducible first | exact HB.out | apply below_alloc | apply pw_below_drewN | apply below_drew1 | refine below_set ?_ GE232.out) | exact HB.out)⟩⟩
                  ·rw [if_neg c30] at H
                   exact absurd H (by simp)
                 ·rw [if_neg c29] at H
                  exact absurd H (by simp)
                ·rw [if_neg c28] at H
                 exact absurd H (by simp)
               ·rw [if_neg c27] at H
                exact absurd H (by simp)
              ·replace c26 := Bool.eq_false_iff.mpr c26
               subst c26
               have H1 : (impl_Set_left_at_impl_anyColour.l1 k2 l1 x7_2 x8_1 a0_0 (wrap64 (x30_2 + 1)) a0_0 l0_1) = some r := by rw [if_neg (show ¬ (false = true) by decide)] at H; exact H
               clear H
               have H := H1
               clear H1
               have H' := Aside0.mk H
               clear H
               try go_wp2_with fail
               (with_reducible refine (impl_anyColour.calls x30_2 false _ A25.out).mono ?_)
               rintro e w' ⟨rfl, ⟨nd, rfl⟩⟩
               try go_wp2_with fail
               (try simp only [← hl7_2])
               go_roundg k2
               case measure => have := HK1.out; have := HK2.out; omega
               case rel => exact ⟨(x7_2), (wrap64 (x30_2 + 1)), (by first | rfl | (simp; done) | (simp [*]; done) | (simp; decide +kernel)), H', ⟨by have := HK1.out; have := HK2.out; omega⟩, ⟨by (try simp only [hl7_2]); (with_reducible repeat (first | apply Kd.S_alloc | apply Kd.S_drewN | apply Kd.S_drew)); exact HO_7.out⟩, ⟨by (try simp only [hl7_2]); (with_reducible repeat (first | refine blk_drewN ?_ _ | refine blk_drew ?_ | refine blk_alloc ?_ _)); exact BK232.out⟩, ⟨by repeat (first | (with_reducible first | exact HB.out | apply below_alloc | apply pw_below_drewN | apply below_drew1 | refine below_set ?_ GE232.out) | exact HB.out)⟩⟩
             ·rw [if_neg c24] at H
              have c24b0 : (x8_1 == (l1.length : Int)) = false := beq_eq_false_iff_ne.mpr c24
              have c24b1 : (x8_1 != (l1.length : Int)) = true := bne_iff_ne.mpr c24
              have H' := Aside0.mk H
              clear H
              go_wp2_with fail
              (try simp only [← hl7_2])
              go_roundg k2
              case measure => have := HK1.out; have := HK2.out; omega
              case rel => exact ⟨(x7_2), (wrap64 (x30_2 + 1)), (by first | rfl | (simp; done) | (simp [*]; done) | (simp; decide +kernel)), H', ⟨by have := HK1.out; have := HK2.out; omega⟩, ⟨by (try simp only [hl7_2]); (with_reducible repeat (first | apply Kd.S_alloc | apply Kd.S_drewN | apply Kd.S_drew)); exact HO_7.out⟩, ⟨by (try simp only [hl7_2]); (with_reducible repeat (first | refine blk_drewN ?_ _ | refine blk_drew ?_ | refine blk_alloc ?_ _)); exact BK232.out⟩, ⟨by repeat (first | (with_reducible first | exact HB.out | apply below_alloc | apply pw_below_drewN | apply below_drew1 | refine below_set ?_ GE232.out) | exact HB.out)⟩⟩
            ·rw [if_neg c23] at H
             have c23b0 : decide (x30_2 < a0_0) = false := decide_eq_false c23
             clear c23
             by_cases c36 : x8_1 = (l1.length : Int)
             ·rw [if_pos c36] at H
              have c36b0 : (x8_1 == (l1.length : Int)) = true := beq_iff_eq.mpr c36
              have c36b1 : (x8_1 != (l1.length : Int)) = false := bne_eq_false_iff_eq.mpr c36
              clear c36
              have H' := Aside0.mk H
              clear H
              go_wp2_with fail
              (try simp only [← hl7_2])
              go_roundg k2
              case measure => have := HK1.out; have := HK2.out; omega
              case rel => exact ⟨(x7_2), (wrap64 (x8_1 - 1)), (by first | rfl | (simp; done) | (simp [*]; done) | (simp; decide +kernel)), H', ⟨by have := HK1.out; have := HK2.out; omega⟩, ⟨by (try simp only [hl7_2]); (with_reducible repeat (first | apply Kd.S_alloc | apply Kd.S_drewN | apply Kd.S_drew)); exact HO_7.out⟩, ⟨by (try simp only [hl7_2]); (with_reducible repeat (first | refine blk_drewN ?_ _ | refine blk_drew ?_ | refine blk_alloc ?_ _)); exact BK232.out⟩, ⟨by repeat (first | (with_reducible first | exact HB.out | apply below_alloc | apply pw_below_drewN | apply below_drew1 | refine below_set ?_ GE232.out) | exact HB.out)⟩⟩
             ·rw [if_neg c36] at H
              have c36b0 : (x8_1 == (l1.length : Int)) = false := beq_eq_false_iff_ne.mpr c36
              have c36b1 : (x8_1 != (l1.length : Int)) = true := bne_iff_ne.mpr c36
              have H' := Aside0.mk H
              clear H
              have hcz37_0 : wr.cell? ⟨gb232, 0, none⟩ = some (.int .i64 a0_0) := (blk_cell BK232.out 0).trans rfl
              have hcz37_1 : wr.cell? ⟨gb232, 1, none⟩ = some (.slice A0_1 l0_1.length c0_1) := (blk_cell BK232.out 1).trans rfl
              have hfz37_0 := blk_frozen BK232.out 0
              have hfz37_1 := blk_frozen BK232.out 1
              go_wp2_with fail
              go_loopg [56] k2 (fun kq v56 w' => ∃ (x7_3 : List (List Int)) (x56_3 : Int), v56 = .int .i64 x56_3 ∧ Aside0 (impl_Set_left_at_impl_anyColour.l2 kq l1 x7_3 x8_1 l0_1 (l0_1.length : Int) x56_3 a0_0 l0_1 = some r) ∧ Aside0 (kq ≤ k2) ∧ Aside0 (Kd.S (Kd.slice 2 (Kd.int .i64)) 34 w' w.heap.size (fun _ => True) (.slice (some ⟨go15, 0, none⟩) x7_2.length co15) x7_3) ∧ Aside0 (w'.heap[gb232]? = some (.cells #[.int .i64 a0_0, (.slice A0_1 l0_1.length c0_1)] 30 (0, 0))) ∧ Aside0 (Below w.heap.size w w'))
              case atStart => exact ⟨(x7_2), (0), (by first | rfl | (simp; done) | (simp [*]; done) | (simp; decide +kernel)), H', ⟨Nat.le_refl _⟩, ⟨by (try simp only [hl7_2]); (with_reducible repeat (first | apply Kd.S_alloc | apply Kd.S_drewN | apply Kd.S_drew)); exact HO_7.out⟩, ⟨by (try simp only [hl7_2]); (with_reducible repeat (first | refine blk_drewN ?_ _ | refine blk_drew ?_ | refine blk_alloc ?_ _)); exact BK232.out⟩, ⟨by repeat (first | (with_reducible first | exact HB.out | apply below_alloc | apply pw_below_drewN | apply below_drew1 | refine below_set ?_ GE232.out) | exact HB.out)⟩⟩
              case round =>
               clear H'
               try clear c1
               try clear p1
               try clear q1
               try clear hx1
               try clear c2
               try clear p2
               try clear q2
               try clear hx2
               try clear c3
               try clear p3
               try clear q3
               try clear hx3
               try clear hf3
               try clear c5
               try clear c5b0
               try clear c5b1
               try clear c6
               try clear c6b0
               try clear c6b1
               try clear p6
               try clear c10
               try clear c10b0
               try clear c11
               try clear c11b0
               try clear c11b1
               try clear c12
               try clear c12b0
               try clear c12b1
               try clear c13
               try clear c13b0
               try clear c14
               try clear c14b0
               try clear c15
               try clear p15
               try clear q15
               try clear hx15
               try clear hf15
               try clear c19
               try clear hx19
               try clear hf19
               try clear c23
               try clear c23b0
               try clear c24
               try clear c24b0
               try clear c24b1
               try clear p24
               try clear q24
               try clear hx24
               try clear c26
               try clear c27
               try clear c27b0
               try clear c28
               try clear c28b0
               try clear c29
               try clear c29b0
               try clear c30
               try clear c30b0
               try clear p31
               try clear q31
               try clear hx31
               try clear hf31
               try clear c33
               try clear q33
               try clear c36
               try clear c36b0
               try clear c36b1
               try clear hcz16_0
               try clear hcz16_1
               try clear hcz22_0
               try clear hcz22_1
               try clear hcz37_0
               try clear hcz37_1
               try clear hfz16_0
               try clear hfz16_1
               try clear hfz22_0
               try clear hfz22_1
               try clear hfz37_0
               try clear hfz37_1
               try clear hx15_0
               try clear hx19_0
               try clear hx241_0
               try clear hx31_0
               try clear p1
               try clear p15
               try clear p2
               try clear p241
               try clear p31
               try clear p6
               try clear q1
               try clear q15
               try clear q241
               try clear q31
               obtain ⟨x7_3, x56_3, rfl, HA, HK3, HO_7, BK232, HB⟩ := hrel
               have hl7_3 := (Kd.S_reads' HO_7.out).1
               rw [hl7_3] at HO_7
               (try simp only [hl7_3])
               (try simp only [hl7_3] at BK232)
               cases gk with
               | zero => exact absurd HA.out (by simp [impl_Set_left_at_impl_anyColour.l2])
               | succ k3 =>
                have H := HA.out
                clear HA
                simp only [impl_Set_left_at_impl_anyColour.l2] at H
                by_cases c38 : x56_3 < (l0_1.length : Int)
                ·rw [if_pos c38] at H
                 have c38b0 : decide (x56_3 < (l0_1.length : Int)) = true := decide_eq_true c38
                 clear c38
                 by_cases c39 : 0 ≤ x56_3
                 ·rw [if_pos c39] at H
                  have c39b0 : decide (0 ≤ x56_3) = true := decide_eq_true c39
                  clear c39
                  by_cases c40 : x56_3 < (l0_1.length : Int)
                  ·rw [if_pos c40] at H
                   have c40b0 : decide (x56_3 < (l0_1.length : Int)) = true := decide_eq_true c40
                   clear c40
                   by_cases c41 : 0 ≤ x8_1
                   ·rw [if_pos c41] at H
                    have c41b0 : decide (0 ≤ x8_1) = true := decide_eq_true c41
                    clear c41
                    by_cases c42 : x8_1 < (l1.length : Int)
                    ·rw [if_pos c42] at H
                     have c42b0 : decide (x8_1 < (l1.length : Int)) = true := decide_eq_true c42
                     clear c42
                     by_cases c43 : ((rd_T77 l0_1 x56_3).f1) = (rd l1 x8_1)
                     ·rw [if_pos c43] at H
                      have c43b0 : (((rd_T77 l0_1 x56_3).f1) == (rd l1 x8_1)) = true := beq_iff_eq.mpr c43
                      have c43b1 : (((rd_T77 l0_1 x56_3).f1) != (rd l1 x8_1)) = false := bne_eq_false_iff_eq.mpr c43
                      clear c43
                      by_cases c44 : x8_1 < (x7_3.length : Int)
                      ·rw [if_pos c44] at H
                       have c44b0 : decide (x8_1 < (x7_3.length : Int)) = true := decide_eq_true c44
                       clear c44
                       by_cases c45 : 0 ≤ ((rd_T77 l0_1 x56_3).f0)
                       ·rw [if_pos c45] at H
                        have c45b0 : decide (0 ≤ ((rd_T77 l0_1 x56_3).f0)) = true := decide_eq_true c45
                        clear c45
                        by_cases c46 : ((rd_T77 l0_1 x56_3).f0) < ((rd_L5 x7_3 x8_1).length : Int)
                        ·rw [if_pos c46] at H
                         have c46b0 : decide (((rd_T77 l0_1 x56_3).f0) < ((rd_L5 x7_3 x8_1).length : Int)) = true := decide_eq_true c46
                         clear c46
                         obtain ⟨ji47, hji47⟩ : ∃ j_ : Int, (wrap64 (x8_1 + 1)) = j_ := ⟨_, rfl⟩
                         replace H : (if 0 ≤ (ji47) then (if (ji47) < (x7_3.length : Int) then (if 0 ≤ ((rd_T77 l0_1 x56_3).f2) then (if ((rd_T77 l0_1 x56_3).f2) < ((rd_L5 x7_3 (ji47)).length : Int) then (impl_Set_left_at_impl_anyColour.l2 k3 l1 (x7_3.set (x8_1 : Int).toNat ((rd_L5 x7_3 x8_1).set (((rd_T77 l0_1 x56_3).f0) : Int).toNat (mn 1000000000000001 (wrap64 ((rd (rd_L5 x7_3 x8_1) ((rd_T77 l0_1 x56_3).f0)) + (rd (rd_L5 x7_3 (ji47)) ((rd_T77 l0_1 x56_3).f2))))))) x8_1 l0_1 (l0_1.length : Int) (wrap64 (x56_3 + 1)) a0_0 l0_1) else (none)) else (none)) else (none)) else (none)) = some r := by first | (rw [hji47] at H; exact H) | (simp only [hji47] at H ⊢; exact H)
                         have hji47w : (IntKind.i64.wrap (x8_1 + 1)) = ji47 := (i64_w _).trans hji47
                         by_cases c48 : 0 ≤ (ji47)
                         ·rw [if_pos c48] at H
                          have c48b0 : decide (0 ≤ (ji47)) = true := decide_eq_true c48
                          clear c48
                          by_cases c49 : (ji47) < (x7_3.length : Int)
                          ·rw [if_pos c49] at H
                           have c49b0 : decide ((ji47) < (x7_3.length : Int)) = true := decide_eq_true c49
                           clear c49
                           by_cases c50 : 0 ≤ ((rd_T77 l0_1 x56_3).f2)
                           ·rw [if_pos c50] at H
                            have c50b0 : decide (0 ≤ ((rd_T77 l0_1 x56_3).f2)) = true := decide_eq_true c50
                            clear c50
                            by_cases c51 : ((rd_T77 l0_1 x56_3).f2) < ((rd_L5 x7_3 (ji47)).length : Int)
                            ·rw [if_pos c51] at H
                             have c51b0 : decide (((rd_T77 l0_1 x56_3).f2) < ((rd_L5 x7_3 (ji47)).length : Int)) = true := decide_eq_true c51
                             clear c51
                             obtain ⟨ji52, hji52⟩ : ∃ j_ : Int, (mn 1000000000000001 (wrap64 ((rd (rd_L5 x7_3 x8_1) ((rd_T77 l0_1 x56_3).f0)) + (rd (rd_L5 x7_3 (ji47)) ((rd_T77 l0_1 x56_3).f2))))) = j_ := ⟨_, rfl⟩
                             replace H : (impl_Set_left_at_impl_anyColour.l2 k3 l1 (x7_3.set (x8_1 : Int).toNat ((rd_L5 x7_3 x8_1).set (((rd_T77 l0_1 x56_3).f0) : Int).toNat (ji52))) x8_1 l0_1 (l0_1.length : Int) (wrap64 (x56_3 + 1)) a0_0 l0_1) = some r := by first | (rw [hji52] at H; exact H) | (simp only [hji52] at H ⊢; exact H)
                             have hji52_ : (if (wrap64 ((rd (rd_L5 x7_3 x8_1) ((rd_T77 l0_1 x56_3).f0)) + (rd (rd_L5 x7_3 (ji47)) ((rd_T77 l0_1 x56_3).f2)))) < 1000000000000001 then (wrap64 ((rd (rd_L5 x7_3 x8_1) ((rd_T77 l0_1 x56_3).f0)) + (rd (rd_L5 x7_3 (ji47)) ((rd_T77 l0_1 x56_3).f2)))) else 1000000000000001) = ji52 := hji52
                             obtain ⟨y253, hy253⟩ : ∃ y_ : List Int, y_ = ((rd_L5 x7_3 x8_1).set (((rd_T77 l0_1 x56_3).f0) : Int).toNat (ji52)) := ⟨_, rfl⟩
                             replace H : (impl_Set_left_at_impl_anyColour.l2 k3 l1 (x7_3.set (x8_1 : Int).toNat y253) x8_1 l0_1 (l0_1.length : Int) (wrap64 (x56_3 + 1)) a0_0 l0_1) = some r := by first | (rw [hy253]; with_reducible exact H) | (have H2_ := (Option.bind_some _ _).symm.trans H; rw [hy253]; with_reducible exact H2_) | (have H2_ := (Option.bind_some _ _).symm.trans H; with_reducible exact H2_) | with_reducible exact H | (rw [hy253]; exact H) | exact H
                             have Ny253 := Aside0.mk hy253
                             clear hy253
                             obtain ⟨y255, hy255⟩ : ∃ y_ : List (List Int), y_ = (x7_3.set (x8_1 : Int).toNat y253) := ⟨_, rfl⟩
                             replace H : (impl_Set_left_at_impl_anyColour.l2 k3 l1 y255 x8_1 l0_1 (l0_1.length : Int) (wrap64 (x56_3 + 1)) a0_0 l0_1) = some r := by first | (rw [hy255]; with_reducible exact H) | (have H2_ := (Option.bind_some _ _).symm.trans H; rw [hy255]; with_reducible exact H2_) | (have H2_ := (Option.bind_some _ _).symm.trans H; with_reducible exact H2_) | with_reducible exact H | (rw [hy255]; exact H) | exact H
                             have Ny255 := Aside0.mk hy255
                             clear hy255
                             have H' := Aside0.mk H
                             clear H
                             have p245 : 0 ≤ (x56_3 : Int) := of_decide_eq_true (by first | (with_reducible assumption) | assumption)
                             have q245 : x56_3 < (l0_1.length : Int) := of_decide_eq_true (by first | (with_reducible assumption) | assumption)
                             obtain ⟨ad245, e245, hx245_0, hx245_1, hx245_2, hx245_3⟩ := at_T77 HR0_1.out x56_3 p245 q245
                             cases e245
                             replace hx245_0 := (HB.out.cell (World.block_lt_of_cell? w _ hx245_0)).trans hx245_0
                             replace hx245_1 := (HB.out.cell (World.block_lt_of_cell? w _ hx245_1)).trans hx245_1
                             replace hx245_2 := (HB.out.cell (World.block_lt_of_cell? w _ hx245_2)).trans hx245_2
                             replace hx245_3 := (HB.out.cell (World.block_lt_of_cell? w _ hx245_3)).trans hx245_3
                             replace p245 := eq_true p245
                             replace q245 := eq_true q245
                             try go_wp2_with (first | ((with_reducible refine gate_dst (N := 11) rfl ?_); refine box_event ?hg (N := 11) ?hd (cs := #[.int .i64 0, .int .i64 0, .int .i64 0, .int .i64 0]) (t := 77) ?hr ?_; (case hd => rfl); (case hg => rfl); (case hr => first | (go_simp; done) | (go_simp; rfl)); intro gb246 hg w54 hbox hb; have n0_ := Aside0.mk (Kd.S_below (by (with_reducible repeat (first | apply Kd.S_alloc | apply Kd.S_drewN | apply Kd.S_drew)); exact HO_7.out) hb); have n1_ := Aside0.mk (blk_below (g := gb232) (o := .cells #[.int .i64 a0_0, .slice (some ad245) l0_1.length c0_1] 30 (0, 0)) (by (with_reducible repeat (first | refine blk_drewN ?_ _ | refine blk_drew ?_ | refine blk_alloc ?_ _)); exact BK232.out) hb); have n2_ := Aside0.mk (below_step (by repeat (first | (with_reducible first | exact HB.out | apply below_alloc | apply pw_below_drewN | apply below_drew1 | refine below_set ?_ GE232.out) | exact HB.out)) hb); have n3_ := Aside0.mk (hbox); have n4_ := Aside0.mk ((by rw [hg]; exact (below_size (by repeat (first | (with_reducible first | exact HB.out | apply below_alloc | apply pw_below_drewN | apply below_drew1 | refine below_set ?_ GE232.out) | exact HB.out))) : w.heap.size ≤ gb246)); have n5_ := Aside0.mk ((by rw [hg]; exact (below_size (by repeat (first | (with_reducible first | exact HB.out | apply below_alloc | apply pw_below_drewN | apply below_drew1 | refine below_set ?_ GE232.out) | exact HB.out))) : w.heap.size ≤ gb246)); have n6_ := Aside0.mk ((by rw [hg]; exact Nat.ne_of_lt (blk_lt (g := gb232) (o := .cells #[.int .i64 a0_0, .slice (some ad245) l0_1.length c0_1] 30 (0, 0)) (by (with_reducible repeat (first | refine blk_drewN ?_ _ | refine blk_drew ?_ | refine blk_alloc ?_ _)); exact BK232.out)) : gb232 ≠ gb246)); have n7_ := Aside0.mk ((by rw [hg]; exact Nat.ne_of_gt (blk_lt (g := gb232) (o := .cells #[.int .i64 a0_0, .slice (some ad245) l0_1.length c0_1] 30 (0, 0)) (by (with_reducible repeat (first | refine blk_drewN ?_ _ | refine blk_drew ?_ | refine blk_alloc ?_ _)); exact BK232.out)) : gb246 ≠ gb232)); clear HO_7; clear BK232; clear HB; have HO_7 := n0_; have BK232 := n1_; have HB := n2_; have BK246 := n3_; have GW246 := n4_; have GE246 := n5_; have NB232_246 := n6_; have NB246_232 := n7_; clear n0_ n1_ n2_ n3_ n4_ n5_ n6_ n7_; clear hb hbox hg; have hnb55 := NB246_232.out; have hnc55 := NB232_246.out; have hcz56_0 : w54.cell? ⟨gb246, 0, none⟩ = some (.int .i64 0) := (blk_cell BK246.out 0).trans rfl; have hcz56_1 : w54.cell? ⟨gb246, 1, none⟩ = some (.int .i64 0) := (blk_cell BK246.out 1).trans rfl; have hcz56_2 : w54.cell? ⟨gb246, 2, none⟩ = some (.int .i64 0) := (blk_cell BK246.out 2).trans rfl; have hcz56_3 : w54.cell? ⟨gb246, 3, none⟩ = some (.int .i64 0) := (blk_cell BK246.out 3).trans rfl; have hfz56_0 := blk_frozen BK246.out 0; have hfz56_1 := blk_frozen BK246.out 1; have hfz56_2 := blk_frozen BK246.out 2; have hfz56_3 := blk_frozen BK246.out 3))
                             have n0_ : Aside0 (Kd.S (Kd.slice 2 (Kd.int .i64)) 34 ((((w54.setCell ⟨gb246, 0, none⟩ (.int .i64 ((rd_T77 l0_1 x56_3).f0))).setCell ⟨gb246, 1, none⟩ (.int .i64 ((rd_T77 l0_1 x56_3).f1))).setCell ⟨gb246, 2, none⟩ (.int .i64 ((rd_T77 l0_1 x56_3).f2))).setCell ⟨gb246, 3, none⟩ (.int .i64 ((rd_T77 l0_1 x56_3).f3))) w.heap.size (fun _ => True) (.slice (some ⟨go15, 0, none⟩) x7_3.length co15) x7_3) := ⟨by (with_reducible repeat (first | apply Kd.S_alloc | apply Kd.S_drewN | apply Kd.S_drew)); exact Kd.S_mono (Kd.S_far (p := ⟨gb246, 3, none⟩) (Kd.S_far (p := ⟨gb246, 2, none⟩) (Kd.S_far (p := ⟨gb246, 1, none⟩) (Kd.S_far (p := ⟨gb246, 0, none⟩) (Kd.S_types HO_7.out BK246.out (by decide)) (fun _ hk => hk.2) (.int .i64 ((rd_T77 l0_1 x56_3).f0))) (fun _ hk => hk.2) (.int .i64 ((rd_T77 l0_1 x56_3).f1))) (fun _ hk => hk.2) (.int .i64 ((rd_T77 l0_1 x56_3).f2))) (fun _ hk => hk.2) (.int .i64 ((rd_T77 l0_1 x56_3).f3))) (fun _ hk => trivial)⟩
                             have n1_ : Aside0 (((((w54.setCell ⟨gb246, 0, none⟩ (.int .i64 ((rd_T77 l0_1 x56_3).f0))).setCell ⟨gb246, 1, none⟩ (.int .i64 ((rd_T77 l0_1 x56_3).f1))).setCell ⟨gb246, 2, none⟩ (.int .i64 ((rd_T77 l0_1 x56_3).f2))).setCell ⟨gb246, 3, none⟩ (.int .i64 ((rd_T77 l0_1 x56_3).f3))).heap[gb232]? = some (.cells #[.int .i64 a0_0, .slice (some ad245) l0_1.length c0_1] 30 (0, 0))) := ⟨by (with_reducible repeat (first | refine blk_drewN ?_ _ | refine blk_drew ?_ | refine blk_alloc ?_ _)); refine blk_far ?_ NB232_246.out _; (with_reducible repeat (first | refine blk_drewN ?_ _ | refine blk_drew ?_ | refine blk_alloc ?_ _)); refine blk_far ?_ NB232_246.out _; (with_reducible repeat (first | refine blk_drewN ?_ _ | refine blk_drew ?_ | refine blk_alloc ?_ _)); refine blk_far ?_ NB232_246.out _; (with_reducible repeat (first | refine blk_drewN ?_ _ | refine blk_drew ?_ | refine blk_alloc ?_ _)); refine blk_far ?_ NB232_246.out _; (with_reducible repeat (first | refine blk_drewN ?_ _ | refine blk_drew ?_ | refine blk_alloc ?_ _)); exact BK232.out⟩
                             have n2_ : Aside0 (((((w54.setCell ⟨gb246, 0, none⟩ (.int .i64 ((rd_T77 l0_1 x56_3).f0))).setCell ⟨gb246, 1, none⟩ (.int .i64 ((rd_T77 l0_1 x56_3).f1))).setCell ⟨gb246, 2, none⟩ (.int .i64 ((rd_T77 l0_1 x56_3).f2))).setCell ⟨gb246, 3, none⟩ (.int .i64 ((rd_T77 l0_1 x56_3).f3))).heap[gb246]? = some (.cells #[.int .i64 ((rd_T77 l0_1 x56_3).f0), .int .i64 ((rd_T77 l0_1 x56_3).f1), .int .i64 ((rd_T77 l0_1 x56_3).f2), .int .i64 ((rd_T77 l0_1 x56_3).f3)] 77 (0, 0))) := ⟨by (with_reducible repeat (first | refine blk_drewN ?_ _ | refine blk_drew ?_ | refine blk_alloc ?_ _)); refine blk_put (cs := #[.int .i64 ((rd_T77 l0_1 x56_3).f0), .int .i64 ((rd_T77 l0_1 x56_3).f1), .int .i64 ((rd_T77 l0_1 x56_3).f2), .int .i64 0]) ?_ 3 _ rfl; (with_reducible repeat (first | refine blk_drewN ?_ _ | refine blk_drew ?_ | refine blk_alloc ?_ _)); refine blk_put (cs := #[.int .i64 ((rd_T77 l0_1 x56_3).f0), .int .i64 ((rd_T77 l0_1 x56_3).f1), .int .i64 0, .int .i64 0]) ?_ 2 _ rfl; (with_reducible repeat (first | refine blk_drewN ?_ _ | refine blk_drew ?_ | refine blk_alloc ?_ _)); refine blk_put (cs := #[.int .i64 ((rd_T77 l0_1 x56_3).f0), .int .i64 0, .int .i64 0, .int .i64 0]) ?_ 1 _ rfl; (with_reducible repeat (first | refine blk_drewN ?_ _ | refine blk_drew ?_ | refine blk_alloc ?_ _)); refine blk_put (cs := #[.int .i64 0, .int .i64 0, .int .i64 0, .int .i64 0]) ?_ 0 _ rfl; (with_reducible repeat (first | refine blk_drewN ?_ _ | refine blk_drew ?_ | refine blk_alloc ?_ _)); exact BK246.out⟩
                             have n3_ : Aside0 (Below w.heap.size w ((((w54.setCell ⟨gb246, 0, none⟩ (.int .i64 ((rd_T77 l0_1 x56_3).f0))).setCell ⟨gb246, 1, none⟩ (.int .i64 ((rd_T77 l0_1 x56_3).f1))).setCell ⟨gb246, 2, none⟩ (.int .i64 ((rd_T77 l0_1 x56_3).f2))).setCell ⟨gb246, 3, none⟩ (.int .i64 ((rd_T77 l0_1 x56_3).f3)))) := ⟨by repeat (first | (with_reducible first | exact HB.out | apply below_alloc | apply pw_below_drewN | apply below_drew1 | refine below_set ?_ GE232.out | refine below_set ?_ GE246.out) | exact HB.out)⟩
                             (try clear HO_7)
                             (try clear BK232)
                             (try clear BK246)
                             (try clear HB)
                             generalize ((((w54.setCell ⟨gb246, 0, none⟩ (.int .i64 ((rd_T77 l0_1 x56_3).f0))).setCell ⟨gb246, 1, none⟩ (.int .i64 ((rd_T77 l0_1 x56_3).f1))).setCell ⟨gb246, 2, none⟩ (.int .i64 ((rd_T77 l0_1 x56_3).f2))).setCell ⟨gb246, 3, none⟩ (.int .i64 ((rd_T77 l0_1 x56_3).f3))) = w57 at n0_ n1_ n2_ n3_ ⊢
                             have HO_7 := n0_
                             have BK232 := n1_
                             have BK246 := n2_
                             have HB := n3_
                             clear n0_ n1_ n2_ n3_
                             have n0_ := Aside0.mk (Kd.S_drew HO_7.out)
                             have n1_ := Aside0.mk (blk_drew BK232.out)
                             have n2_ := Aside0.mk (blk_drew BK246.out)
                             have n3_ := Aside0.mk (below_drew1 HB.out)
                             clear HO_7
                             clear BK232
                             clear BK246
                             clear HB
                             have HO_7 := n0_
                             have BK232 := n1_
                             have BK246 := n2_
                             have HB := n3_
                             clear n0_ n1_ n2_ n3_
                             have p247 : 0 ≤ (x8_1 : Int) := of_decide_eq_true (by first | (with_reducible assumption) | assumption)
                             have q247 : x8_1 < (l1.length : Int) := of_decide_eq_true (by first | (with_reducible assumption) | assumption)
                             obtain ⟨ad247, e247, hx247_0⟩ := Kd.at_int HR1.out x8_1 p247 q247
                             have hw247_0 := hx247_0
                             cases e247
                             replace hx247_0 := (HB.out.cell (World.block_lt_of_cell? w _ hx247_0)).trans hx247_0
                             replace p247 := eq_true p247
                             replace q247 := eq_true q247
                             refine start_ (n := 7) (S := fun w' => w'.cell? ⟨gb246, 0, none⟩ = some (.int .i64 ((rd_T77 l0_1 x56_3).f0)) ∧ w'.cell? ⟨gb246, 1, none⟩ = some (.int .i64 ((rd_T77 l0_1 x56_3).f1)) ∧ w'.cell? ⟨gb246, 2, none⟩ = some (.int .i64 ((rd_T77 l0_1 x56_3).f2)) ∧ w'.cell? ⟨gb246, 3, none⟩ = some (.int .i64 ((rd_T77 l0_1 x56_3).f3)) ∧ w'.cell? (ad247.add (x8_1).toNat) = some (.int .i64 (rd l1 x8_1))) (ds := []) #[false, false, false, false, false, false, false] (by kernel_rfl) rfl rfl ⟨(blk_cell BK246.out 0).trans rfl, (blk_cell BK246.out 1).trans rfl, (blk_cell BK246.out 2).trans rfl, (blk_cell BK246.out 3).trans rfl, ((HB.out.cell (World.block_lt_of_cell? w _ hw247_0)).trans hw247_0)⟩ (fun hHeld => ?_)
                             generalize w57.drew = w58 at HO_7 BK232 BK246 HB hx247_0 hHeld ⊢
                             refine pure_ (i := 0) (N := some 60) (v := ?_) (a' := ?_) #[true, false, false, false, false, false, false] rfl rfl (by kernel_rfl) (fun _ _ _ h => h) (Or.inl ⟨by rfl, ?_⟩) ?_ ?_
                             rotate_left
                             ·intro w'
                              go_simp
                              with_reducible rfl
                             rotate_left
                             ·simp only [Act.put, List.setIfInBounds_toArray, List.set_cons_zero, List.set_cons_succ, i64_w, i32_w]
                              rfl
                             refine pure_ (i := 2) (N := some 62) (v := ?_) (a' := ?_) #[true, false, true, false, false, false, false] rfl rfl (by kernel_rfl) (fun _ _ _ h => h) (Or.inl ⟨by rfl, ?_⟩) ?_ ?_
                             rotate_left
                             ·intro w'
                              go_simp
                              with_reducible rfl
                             rotate_left
                             ·simp only [Act.put, List.setIfInBounds_toArray, List.set_cons_zero, List.set_cons_succ, i64_w, i32_w]
                              rfl
                             refine pure_ (i := 3) (N := some 63) (v := ?_) (a' := ?_) #[true, false, true, true, false, false, false] rfl rfl (by kernel_rfl) (fun _ _ _ h => h) (Or.inl ⟨by rfl, ?_⟩) ?_ ?_
                             rotate_left
                             ·intro w'
                              go_simp
                              with_reducible rfl
                             rotate_left
                             ·simp only [Act.put, List.setIfInBounds_toArray, List.set_cons_zero, List.set_cons_succ, i64_w, i32_w]
                              rfl
                             refine pure_ (i := 4) (N := some 64) (v := ?_) (a' := ?_) #[true, false, true, true, true, false, false] rfl rfl (by kernel_rfl) (fun _ _ _ h => h) (Or.inl ⟨by rfl, ?_⟩) ?_ ?_
                             rotate_left
                             ·intro w'
                              go_simp
                              with_reducible rfl
                             rotate_left
                             ·simp only [Act.put, List.setIfInBounds_toArray, List.set_cons_zero, List.set_cons_succ, i64_w, i32_w]
                              rfl
                             refine take_ (i := 1) (N := some 61) (v := ?_) (a' := ?_) #[true, true, true, true, true, false, false] rfl rfl (by kernel_rfl) (fun _ _ _ h => h) (Or.inl ⟨by rfl, ?_⟩) hHeld ?_ ?_
                             rotate_left
                             ·rintro w' ⟨s0, s1, s2, s3, s4⟩
                              go_simp
                              with_reducible rfl
                             rotate_left
                             ·simp only [Act.put, List.setIfInBounds_toArray, List.set_cons_zero, List.set_cons_succ, i64_w, i32_w]
                              rfl
                             refine take_ (i := 5) (N := some 65) (v := ?_) (a' := ?_) #[true, true, true, true, true, true, false] rfl rfl (by kernel_rfl) (fun _ _ _ h => h) (Or.inl ⟨by rfl, ?_⟩) hHeld ?_ ?_
                             rotate_left
                             ·rintro w' ⟨s0, s1, s2, s3, s4⟩
                              go_simp
                              with_reducible rfl
                             rotate_left
                             ·simp only [Act.put, List.setIfInBounds_toArray, List.set_cons_zero, List.set_cons_succ, i64_w, i32_w]
                              rfl
                             refine pure_ (i := 6) (N := some 66) (v := ?_) (a' := ?_) #[true, true, true, true, true, true, true] rfl rfl (by kernel_rfl) (fun _ _ _ h => h) (Or.inl ⟨by rfl, ?_⟩) ?_ ?_
                             rotate_left
                             ·intro w'
                              go_simp
                              with_reducible rfl
                             rotate_left
                             ·simp only [Act.put, List.setIfInBounds_toArray, List.set_cons_zero, List.set_cons_succ, i64_w, i32_w]
                              rfl
                             refine done_ (by kernel_rfl) ?_
                             try go_wp2_with fail
                             have n0_ := Aside0.mk (Kd.S_drew HO_7.out)
                             have n1_ := Aside0.mk (blk_drew BK232.out)
                             have n2_ := Aside0.mk (blk_drew BK246.out)
                             have n3_ := Aside0.mk (below_drew1 HB.out)
                             clear HO_7
                             clear BK232
                             clear BK246
                             clear HB
                             have HO_7 := n0_
                             have BK232 := n1_
                             have BK246 := n2_
                             have HB := n3_
                             clear n0_ n1_ n2_ n3_
                             have p248 : 0 ≤ (x8_1 : Int) := of_decide_eq_true (by first | (with_reducible assumption) | assumption)
                             have q248 : x8_1 < (x7_3.length : Int) := of_decide_eq_true (by first | (with_reducible assumption) | assumption)
                             obtain ⟨ad248, A248_0, c248_0, e248, hx248_0, hl248_0, hi248_0⟩ := at_L5 (Kd.S_reads' HO_7.out).2.2 x8_1 p248 q248
                             obtain rfl : (⟨go15, 0, none⟩ : Addr) = ad248 := (by injection e248)
                             obtain ⟨ce248, hce248, hMe248, hcc248⟩ := Kd.S_get HO_7.out [] x8_1 p248 (by first | exact q248 | exact of_decide_eq_true (by first | (with_reducible assumption) | assumption) | (have e_ := (Kd.S_reads' HO_7.out).1; omega))
                             obtain ⟨ve248_0, rfl, ge248_0⟩ := hMe248
                             have hv248_0 := hcc248 0 _ rfl
                             rw [Nat.add_zero, show ((Kd.slice 2 (Kd.int .i64))).sz = 1 from rfl, Nat.mul_one] at hv248_0
                             replace hv248_0 := Option.some.inj (hv248_0.symm.trans hx248_0)
                             rw [hv248_0] at ge248_0
                             have HL248_0 := Aside0.mk (show Kd.R (Kd.int .i64) 2 _ _ _ _ (rd_L5 x7_3 x8_1) from ge248_0)
                             clear hv248_0 ge248_0
                             have HX248_0 := Aside0.mk hx248_0
                             clear hcc248 hce248
                             (first | simp only [add_plain] at hx248_0 | simp only [add_at] at hx248_0 | simp only [Addr.add, Nat.zero_add] at hx248_0 | skip)
                             have HR248_0 := Aside0.mk hi248_0
                             have HC248_0 := Aside0.mk hl248_0
                             clear hi248_0 hl248_0
                             replace p248 := eq_true p248
                             replace q248 := eq_true q248
                             have p249 : 0 ≤ (x8_1 : Int) := of_decide_eq_true (by first | (with_reducible assumption) | assumption)
                             have q249 : x8_1 < (x7_3.length : Int) := of_decide_eq_true (by first | (with_reducible assumption) | assumption)
                             obtain ⟨ad249, A249_0, c249_0, e249, hx249_0, hl249_0, hi249_0⟩ := at_L5 (Kd.S_reads' HO_7.out).2.2 x8_1 p249 q249
                             obtain rfl : (⟨go15, 0, none⟩ : Addr) = ad249 := (by injection e249)
                             obtain ⟨ce249, hce249, hMe249, hcc249⟩ := Kd.S_get HO_7.out [] x8_1 p249 (by first | exact q249 | exact of_decide_eq_true (by first | (with_reducible assumption) | assumption) | (have e_ := (Kd.S_reads' HO_7.out).1; omega))
                             obtain ⟨ve249_0, rfl, ge249_0⟩ := hMe249
                             have hv249_0 := hcc249 0 _ rfl
                             rw [Nat.add_zero, show ((Kd.slice 2 (Kd.int .i64))).sz = 1 from rfl, Nat.mul_one] at hv249_0
                             replace hv249_0 := Option.some.inj (hv249_0.symm.trans hx249_0)
                             rw [hv249_0] at ge249_0
                             have HL249_0 := Aside0.mk (show Kd.R (Kd.int .i64) 2 _ _ _ _ (rd_L5 x7_3 x8_1) from ge249_0)
                             clear hv249_0 ge249_0
                             have HX249_0 := Aside0.mk hx249_0
                             clear hcc249 hce249
                             (first | simp only [add_plain] at hx249_0 | simp only [add_at] at hx249_0 | simp only [Addr.add, Nat.zero_add] at hx249_0 | skip)
                             have HR249_0 := Aside0.mk hi249_0
                             have HC249_0 := Aside0.mk hl249_0
                             clear hi249_0 hl249_0
                             replace p249 := eq_true p249
                             replace q249 := eq_true q249
                             have ea_ := Option.some.inj (hx248_0.symm.trans hx249_0)
                             injection ea_ with ea_ en_ ec_
                             subst ea_
                             subst ec_
                             clear en_
                             have p250 : 0 ≤ (((rd_T77 l0_1 x56_3).f0) : Int) := of_decide_eq_true (by first | (with_reducible assumption) | assumption)
                             have q250 : ((rd_T77 l0_1 x56_3).f0) < ((rd_L5 x7_3 x8_1).length : Int) := of_decide_eq_true (by first | (with_reducible assumption) | assumption)
                             obtain ⟨ad250, e250, hx250_0⟩ := Kd.at_int (by repeat (first | (with_reducible exact HR249_0.out) | (with_reducible refine Kd.C_alloc ?_ _) | (with_reducible refine Kd.C_drewN ?_ _) | (with_reducible refine Kd.C_drew ?_) | exact HR249_0.out)) ((rd_T77 l0_1 x56_3).f0) p250 q250
                             cases e250
                             replace p250 := eq_true p250
                             replace q250 := eq_true q250
                             have p251 : 0 ≤ ((ji47) : Int) := of_decide_eq_true (by first | (with_reducible assumption) | assumption)
                             have q251 : (ji47) < (x7_3.length : Int) := of_decide_eq_true (by first | (with_reducible assumption) | assumption)
                             obtain ⟨ad251, A251_0, c251_0, e251, hx251_0, hl251_0, hi251_0⟩ := at_L5 (Kd.S_reads' HO_7.out).2.2 (ji47) p251 q251
                             obtain rfl : (⟨go15, 0, none⟩ : Addr) = ad251 := (by injection e251)
                             obtain ⟨ce251, hce251, hMe251, hcc251⟩ := Kd.S_get HO_7.out [] (ji47) p251 (by first | exact q251 | exact of_decide_eq_true (by first | (with_reducible assumption) | assumption) | (have e_ := (Kd.S_reads' HO_7.out).1; omega))
                             obtain ⟨ve251_0, rfl, ge251_0⟩ := hMe251
                             have hv251_0 := hcc251 0 _ rfl
                             rw [Nat.add_zero, show ((Kd.slice 2 (Kd.int .i64))).sz = 1 from rfl, Nat.mul_one] at hv251_0
                             replace hv251_0 := Option.some.inj (hv251_0.symm.trans hx251_0)
                             rw [hv251_0] at ge251_0
                             have HL251_0 := Aside0.mk (show Kd.R (Kd.int .i64) 2 _ _ _ _ (rd_L5 x7_3 (ji47)) from ge251_0)
                             clear hv251_0 ge251_0
                             have HX251_0 := Aside0.mk hx251_0
                             clear hcc251 hce251
                             (first | simp only [add_plain] at hx251_0 | simp only [add_at] at hx251_0 | simp only [Addr.add, Nat.zero_add] at hx251_0 | skip)
                             have HR251_0 := Aside0.mk hi251_0
                             have HC251_0 := Aside0.mk hl251_0
                             clear hi251_0 hl251_0
                             replace p251 := eq_true p251
                             replace q251 := eq_true q251
                             have p252 : 0 ≤ (((rd_T77 l0_1 x56_3).f2) : Int) := of_decide_eq_true (by first | (with_reducible assumption) | assumption)
                             have q252 : ((rd_T77 l0_1 x56_3).f2) < ((rd_L5 x7_3 (ji47)).length : Int) := of_decide_eq_true (by first | (with_reducible assumption) | assumption)
                             obtain ⟨ad252, e252, hx252_0⟩ := Kd.at_int (by repeat (first | (with_reducible exact HR251_0.out) | (with_reducible refine Kd.C_alloc ?_ _) | (with_reducible refine Kd.C_drewN ?_ _) | (with_reducible refine Kd.C_drew ?_) | exact HR251_0.out)) ((rd_T77 l0_1 x56_3).f2) p252 q252
                             cases e252
                             replace p252 := eq_true p252
                             replace q252 := eq_true q252
                             have p53 : 0 ≤ (((rd_T77 l0_1 x56_3).f0) : Int) := of_decide_eq_true (by first | (with_reducible assumption) | assumption)
                             have q53 : (((rd_T77 l0_1 x56_3).f0) : Int) < (((rd_L5 x7_3 x8_1).length : Int) : Int) := of_decide_eq_true (by first | (with_reducible assumption) | assumption)
                             obtain ⟨go53, co53, eo53, gb53, gl53, cl53, HG53⟩ := Kd.R_form HL248_0.out (by omega)
                             (first | cases eo53 | (injection eo53 with ea_ en_ ec_; (first | subst ea_ | (injection ea_ with ea_; subst ea_)); subst ec_; clear en_))
                             have GB53 := Aside0.mk gb53
                             have GG53 := Aside0.mk HG53
                             clear gb53 gl53 HG53
                             (first | simp only [add_plain] at hx250_0 | skip)
                             obtain ⟨hx53_0, hf53_0⟩ := Kd.R_celln 0 HL248_0.out (((rd_T77 l0_1 x56_3).f0) : Int) p53 q53
                             replace p53 := eq_true p53
                             replace q53 := eq_true q53
                             have hq60 : (x8_1 : Int) < (x7_3.length : Int) := (by have h_ : (x8_1 : Int) < ((x7_3.length : Int) : Int) := of_decide_eq_true (by first | (with_reducible assumption) | assumption); first | exact h_ | (have e_ := (Kd.S_reads' HO_7.out).1; omega) | simpa only [List.length_set, List.length_set] using h_)
                             obtain ⟨oki60, ce60, hcl60, hM60, hcc60, hok60, hbk60⟩ := Kd.S_borrow HO_7.out [] (x8_1 : Int) (of_decide_eq_true (by first | (with_reducible assumption) | assumption)) hq60
                             obtain ⟨ve60_0, rfl, ge60_0⟩ := hM60
                             have hv60 := hcc60 0 _ rfl
                             rw [Nat.add_zero, show ((Kd.slice 2 (Kd.int .i64))).sz = 1 from rfl, Nat.mul_one] at hv60
                             replace hv60 := Option.some.inj (hv60.symm.trans HX248_0.out)
                             subst hv60
                             clear hcc60 hcl60
                             replace ge60_0 := (show Kd.R (Kd.int .i64) 2 _ _ _ _ (rd_L5 x7_3 x8_1) from ge60_0)
                             have HP60 := Kd.R_putg ge60_0 (((rd_T77 l0_1 x56_3).f0) : Int) ji52
                             rw [← Ny253.out] at HP60
                             have HS60 := hbk60 HP60.2 (fun k_ e_ => by injection e_ with e_; subst e_; exact ge60_0.1 _ rfl) (x' := y253) (Kd.M_row HP60.1)
                             rw [← Ny255.out] at HS60
                             have HQ60 := Aside0.mk HS60
                             clear HP60 HS60 hbk60 hok60
                             refine start_ (n := 27) (S := fun w' => w'.cell? ⟨gb246, 0, none⟩ = some (.int .i64 ((rd_T77 l0_1 x56_3).f0)) ∧ w'.cell? ⟨gb246, 1, none⟩ = some (.int .i64 ((rd_T77 l0_1 x56_3).f1)) ∧ w'.cell? ⟨gb246, 2, none⟩ = some (.int .i64 ((rd_T77 l0_1 x56_3).f2)) ∧ w'.cell? ⟨gb246, 3, none⟩ = some (.int .i64 ((rd_T77 l0_1 x56_3).f3)) ∧ w'.cell? ⟨go15, (x8_1).toNat, none⟩ = some (.slice (some ⟨go53, 0, none⟩) (rd_L5 x7_3 x8_1).length c248_0) ∧ w'.cell? ⟨go15, (x8_1).toNat, none⟩ = some (.slice (some ⟨go53, 0, none⟩) (rd_L5 x7_3 x8_1).length c248_0) ∧ w'.cell? ⟨go53, (((rd_T77 l0_1 x56_3).f0)).toNat, none⟩ = some (.int .i64 (rd (rd_L5 x7_3 x8_1) ((rd_T77 l0_1 x56_3).f0))) ∧ w'.cell? ⟨go15, ((ji47)).toNat, none⟩ = some (.slice (some ad252) (rd_L5 x7_3 (ji47)).length c251_0) ∧ w'.cell? (ad252.add (((rd_T77 l0_1 x56_3).f2)).toNat) = some (.int .i64 (rd (rd_L5 x7_3 (ji47)) ((rd_T77 l0_1 x56_3).f2)))) (ds := [26]) #[false, false, false, false, false, false, false, false, false, false, false, false, false, false, false, false, false, false, false, false, false, false, false, false, false, false, false] (by kernel_rfl) rfl rfl ⟨(blk_cell BK246.out 0).trans rfl, (blk_cell BK246.out 1).trans rfl, (blk_cell BK246.out 2).trans rfl, (blk_cell BK246.out 3).trans rfl, hx248_0, hx249_0, hx250_0, hx251_0, hx252_0⟩ (fun hHeld => ?_); refine with_tabW impl_Set_left_at_impl_anyColour.tab17 impl_Set_left_at_impl_anyColour.bits17 (fun HT_ HW_ => ?_)
                             generalize w58.drew = w59 at HO_7 BK232 BK246 HB GG53 HL248_0 HL249_0 HL251_0 HQ60 HR248_0 HR249_0 HR251_0 HX248_0 HX249_0 HX251_0 hf53_0 hx248_0 hx249_0 hx250_0 hx251_0 hx252_0 hx53_0 hHeld ⊢
                             refine pure_ (i := 0) (N := some 67) (v := ?_) (a' := ?_) #[true, false, false, false, false, false, false, false, false, false, false, false, false, false, false, false, false, false, false, false, false, false, false, false, false, false, false] rfl rfl (any_of HT_.out (by kernel_rfl)) (fun _ _ _ h => h) (Or.inl ⟨by rfl, ?_⟩) ?_ ?_
                             rotate_left
                             ·intro w'
                              go_simp
                              with_reducible rfl
                             rotate_left
                             ·simp only [Act.put, List.setIfInBounds_toArray, List.set_cons_zero, List.set_cons_succ, i64_w, i32_w]
                              rfl
                             refine pure_ (i := 1) (N := some 68) (v := ?_) (a' := ?_) #[true, true, false, false, false, false, false, false, false, false, false, false, false, false, false, false, false, false, false, false, false, false, false, false, false, false, false] rfl rfl (any_of HT_.out (by kernel_rfl)) (fun _ _ _ h => h) (Or.inl ⟨by rfl, ?_⟩) ?_ ?_
                             rotate_left
                             ·intro w'
                              go_simp
                              with_reducible rfl
                             rotate_left
                             ·simp only [Act.put, List.setIfInBounds_toArray, List.set_cons_zero, List.set_cons_succ, i64_w, i32_w]
                              rfl
                             refine pure_ (i := 2) (N := some 69) (v := ?_) (a' := ?_) #[true, true, true, false, false, false, false, false, false, false, false, false, false, false, false, false, false, false, false, false, false, false, false, false, false, false, false] rfl rfl (any_of HT_.out (by kernel_rfl)) (fun _ _ _ h => h) (Or.inl ⟨by rfl, ?_⟩) ?_ ?_
                             rotate_left
                             ·intro w'
                              go_simp
                              with_reducible rfl
                             rotate_left
                             ·simp only [Act.put, List.setIfInBounds_toArray, List.set_cons_zero, List.set_cons_succ, i64_w, i32_w]
                              rfl
                             refine pure_ (i := 4) (N := some 71) (v := ?_) (a' := ?_) #[true, true, true, false, true, false, false, false, false, false, false, false, false, false, false, false, false, false, false, false, false, false, false, false, false, false, false] rfl rfl (any_of HT_.out (by kernel_rfl)) (fun _ _ _ h => h) (Or.inl ⟨by rfl, ?_⟩) ?_ ?_
                             rotate_left
                             ·intro w'
                              go_simp
                              with_reducible rfl
                             rotate_left
                             ·simp only [Act.put, List.setIfInBounds_toArray, List.set_cons_zero, List.set_cons_succ, i64_w, i32_w]
                              rfl
                             refine pure_ (i := 6) (N := some 73) (v := ?_) (a' := ?_) #[true, true, true, false, true, false, true, false, false, false, false, false, false, false, false, false, false, false, false, false, false, false, false, false, false, false, false] rfl rfl (any_of HT_.out (by kernel_rfl)) (fun _ _ _ h => h) (Or.inl ⟨by rfl, ?_⟩) ?_ ?_
                             rotate_left
                             ·intro w'
                              go_simp
                              with_reducible rfl
                             rotate_left
                             ·simp only [Act.put, List.setIfInBounds_toArray, List.set_cons_zero, List.set_cons_succ, i64_w, i32_w]
                              rfl
                             refine pure_ (i := 7) (N := some 74) (v := ?_) (a' := ?_) #[true, true, true, false, true, false, true, true, false, false, false, false, false, false, false, false, false, false, false, false, false, false, false, false, false, false, false] rfl rfl (any_of HT_.out (by kernel_rfl)) (fun _ _ _ h => h) (Or.inl ⟨by rfl, ?_⟩) ?_ ?_
                             rotate_left
                             ·intro w'
                              go_simp
                              with_reducible rfl
                             rotate_left
                             ·simp only [Act.put, List.setIfInBounds_toArray, List.set_cons_zero, List.set_cons_succ, i64_w, i32_w]
                              rfl
                             refine pure_ (i := 8) (N := some 75) (v := ?_) (a' := ?_) #[true, true, true, false, true, false, true, true, true, false, false, false, false, false, false, false, false, false, false, false, false, false, false, false, false, false, false] rfl rfl (any_of HT_.out (by kernel_rfl)) (fun _ _ _ h => h) (Or.inl ⟨by rfl, ?_⟩) ?_ ?_
                             rotate_left
                             ·intro w'
                              go_simp
                              with_reducible rfl
                             rotate_left
                             ·simp only [Act.put, List.setIfInBounds_toArray, List.set_cons_zero, List.set_cons_succ, i64_w, i32_w]
                              rfl
                             refine pure_ (i := 10) (N := some 77) (v := ?_) (a' := ?_) #[true, true, true, false, true, false, true, true, true, false, true, false, false, false, false, false, false, false, false, false, false, false, false, false, false, false, false] rfl rfl (any_of HT_.out (by kernel_rfl)) (fun _ _ _ h => h) (Or.inl ⟨by rfl, ?_⟩) ?_ ?_
                             rotate_left
                             ·intro w'
                              go_simp
                              with_reducible rfl
                             rotate_left
                             ·simp only [Act.put, List.setIfInBounds_toArray, List.set_cons_zero, List.set_cons_succ, i64_w, i32_w]
                              rfl
                             refine pure_ (i := 14) (N := some 81) (v := ?_) (a' := ?_) #[true, true, true, false, true, false, true, true, true, false, true, false, false, false, true, false, false, false, false, false, false, false, false, false, false, false, false] rfl rfl (any_of HT_.out (by kernel_rfl)) (fun _ _ _ h => h) (Or.inl ⟨by rfl, ?_⟩) ?_ ?_
                             rotate_left
                             ·intro w'
                              go_simp
                              with_reducible rfl
                             rotate_left
                             ·simp only [Act.put, List.setIfInBounds_toArray, List.set_cons_zero, List.set_cons_succ, i64_w, i32_w]
                              rfl
                             refine pure_ (i := 15) (N := some 82) (v := ?_) (a' := ?_) #[true, true, true, false, true, false, true, true, true, false, true, false, false, false, true, true, false, false, false, false, false, false, false, false, false, false, false] rfl rfl (any_of HT_.out (by kernel_rfl)) (fun _ _ _ h => h) (Or.inl ⟨by rfl, ?_⟩) ?_ ?_
                             rotate_left
                             ·intro w'
                              go_simp
                              with_reducible rfl
                             rotate_left
                             ·simp only [Act.put, List.setIfInBounds_toArray, List.set_cons_zero, List.set_cons_succ, i64_w, i32_w]
                              rfl
                             refine pure_ (i := 16) (N := some 83) (v := ?_) (a' := ?_) #[true, true, true, false, true, false, true, true, true, false, true, false, false, false, true, true, true, false, false, false, false, false, false, false, false, false, false] rfl rfl (any_of HT_.out (by kernel_rfl)) (fun _ _ _ h => h) (Or.inl ⟨by rfl, ?_⟩) ?_ ?_
                             rotate_left
                             ·intro w'
                              go_simp
                              with_reducible rfl
                             rotate_left
                             ·simp only [Act.put, List.setIfInBounds_toArray, List.set_cons_zero, List.set_cons_succ, i64_w, i32_w]
                              rfl
                             refine pure_ (i := 17) (N := some 84) (v := ?_) (a' := ?_) #[true, true, true, false, true, false, true, true, true, false, true, false, false, false, true, true, true, true, false, false, false, false, false, false, false, false, false] rfl rfl (any_of HT_.out (by kernel_rfl)) (fun _ _ _ h => h) (Or.inl ⟨by rfl, ?_⟩) ?_ ?_
                             rotate_left
                             ·intro w'
                              go_simp
                              with_reducible rfl
                             rotate_left
                             ·simp only [Act.put, List.setIfInBounds_toArray, List.set_cons_zero, List.set_cons_succ, i64_w, i32_w]
                              rfl
                             refine pure_ (i := 19) (N := some 86) (v := ?_) (a' := ?_) #[true, true, true, false, true, false, true, true, true, false, true, false, false, false, true, true, true, true, false, true, false, false, false, false, false, false, false] rfl rfl (any_of HT_.out (by kernel_rfl)) (fun _ _ _ h => h) (Or.inl ⟨by rfl, ?_⟩) ?_ ?_
                             rotate_left
                             ·intro w'
                              go_simp
                              with_reducible rfl
                             rotate_left
                             ·simp only [Act.put, List.setIfInBounds_toArray, List.set_cons_zero, List.set_cons_succ, i64_w, i32_w]
                              rfl
                             refine take_ (i := 3) (N := some 70) (v := ?_) (a' := ?_) #[true, true, true, true, true, false, true, true, true, false, true, false, false, false, true, true, true, true, false, true, false, false, false, false, false, false, false] rfl rfl (take_ofW HT_.out HW_.out (by kernel_rfl)) (fun _ _ _ h => h) (Or.inl ⟨by rfl, ?_⟩) hHeld ?_ ?_
                             rotate_left
                             ·rintro w' ⟨s0, s1, s2, s3, s4, s5, s6, s7, s8⟩
                              go_simp
                              with_reducible rfl
                             rotate_left
                             ·simp only [Act.put, List.setIfInBounds_toArray, List.set_cons_zero, List.set_cons_succ, i64_w, i32_w]
                              rfl
                             refine take_ (i := 5) (N := some 72) (v := ?_) (a' := ?_) #[true, true, true, true, true, true, true, true, true, false, true, false, false, false, true, true, true, true, false, true, false, false, false, false, false, false, false] rfl rfl (take_ofW HT_.out HW_.out (by kernel_rfl)) (fun _ _ _ h => h) (Or.inl ⟨by rfl, ?_⟩) hHeld ?_ ?_
                             rotate_left
                             ·rintro w' ⟨s0, s1, s2, s3, s4, s5, s6, s7, s8⟩
                              go_simp
                              with_reducible rfl
                             rotate_left
                             ·simp only [Act.put, List.setIfInBounds_toArray, List.set_cons_zero, List.set_cons_succ, i64_w, i32_w]
                              rfl
                             refine take_ (i := 9) (N := some 76) (v := ?_) (a' := ?_) #[true, true, true, true, true, true, true, true, true, true, true, false, false, false, true, true, true, true, false, true, false, false, false, false, false, false, false] rfl rfl (take_ofW HT_.out HW_.out (by kernel_rfl)) (fun _ _ _ h => h) (Or.inl ⟨by rfl, ?_⟩) hHeld ?_ ?_
                             rotate_left
                             ·rintro w' ⟨s0, s1, s2, s3, s4, s5, s6, s7, s8⟩
                              go_simp
                              with_reducible rfl
                             rotate_left
                             ·simp only [Act.put, List.setIfInBounds_toArray, List.set_cons_zero, List.set_cons_succ, i64_w, i32_w]
                              rfl
                             refine take_ (i := 11) (N := some 78) (v := ?_) (a' := ?_) #[true, true, true, true, true, true, true, true, true, true, true, true, false, false, true, true, true, true, false, true, false, false, false, false, false, false, false] rfl rfl (take_ofW HT_.out HW_.out (by kernel_rfl)) (fun _ _ _ h => h) (Or.inl ⟨by rfl, ?_⟩) hHeld ?_ ?_
                             rotate_left
                             ·rintro w' ⟨s0, s1, s2, s3, s4, s5, s6, s7, s8⟩
                              go_simp
                              with_reducible rfl
                             rotate_left
                             ·simp only [Act.put, List.setIfInBounds_toArray, List.set_cons_zero, List.set_cons_succ, i64_w, i32_w]
                              rfl
                             refine pure_ (i := 12) (N := some 79) (v := ?_) (a' := ?_) #[true, true, true, true, true, true, true, true, true, true, true, true, true, false, true, true, true, true, false, true, false, false, false, false, false, false, false] rfl rfl (any_of HT_.out (by kernel_rfl)) (fun _ _ _ h => h) (Or.inl ⟨by rfl, ?_⟩) ?_ ?_
                             rotate_left
                             ·intro w'
                              go_simp
                              with_reducible rfl
                             rotate_left
                             ·simp only [Act.put, List.setIfInBounds_toArray, List.set_cons_zero, List.set_cons_succ, i64_w, i32_w]
                              rfl
                             refine take_ (i := 13) (N := some 80) (v := ?_) (a' := ?_) #[true, true, true, true, true, true, true, true, true, true, true, true, true, true, true, true, true, true, false, true, false, false, false, false, false, false, false] rfl rfl (take_ofW HT_.out HW_.out (by kernel_rfl)) (fun _ _ _ h => h) (Or.inl ⟨by rfl, ?_⟩) hHeld ?_ ?_
                             rotate_left
                             ·rintro w' ⟨s0, s1, s2, s3, s4, s5, s6, s7, s8⟩
                              go_simp
                              with_reducible rfl
                             rotate_left
                             ·simp only [Act.put, List.setIfInBounds_toArray, List.set_cons_zero, List.set_cons_succ, i64_w, i32_w]
                              rfl
                             refine take_ (i := 18) (N := some 85) (v := ?_) (a' := ?_) #[true, true, true, true, true, true, true, true, true, true, true, true, true, true, true, true, true, true, true, true, false, false, false, false, false, false, false] rfl rfl (take_ofW HT_.out HW_.out (by kernel_rfl)) (fun _ _ _ h => h) (Or.inl ⟨by rfl, ?_⟩) hHeld ?_ ?_
                             rotate_left
                             ·rintro w' ⟨s0, s1, s2, s3, s4, s5, s6, s7, s8⟩
                              go_simp
                              with_reducible rfl
                             rotate_left
                             ·simp only [Act.put, List.setIfInBounds_toArray, List.set_cons_zero, List.set_cons_succ, i64_w, i32_w]
                              rfl
                             refine take_ (i := 20) (N := some 87) (v := ?_) (a' := ?_) #[true, true, true, true, true, true, true, true, true, true, true, true, true, true, true, true, true, true, true, true, true, false, false, false, false, false, false] rfl rfl (take_ofW HT_.out HW_.out (by kernel_rfl)) (fun _ _ _ h => h) (Or.inl ⟨by rfl, ?_⟩) hHeld ?_ ?_
                             rotate_left
                             ·rintro w' ⟨s0, s1, s2, s3, s4, s5, s6, s7, s8⟩
                              go_simp
                              with_reducible rfl
                             rotate_left
                             ·simp only [Act.put, List.setIfInBounds_toArray, List.set_cons_zero, List.set_cons_succ, i64_w, i32_w]
                              rfl
                             refine pure_ (i := 21) (N := some 88) (v := ?_) (a' := ?_) #[true, true, true, true, true, true, true, true, true, true, true, true, true, true, true, true, true, true, true, true, true, true, false, false, false, false, false] rfl rfl (any_of HT_.out (by kernel_rfl)) (fun _ _ _ h => h) (Or.inl ⟨by rfl, ?_⟩) ?_ ?_
                             rotate_left
                             ·intro w'
                              go_simp
                              with_reducible rfl
                             rotate_left
                             ·simp only [Act.put, List.setIfInBounds_toArray, List.set_cons_zero, List.set_cons_succ, i64_w, i32_w]
                              rfl
                             refine take_ (i := 22) (N := some 89) (v := ?_) (a' := ?_) #[true, true, true, true, true, true, true, true, true, true, true, true, true, true, true, true, true, true, true, true, true, true, true, false, false, false, false] rfl rfl (take_ofW HT_.out HW_.out (by kernel_rfl)) (fun _ _ _ h => h) (Or.inl ⟨by rfl, ?_⟩) hHeld ?_ ?_
                             rotate_left
                             ·rintro w' ⟨s0, s1, s2, s3, s4, s5, s6, s7, s8⟩
                              go_simp
                              with_reducible rfl
                             rotate_left
                             ·simp only [Act.put, List.setIfInBounds_toArray, List.set_cons_zero, List.set_cons_succ, i64_w, i32_w]
                              rfl
                             refine pure_ (i := 23) (N := some 90) (v := ?_) (a' := ?_) #[true, true, true, true, true, true, true, true, true, true, true, true, true, true, true, true, true, true, true, true, true, true, true, true, false, false, false] rfl rfl (any_of HT_.out (by kernel_rfl)) (fun _ _ _ h => h) (Or.inl ⟨by rfl, ?_⟩) ?_ ?_
                             rotate_left
                             ·intro w'
                              go_simp
                              with_reducible rfl
                             rotate_left
                             ·simp only [Act.put, List.setIfInBounds_toArray, List.set_cons_zero, List.set_cons_succ, i64_w, i32_w]
                              rfl
                             refine pure_ (i := 24) (N := some 91) (v := ?_) (a' := ?_) #[true, true, true, true, true, true, true, true, true, true, true, true, true, true, true, true, true, true, true, true, true, true, true, true, true, false, false] rfl rfl (any_of HT_.out (by kernel_rfl)) (fun _ _ _ h => h) (Or.inl ⟨by rfl, ?_⟩) ?_ ?_
                             rotate_left
                             ·intro w'
                              go_simp
                              with_reducible rfl
                             rotate_left
                             ·simp only [Act.put, List.setIfInBounds_toArray, List.set_cons_zero, List.set_cons_succ, i64_w, i32_w]
                              rfl
                             refine pure_ (i := 25) (N := some 92) (v := ?_) (a' := ?_) #[true, true, true, true, true, true, true, true, true, true, true, true, true, true, true, true, true, true, true, true, true, true, true, true, true, true, false] rfl rfl (any_of HT_.out (by kernel_rfl)) (fun _ _ _ h => h) (Or.inl ⟨by rfl, ?_⟩) ?_ ?_
                             rotate_left
                             ·intro w'
                              go_simp
                              with_reducible rfl
                             rotate_left
                             ·simp only [Act.put, List.setIfInBounds_toArray, List.set_cons_zero, List.set_cons_succ, i64_w, i32_w]
                              rfl
                             refine last_ (i := 26) (N := none) #[true, true, true, true, true, true, true, true, true, true, true, true, true, true, true, true, true, true, true, true, true, true, true, true, true, true, true] rfl rfl (one_of HT_.out (by kernel_rfl)) (by decide) (fun K hK => ?_)
                             refine skip_ (w1 := ?_) (by rfl) rfl ?_ ?_
                             rotate_left
                             ·go_simp
                              rfl
                             refine hK.out _ _ ?_
                             clear hK K
                             refine done_ (done_of HT_.out (by kernel_rfl)) ?_
                             try go_wp2_with fail
                             (try simp only [← hl7_3])
                             go_roundg k3
                             case measure => have := HK1.out; have := HK2.out; have := HK3.out; omega
                             case rel => exact ⟨(y255), (wrap64 (x56_3 + 1)), (by first | rfl | (simp; done) | (simp [*]; done) | (simp; decide +kernel)), H', ⟨by have := HK1.out; have := HK2.out; have := HK3.out; omega⟩, ⟨by (try simp only [hl7_2]); (try simp only [hl7_3]); (with_reducible repeat (first | apply Kd.S_alloc | apply Kd.S_drewN | apply Kd.S_drew)); exact HQ60.out⟩, ⟨by (try simp only [hl7_2]); (try simp only [hl7_3]); (with_reducible repeat (first | refine blk_drewN ?_ _ | refine blk_drew ?_ | refine blk_alloc ?_ _)); refine blk_far ?_ (by have h_ := Kd.R_ne HL248_0.out BK232.out (by decide); intro e_; exact h_ (by rw [e_]; rfl)) _; (with_reducible repeat (first | refine blk_drewN ?_ _ | refine blk_drew ?_ | refine blk_alloc ?_ _)); exact BK232.out⟩, ⟨by repeat (first | (with_reducible first | exact HB.out | apply below_alloc | apply pw_below_drewN | apply below_drew1 | refine below_set ?_ GB53.out | refine below_set ?_ GE232.out | refine below_set ?_ GE246.out) | exact HB.out)⟩⟩
                            ·rw [if_neg c51] at H
                             exact absurd H (by simp)
                           ·rw [if_neg c50] at H
                            exact absurd H (by simp)
                          ·rw [if_neg c49] at H
                           exact absurd H (by simp)
                         ·rw [if_neg c48] at H
                          exact absurd H (by simp)
                        ·rw [if_neg c46] at H
                         exact absurd H (by simp)
                       ·rw [if_neg c45] at H
                        exact absurd H (by simp)
                      ·rw [if_neg c44] at H
                       exact absurd H (by simp)
                     ·rw [if_neg c43] at H
                      have c43b0 : (((rd_T77 l0_1 x56_3).f1) == (rd l1 x8_1)) = false := beq_eq_false_iff_ne.mpr c43
                      have c43b1 : (((rd_T77 l0_1 x56_3).f1) != (rd l1 x8_1)) = true := bne_iff_ne.mpr c43
                      have H' := Aside0.mk H
                      clear H
                      have p245 : 0 ≤ (x56_3 : Int) := of_decide_eq_true (by first | (with_reducible assumption) | assumption)
                      have q245 : x56_3 < (l0_1.length : Int) := of_decide_eq_true (by first | (with_reducible assumption) | assumption)
                      obtain ⟨ad245, e245, hx245_0, hx245_1, hx245_2, hx245_3⟩ := at_T77 HR0_1.out x56_3 p245 q245
                      cases e245
                      replace hx245_0 := (HB.out.cell (World.block_lt_of_cell? w _ hx245_0)).trans hx245_0
                      replace hx245_1 := (HB.out.cell (World.block_lt_of_cell? w _ hx245_1)).trans hx245_1
                      replace hx245_2 := (HB.out.cell (World.block_lt_of_cell? w _ hx245_2)).trans hx245_2
                      replace hx245_3 := (HB.out.cell (World.block_lt_of_cell? w _ hx245_3)).trans hx245_3
                      replace p245 := eq_true p245
                      replace q245 := eq_true q245
                      try go_wp2_with (first | ((with_reducible refine gate_dst (N := 11) rfl ?_); refine box_event ?hg (N := 11) ?hd (cs := #[.int .i64 0, .int .i64 0, .int .i64 0, .int .i64 0]) (t := 77) ?hr ?_; (case hd => rfl); (case hg => rfl); (case hr => first | (go_simp; done) | (go_simp; rfl)); intro gb246 hg w62 hbox hb; have n0_ := Aside0.mk (Kd.S_below (by (with_reducible repeat (first | apply Kd.S_alloc | apply Kd.S_drewN | apply Kd.S_drew)); exact HO_7.out) hb); have n1_ := Aside0.mk (blk_below (g := gb232) (o := .cells #[.int .i64 a0_0, .slice (some ad245) l0_1.length c0_1] 30 (0, 0)) (by (with_reducible repeat (first | refine blk_drewN ?_ _ | refine blk_drew ?_ | refine blk_alloc ?_ _)); exact BK232.out) hb); have n2_ := Aside0.mk (below_step (by repeat (first | (with_reducible first | exact HB.out | apply below_alloc | apply pw_below_drewN | apply below_drew1 | refine below_set ?_ GE232.out) | exact HB.out)) hb); have n3_ := Aside0.mk (hbox); have n4_ := Aside0.mk ((by rw [hg]; exact (below_size (by repeat (first | (with_reducible first | exact HB.out | apply below_alloc | apply pw_below_drewN | apply below_drew1 | refine below_set ?_ GE232.out) | exact HB.out))) : w.heap.size ≤ gb246)); have n5_ := Aside0.mk ((by rw [hg]; exact (below_size (by repeat (first | (with_reducible first | exact HB.out | apply below_alloc | apply pw_below_drewN | apply below_drew1 | refine below_set ?_ GE232.out) | exact HB.out))) : w.heap.size ≤ gb246)); have n6_ := Aside0.mk ((by rw [hg]; exact Nat.ne_of_lt (blk_lt (g := gb232) (o := .cells #[.int .i64 a0_0, .slice (some ad245) l0_1.length c0_1] 30 (0, 0)) (by (with_reducible repeat (first | refine blk_drewN ?_ _ | refine blk_drew ?_ | refine blk_alloc ?_ _)); exact BK232.out)) : gb232 ≠ gb246)); have n7_ := Aside0.mk ((by rw [hg]; exact Nat.ne_of_gt (blk_lt (g := gb232) (o := .cells #[.int .i64 a0_0, .slice (some ad245) l0_1.length c0_1] 30 (0, 0)) (by (with_reducible repeat (first | refine blk_drewN ?_ _ | refine blk_drew ?_ | refine blk_alloc ?_ _)); exact BK232.out)) : gb246 ≠ gb232)); clear HO_7; clear BK232; clear HB; have HO_7 := n0_; have BK232 := n1_; have HB := n2_; have BK246 := n3_; have GW246 := n4_; have GE246 := n5_; have NB232_246 := n6_; have NB246_232 := n7_; clear n0_ n1_ n2_ n3_ n4_ n5_ n6_ n7_; clear hb hbox hg; have hnb63 := NB246_232.out; have hnc63 := NB232_246.out; have hcz64_0 : w62.cell? ⟨gb246, 0, none⟩ = some (.int .i64 0) := (blk_cell BK246.out 0).trans rfl; have hcz64_1 : w62.cell? ⟨gb246, 1, none⟩ = some (.int .i64 0) := (blk_cell BK246.out 1).trans rfl; have hcz64_2 : w62.cell? ⟨gb246, 2, none⟩ = some (.int .i64 0) := (blk_cell BK246.out 2).trans rfl; have hcz64_3 : w62.cell? ⟨gb246, 3, none⟩ = some (.int .i64 0) := (blk_cell BK246.out 3).trans rfl; have hfz64_0 := blk_frozen BK246.out 0; have hfz64_1 := blk_frozen BK246.out 1; have hfz64_2 := blk_frozen BK246.out 2; have hfz64_3 := blk_frozen BK246.out 3))
                      have n0_ : Aside0 (Kd.S (Kd.slice 2 (Kd.int .i64)) 34 ((((w62.setCell ⟨gb246, 0, none⟩ (.int .i64 ((rd_T77 l0_1 x56_3).f0))).setCell ⟨gb246, 1, none⟩ (.int .i64 ((rd_T77 l0_1 x56_3).f1))).setCell ⟨gb246, 2, none⟩ (.int .i64 ((rd_T77 l0_1 x56_3).f2))).setCell ⟨gb246, 3, none⟩ (.int .i64 ((rd_T77 l0_1 x56_3).f3))) w.heap.size (fun _ => True) (.slice (some ⟨go15, 0, none⟩) x7_3.length co15) x7_3) := ⟨by (with_reducible repeat (first | apply Kd.S_alloc | apply Kd.S_drewN | apply Kd.S_drew)); exact Kd.S_mono (Kd.S_far (p := ⟨gb246, 3, none⟩) (Kd.S_far (p := ⟨gb246, 2, none⟩) (Kd.S_far (p := ⟨gb246, 1, none⟩) (Kd.S_far (p := ⟨gb246, 0, none⟩) (Kd.S_types HO_7.out BK246.out (by decide)) (fun _ hk => hk.2) (.int .i64 ((rd_T77 l0_1 x56_3).f0))) (fun _ hk => hk.2) (.int .i64 ((rd_T77 l0_1 x56_3).f1))) (fun _ hk => hk.2) (.int .i64 ((rd_T77 l0_1 x56_3).f2))) (fun _ hk => hk.2) (.int .i64 ((rd_T77 l0_1 x56_3).f3))) (fun _ hk => trivial)⟩
                      have n1_ : Aside0 (((((w62.setCell ⟨gb246, 0, none⟩ (.int .i64 ((rd_T77 l0_1 x56_3).f0))).setCell ⟨gb246, 1, none⟩ (.int .i64 ((rd_T77 l0_1 x56_3).f1))).setCell ⟨gb246, 2, none⟩ (.int .i64 ((rd_T77 l0_1 x56_3).f2))).setCell ⟨gb246, 3, none⟩ (.int .i64 ((rd_T77 l0_1 x56_3).f3))).heap[gb232]? = some (.cells #[.int .i64 a0_0, .slice (some ad245) l0_1.length c0_1] 30 (0, 0))) := ⟨by (with_reducible repeat (first | refine blk_drewN ?_ _ | refine blk_drew ?_ | refine blk_alloc ?_ _)); refine blk_far ?_ NB232_246.out _; (with_reducible repeat (first | refine blk_drewN ?_ _ | refine blk_drew ?_ | refine blk_alloc ?_ _)); refine blk_far ?_ NB232_246.out _; (with_reducible repeat (first | refine blk_drewN ?_ _ | refine blk_drew ?_ | refine blk_alloc ?_ _)); refine blk_far ?_ NB232_246.out _; (with_reducible repeat (first | refine blk_drewN ?_ _ | refine blk_drew ?_ | refine blk_alloc ?_ _)); refine blk_far ?_ NB232_246.out _; (with_reducible repeat (first | refine blk_drewN ?_ _ | refine blk_drew ?_ | refine blk_alloc ?_ _)); exact BK232.out⟩
                      have n2_ : Aside0 (((((w62.setCell ⟨gb246, 0, none⟩ (.int .i64 ((rd_T77 l0_1 x56_3).f0))).setCell ⟨gb246, 1, none⟩ (.int .i64 ((rd_T77 l0_1 x56_3).f1))).setCell ⟨gb246, 2, none⟩ (.int .i64 ((rd_T77 l0_1 x56_3).f2))).setCell ⟨gb246, 3, none⟩ (.int .i64 ((rd_T77 l0_1 x56_3).f3))).heap[gb246]? = some (.cells #[.int .i64 ((rd_T77 l0_1 x56_3).f0), .int .i64 ((rd_T77 l0_1 x56_3).f1), .int .i64 ((rd_T77 l0_1 x56_3).f2), .int .i64 ((rd_T77 l0_1 x56_3).f3)] 77 (0, 0))) := ⟨by (with_reducible repeat (first | refine blk_drewN ?_ _ | refine blk_drew ?_ | refine blk_alloc ?_ _)); refine blk_put (cs := #[.int .i64 ((rd_T77 l0_1 x56_3).f0), .int .i64 ((rd_T77 l0_1 x56_3).f1), .int .i64 ((rd_T77 l0_1 x56_3).f2), .int .i64 0]) ?_ 3 _ rfl; (with_reducible repeat (first | refine blk_drewN ?_ _ | refine blk_drew ?_ | refine blk_alloc ?_ _)); refine blk_put (cs := #[.int .i64 ((rd_T77 l0_1 x56_3).f0), .int .i64 ((rd_T77 l0_1 x56_3).f1), .int .i64 0, .int .i64 0]) ?_ 2 _ rfl; (with_reducible repeat (first | refine blk_drewN ?_ _ | refine blk_drew ?_ | refine blk_alloc ?_ _)); refine blk_put (cs := #[.int .i64 ((rd_T77 l0_1 x56_3).f0), .int .i64 0, .int .i64 0, .int .i64 0]) ?_ 1 _ rfl; (with_reducible repeat (first | refine blk_drewN ?_ _ | refine blk_drew ?_ | refine blk_alloc ?_ _)); refine blk_put (cs := #[.int .i64 0, .int .i64 0, .int .i64 0, .int .i64 0]) ?_ 0 _ rfl; (with_reducible repeat (first | refine blk_drewN ?_ _ | refine blk_drew ?_ | refine blk_alloc ?_ _)); exact BK246.out⟩
                      have n3_ : Aside0 (Below w.heap.size w ((((w62.setCell ⟨gb246, 0, none⟩ (.int .i64 ((rd_T77 l0_1 x56_3).f0))).setCell ⟨gb246, 1, none⟩ (.int .i64 ((rd_T77 l0_1 x56_3).f1))).setCell ⟨gb246, 2, none⟩ (.int .i64 ((rd_T77 l0_1 x56_3).f2))).setCell ⟨gb246, 3, none⟩ (.int .i64 ((rd_T77 l0_1 x56_3).f3)))) := ⟨by repeat (first | (with_reducible first | exact HB.out | apply below_alloc | apply pw_below_drewN | apply below_drew1 | refine below_set ?_ GE232.out | refine below_set ?_ GE246.out) | exact HB.out)⟩
                      (try clear HO_7)
                      (try clear BK232)
                      (try clear BK246)
                      (try clear HB)
                      generalize ((((w62.setCell ⟨gb246, 0, none⟩ (.int .i64 ((rd_T77 l0_1 x56_3).f0))).setCell ⟨gb246, 1, none⟩ (.int .i64 ((rd_T77 l0_1 x56_3).f1))).setCell ⟨gb246, 2, none⟩ (.int .i64 ((rd_T77 l0_1 x56_3).f2))).setCell ⟨gb246, 3, none⟩ (.int .i64 ((rd_T77 l0_1 x56_3).f3))) = w65 at n0_ n1_ n2_ n3_ ⊢
                      have HO_7 := n0_
                      have BK232 := n1_
                      have BK246 := n2_
                      have HB := n3_
                      clear n0_ n1_ n2_ n3_
                      have n0_ := Aside0.mk (Kd.S_drew HO_7.out)
                      have n1_ := Aside0.mk (blk_drew BK232.out)
                      have n2_ := Aside0.mk (blk_drew BK246.out)
                      have n3_ := Aside0.mk (below_drew1 HB.out)
                      clear HO_7
                      clear BK232
                      clear BK246
                      clear HB
                      have HO_7 := n0_
                      have BK232 := n1_
                      have BK246 := n2_
                      have HB := n3_
                      clear n0_ n1_ n2_ n3_
                      have p247 : 0 ≤ (x8_1 : Int) := of_decide_eq_true (by first | (with_reducible assumption) | assumption)
                      have q247 : x8_1 < (l1.length : Int) := of_decide_eq_true (by first | (with_reducible assumption) | assumption)
                      obtain ⟨ad247, e247, hx247_0⟩ := Kd.at_int HR1.out x8_1 p247 q247
                      have hw247_0 := hx247_0
                      cases e247
                      replace hx247_0 := (HB.out.cell (World.block_lt_of_cell? w _ hx247_0)).trans hx247_0
                      replace p247 := eq_true p247
                      replace q247 := eq_true q247
                      refine start_ (n := 7) (S := fun w' => w'.cell? ⟨gb246, 0, none⟩ = some (.int .i64 ((rd_T77 l0_1 x56_3).f0)) ∧ w'.cell? ⟨gb246, 1, none⟩ = some (.int .i64 ((rd_T77 l0_1 x56_3).f1)) ∧ w'.cell? ⟨gb246, 2, none⟩ = some (.int .i64 ((rd_T77 l0_1 x56_3).f2)) ∧ w'.cell? ⟨gb246, 3, none⟩ = some (.int .i64 ((rd_T77 l0_1 x56_3).f3)) ∧ w'.cell? (ad247.add (x8_1).toNat) = some (.int .i64 (rd l1 x8_1))) (ds := []) #[false, false, false, false, false, false, false] (by kernel_rfl) rfl rfl ⟨(blk_cell BK246.out 0).trans rfl, (blk_cell BK246.out 1).trans rfl, (blk_cell BK246.out 2).trans rfl, (blk_cell BK246.out 3).trans rfl, ((HB.out.cell (World.block_lt_of_cell? w _ hw247_0)).trans hw247_0)⟩ (fun hHeld => ?_)
                      generalize w65.drew = w66 at HO_7 BK232 BK246 HB hx247_0 hHeld ⊢
                      refine pure_ (i := 0) (N := some 60) (v := ?_) (a' := ?_) #[true, false, false, false, false, false, false] rfl rfl (by kernel_rfl) (fun _ _ _ h => h) (Or.inl ⟨by rfl, ?_⟩) ?_ ?_
                      rotate_left
                      ·intro w'
                       go_simp
                       with_reducible rfl
                      rotate_left
                      ·simp only [Act.put, List.setIfInBounds_toArray, List.set_cons_zero, List.set_cons_succ, i64_w, i32_w]
                       rfl
                      refine pure_ (i := 2) (N := some 62) (v := ?_) (a' := ?_) #[true, false, true, false, false, false, false] rfl rfl (by kernel_rfl) (fun _ _ _ h => h) (Or.inl ⟨by rfl, ?_⟩) ?_ ?_
                      rotate_left
                      ·intro w'
                       go_simp
                       with_reducible rfl
                      rotate_left
                      ·simp only [Act.put, List.setIfInBounds_toArray, List.set_cons_zero, List.set_cons_succ, i64_w, i32_w]
                       rfl
                      refine pure_ (i := 3) (N := some 63) (v := ?_) (a' := ?_) #[true, false, true, true, false, false, false] rfl rfl (by kernel_rfl) (fun _ _ _ h => h) (Or.inl ⟨by rfl, ?_⟩) ?_ ?_
                      rotate_left
                      ·intro w'
                       go_simp
                       with_reducible rfl
                      rotate_left
                      ·simp only [Act.put, List.setIfInBounds_toArray, List.set_cons_zero, List.set_cons_succ, i64_w, i32_w]
                       rfl
                      refine pure_ (i := 4) (N := some 64) (v := ?_) (a' := ?_) #[true, false, true, true, true, false, false] rfl rfl (by kernel_rfl) (fun _ _ _ h => h) (Or.inl ⟨by rfl, ?_⟩) ?_ ?_
                      rotate_left
                      ·intro w'
                       go_simp
                       with_reducible rfl
                      rotate_left
                      ·simp only [Act.put, List.setIfInBounds_toArray, List.set_cons_zero, List.set_cons_succ, i64_w, i32_w]
                       rfl
                      refine take_ (i := 1) (N := some 61) (v := ?_) (a' := ?_) #[true, true, true, true, true, false, false] rfl rfl (by kernel_rfl) (fun _ _ _ h => h) (Or.inl ⟨by rfl, ?_⟩) hHeld ?_ ?_
                      rotate_left
                      ·rintro w' ⟨s0, s1, s2, s3, s4⟩
                       go_simp
                       with_reducible rfl
                      rotate_left
                      ·simp only [Act.put, List.setIfInBounds_toArray, List.set_cons_zero, List.set_cons_succ, i64_w, i32_w]
                       rfl
                      refine take_ (i := 5) (N := some 65) (v := ?_) (a' := ?_) #[true, true, true, true, true, true, false] rfl rfl (by kernel_rfl) (fun _ _ _ h => h) (Or.inl ⟨by rfl, ?_⟩) hHeld ?_ ?_
                      rotate_left
                      ·rintro w' ⟨s0, s1, s2, s3, s4⟩
                       go_simp
                       with_reducible rfl
                      rotate_left
                      ·simp only [Act.put, List.setIfInBounds_toArray, List.set_cons_zero, List.set_cons_succ, i64_w, i32_w]
                       rfl
                      refine pure_ (i := 6) (N := some 66) (v := ?_) (a' := ?_) #[true, true, true, true, true, true, true] rfl rfl (by kernel_rfl) (fun _ _ _ h => h) (Or.inl ⟨by rfl, ?_⟩) ?_ ?_
                      rotate_left
                      ·intro w'
                       go_simp
                       with_reducible rfl
                      rotate_left
                      ·simp only [Act.put, List.setIfInBounds_toArray, List.set_cons_zero, List.set_cons_succ, i64_w, i32_w]
                       rfl
                      refine done_ (by kernel_rfl) ?_
                      try go_wp2_with fail
                      (try simp only [← hl7_3])
                      go_roundg k3
                      case measure => have := HK1.out; have := HK2.out; have := HK3.out; omega
                      case rel => exact ⟨(x7_3), (wrap64 (x56_3 + 1)), (by first | rfl | (simp; done) | (simp [*]; done) | (simp; decide +kernel)), H', ⟨by have := HK1.out; have := HK2.out; have := HK3.out; omega⟩, ⟨by (try simp only [hl7_2]); (try simp only [hl7_3]); (with_reducible repeat (first | apply Kd.S_alloc | apply Kd.S_drewN | apply Kd.S_drew)); exact HO_7.out⟩, ⟨by (try simp only [hl7_2]); (try simp only [hl7_3]); (with_reducible repeat (first | refine blk_drewN ?_ _ | refine blk_drew ?_ | refine blk_alloc ?_ _)); exact BK232.out⟩, ⟨by repeat (first | (with_reducible first | exact HB.out | apply below_alloc | apply pw_below_drewN | apply below_drew1 | refine below_set ?_ GE232.out | refine below_set ?_ GE246.out) | exact HB.out)⟩⟩
                    ·rw [if_neg c42] at H
                     exact absurd H (by simp)
                   ·rw [if_neg c41] at H
                    exact absurd H (by simp)
                  ·rw [if_neg c40] at H
                   exact absurd H (by simp)
                 ·rw [if_neg c39] at H
                  exact absurd H (by simp)
                ·rw [if_neg c38] at H
                 have c38b0 : decide (x56_3 < (l0_1.length : Int)) = false := decide_eq_false c38
                 clear c38
                 have H' := Aside0.mk H
                 clear H
                 go_wp2_with fail
                 (try simp only [← hl7_2, ← hl7_3])
                 go_roundg k3
                 case measure => have := HK1.out; have := HK2.out; have := HK3.out; omega
                 case rel => exact ⟨(x7_3), (wrap64 (x8_1 - 1)), (by first | rfl | (simp; done) | (simp [*]; done) | (simp; decide +kernel)), H', ⟨by have := HK1.out; have := HK2.out; have := HK3.out; omega⟩, ⟨by (try simp only [hl7_2]); (try simp only [hl7_3]); (with_reducible repeat (first | apply Kd.S_alloc | apply Kd.S_drewN | apply Kd.S_drew)); exact HO_7.out⟩, ⟨by (try simp only [hl7_2]); (try simp only [hl7_3]); (with_reducible repeat (first | refine blk_drewN ?_ _ | refine blk_drew ?_ | refine blk_alloc ?_ _)); exact BK232.out⟩, ⟨by repeat (first | (with_reducible first | exact HB.out | apply below_alloc | apply pw_below_drewN | apply below_drew1 | refine below_set ?_ GE232.out) | exact HB.out)⟩⟩
         ·rw [if_neg c14] at H
          exact absurd H (by simp)
        ·rw [if_neg c13] at H
         exact absurd H (by simp)
       ·rw [if_neg c12] at H
        exact absurd H (by simp)
      ·rw [if_neg c11] at H
       exact absurd H (by simp)
     ·rw [if_neg c10] at H
      have c10b0 : decide (0 ≤ x8_1) = false := decide_eq_false c10
      clear c10
      obtain rfl := Option.some.inj H
      go_wp2_with fail
      go_ret
      exact ⟨_, by first | rfl | (simp [errW_none, errW_some] <;> rfl) | (simp only [← hji4]; first | rfl | (simp [errW_none, errW_some] <;> rfl)) | (simp [*, errW_none, errW_some] <;> rfl), by (with_reducible repeat (first | apply Kd.S_alloc | apply Kd.S_drewN | apply Kd.S_drew)); exact HO_7.out, by repeat (first | (with_reducible first | exact HB.out | apply below_alloc | apply pw_below_drewN | apply below_drew1 | refine below_set ?_ GE232.out) | exact HB.out)⟩
  ·rw [if_neg c6] at H
   exact absurd H (by simp)
 ·rw [if_neg c5] at H
  exact absurd H (by simp)
end Go.Proofs.Ytenlcakpcbmmdaa.Q
namespace Go.Proofs.Ytenlcakpcbmmdaa.Q
open Go.RowKit Go.Proofs.YtenlcakpcbmmdaaW.PrintWords Go.Proofs.YtenlcakpcbmmdaaW.PrintLast Go.Proofs.YtenlcakpcbmmdaaW.PrintMore
attribute [local go_sem] max2_int min2_int max_two min_two max_three min_three max_four min_four
set_option linter.unusedVariables false
set_option linter.unusedSimpArgs false
def impl_within.f (a0 : Int) (a1 : Int) (a2 : Int) : Option (Bool) := if a0 ≥ a1 then (some (decide (a0 ≤ a2))) else (some false)
set_option maxHeartbeats 8000000 in
set_option maxRecDepth 100000 in
theorem impl_within.calls (a0 : Int) (a1 : Int) (a2 : Int) (r : Bool) (w : World) (h : impl_within.f a0 a1 a2 = some r) :
  Calls Try.prog 56 #[.int .i64 a0, .int .i64 a1, .int .i64 a2] w fun e w' => e = .returned (.bool r) ∧ Drawn0 w w' := by
 have H : (if a0 ≥ a1 then (some (decide (a0 ≤ a2))) else (some false)) = some r := h
 clear h
 by_cases c4 : a0 ≥ a1
 ·rw [if_pos c4] at H
  have c4b0 : decide (a1 ≤ a0) = true := decide_eq_true c4
  clear c4
  obtain rfl := Option.some.inj H
  go_enter Try.func56, Try.ntmps56
  go_wp2
  go_ret
  exact ⟨by first | rfl | (simp; done) | (simp [*]; done) | (simp; decide +kernel), by repeat (first | exact Drawn0.refl _ | apply Drawn0.step)⟩
 ·rw [if_neg c4] at H
  have c4b0 : decide (a1 ≤ a0) = false := decide_eq_false c4
  clear c4
  obtain rfl := Option.some.inj H
  go_enter Try.func56, Try.ntmps56
  go_wp2
  go_ret
  exact ⟨by first | rfl | (simp; done) | (simp [*]; done) | (simp; decide +kernel), by repeat (first | exact Drawn0.refl _ | apply Drawn0.step)⟩
end Go.Proofs.Ytenlcakpcbmmdaa.Q
namespace Go.Proofs.Ytenlcakpcbmmdaa.Q
open Go.RowKit Go.Proofs.YtenlcakpcbmmdaaW.PrintWords Go.Proofs.YtenlcakpcbmmdaaW.PrintLast Go.Proofs.YtenlcakpcbmmdaaW.PrintMore
attribute [local go_sem] max2_int min2_int max_two min_two max_three min_three max_four min_four
set_option linter.unusedVariables false
set_option linter.unusedSimpArgs false
def impl_Set_isWord_1.f (a0 : Int) (a1_0 : Int) (l1_1 : List (S77)) : Option (Bool) := (impl_within.f a0 0 (wrap64 (a1_0 - 1))).bind fun t232 => (some (!t232))
set_option maxHeartbeats 8000000 in
set_option maxRecDepth 100000 in
theorem impl_Set_isWord_1.calls (a0 : Int) (g1_ : Nat) (a1_0 : Int) (A1_1 : Option Addr) (c1_1 : Nat) (l1_1 : List (S77)) (r : Bool) (w : World) (hr1_1 : Kd.C k77 w A1_1 l1_1.length l1_1) (hc1_1 : l1_1.length ≤ c1_1) (hb1_ : w.heap[g1_]? = some (.cells #[.int .i64 a1_0, .slice A1_1 l1_1.length c1_1] 30 (0, 0))) (h : impl_Set_isWord_1.f a0 a1_0 l1_1 = some r) :
  Calls Try.prog 96 #[.int .i64 a0, .pointer (some ⟨g1_, 0, none⟩)] w fun e w' => e = .returned (.bool r) ∧ Drawn0 w w' := by
 have HR1_1 := Aside0.mk hr1_1
 have HC1_1 := Aside0.mk hc1_1
 clear hr1_1 hc1_1
 have BK1 := Aside0.mk hb1_
 clear hb1_
 have H : ((impl_within.f a0 0 (wrap64 (a1_0 - 1))).bind fun t232 => (some (!t232))) = some r := h
 clear h
 replace H := Option.bind_eq_some_iff.mp H
 obtain ⟨t232, A30, H⟩ := H
 replace H : (some (!t232)) = some r := H
 have A3 := Aside0.mk A30
 clear A30
 obtain rfl := Option.some.inj H
 have hcz4_0 : w.cell? ⟨g1_, 0, none⟩ = some (.int .i64 a1_0) := (blk_cell BK1.out 0).trans rfl
 have hcz4_1 : w.cell? ⟨g1_, 1, none⟩ = some (.slice A1_1 l1_1.length c1_1) := (blk_cell BK1.out 1).trans rfl
 have hfz4_0 := blk_frozen BK1.out 0
 have hfz4_1 := blk_frozen BK1.out 1
 go_enter Try.func96, Try.ntmps96
 go_wp2_with (first | ((with_reducible refine gate_callee (f := 56) rfl ?_); refine goesL_ (some 8) rfl rfl Try.func56 (by kernel_rfl) rfl #[.int .i64 a0, .int .i64 0, .int .i64 (wrap64 (a1_0 - 1))] rfl (by (try simp only [List.map_toArray, List.map_cons, List.map_nil]); first | done | rfl | (simp only [List.length_drop, List.length_take]; rfl)) ?_; (with_reducible refine (impl_within.calls a0 0 (wrap64 (a1_0 - 1)) t232 _ A3.out).mono ?_); rintro e w' ⟨rfl, ⟨nd, rfl⟩⟩; refine ⟨_, rfl, ?_⟩))
 go_ret
 exact ⟨by first | rfl | (simp; done) | (simp [*]; done) | (simp; decide +kernel), by repeat (first | exact Drawn0.refl _ | apply Drawn0.step)⟩
end Go.Proofs.Ytenlcakpcbmmdaa.Q
namespace Go.Proofs.Ytenlcakpcbmmdaa.Q
open Go.RowKit Go.Proofs.YtenlcakpcbmmdaaW.PrintWords Go.Proofs.YtenlcakpcbmmdaaW.PrintLast Go.Proofs.YtenlcakpcbmmdaaW.PrintMore
attribute [local go_sem] max2_int min2_int max_two min_two max_three min_three max_four min_four
set_option linter.unusedVariables false
set_option linter.unusedSimpArgs false
def slices_IndexFunc_int64_int64_at_impl_Set_isWord_1.l0 : Nat → List Int → Int → Int → Int → List (S77) → Option (Int)
 | 0, _, _, _, _, _ => none
 | k + 1, x0, x7, x8, x90021000, x90021001 => if x8 < x7 then (if 0 ≤ x8 then (if x8 < (x0.length : Int) then ((impl_Set_isWord_1.f (rd x0 x8) x90021000 x90021001).bind fun t234 => (if t234 = true then (some x8) else (slices_IndexFunc_int64_int64_at_impl_Set_isWord_1.l0 k x0 x7 (wrap64 (x8 + 1)) x90021000 x90021001))) else (none)) else (none)) else (some (-1))
def slices_IndexFunc_int64_int64_at_impl_Set_isWord_1.f (k : Nat) (l0 : List Int) (a1_0_0 : Int) (l1_0_1 : List (S77)) : Option (Int) := slices_IndexFunc_int64_int64_at_impl_Set_isWord_1.l0 k l0 (l0.length : Int) 0 a1_0_0 l1_0_1
theorem slices_IndexFunc_int64_int64_at_impl_Set_isWord_1.mono_l : ∀ k, (∀ y0 y1 y2 y3 y4, LeO (slices_IndexFunc_int64_int64_at_impl_Set_isWord_1.l0 k y0 y1 y2 y3 y4) (slices_IndexFunc_int64_int64_at_impl_Set_isWord_1.l0 (k + 1) y0 y1 y2 y3 y4))
 | 0 => fun _ _ _ _ _ r h => by simp [slices_IndexFunc_int64_int64_at_impl_Set_isWord_1.l0] at h
 | k + 1 => by
  have ih0 := slices_IndexFunc_int64_int64_at_impl_Set_isWord_1.mono_l k
  ·intro y0 y1 y2 y3 y4
   unfold slices_IndexFunc_int64_int64_at_impl_Set_isWord_1.l0
   repeat' first
   | (with_reducible exact ih0 _ _ _ _ _)
   | (with_reducible exact LeO.refl _)
   | (with_reducible exact LeO.none _)
   | (with_reducible refine LeO.ite ?_ ?_)
   | (with_reducible refine LeO.bind ?_ (fun _ => ?_))
   | exact ih0 _ _ _ _ _
   | exact LeO.none _
   | refine LeO.ite ?_ ?_
   | refine LeO.bind ?_ (fun _ => ?_)
theorem slices_IndexFunc_int64_int64_at_impl_Set_isWord_1.mono : ∀ a0 a1 a2 k, LeO (slices_IndexFunc_int64_int64_at_impl_Set_isWord_1.f k a0 a1 a2) (slices_IndexFunc_int64_int64_at_impl_Set_isWord_1.f (k + 1) a0 a1 a2) := by
 intro a0 a1 a2 k
 have ih0 := slices_IndexFunc_int64_int64_at_impl_Set_isWord_1.mono_l k
 unfold slices_IndexFunc_int64_int64_at_impl_Set_isWord_1.f
 repeat' first
   | (with_reducible exact ih0 _ _ _ _ _)
   | (with_reducible exact LeO.refl _)
   | (with_reducible exact LeO.none _)
   | (with_reducible refine LeO.ite ?_ ?_)
   | (with_reducible refine LeO.bind ?_ (fun _ => ?_))
   | exact ih0 _ _ _ _ _
   | exact LeO.none _
   | refine LeO.ite ?_ ?_
   | refine LeO.bind ?_ (fun _ => ?_)
set_option maxHeartbeats 8000000 in
set_option maxRecDepth 100000 in
theorem slices_IndexFunc_int64_int64_at_impl_Set_isWord_1.calls (k : Nat) (A0 : Option Addr) (c0 : Nat) (l0 : List Int) (g1_0_ : Nat) (a1_0_0 : Int) (A1_0_1 : Option Addr) (c1_0_1 : Nat) (l1_0_1 : List (S77)) (r : Int) (w : World) (hr0 : Kd.C (Kd.int .i64) w A0 l0.length l0) (hc0 : l0.length ≤ c0) (hr1_0_1 : Kd.C k77 w A1_0_1 l1_0_1.length l1_0_1) (hc1_0_1 : l1_0_1.length ≤ c1_0_1) (hb1_0_ : w.heap[g1_0_]? = some (.cells #[.int .i64 a1_0_0, .slice A1_0_1 l1_0_1.length c1_0_1] 30 (0, 0))) (h : slices_IndexFunc_int64_int64_at_impl_Set_isWord_1.f k l0 a1_0_0 l1_0_1 = some r) :
  Calls Try.prog 113 #[.slice A0 l0.length c0, .func (.func 96) #[] #[.pointer (some ⟨g1_0_, 0, none⟩)]] w fun e w' => e = .returned (.int .i64 r) ∧ Drawn0 w w' := by
 have HR0 := Aside0.mk hr0
 have HC0 := Aside0.mk hc0
 clear hr0 hc0
 have HR1_0_1 := Aside0.mk hr1_0_1
 have HC1_0_1 := Aside0.mk hc1_0_1
 clear hr1_0_1 hc1_0_1
 have BK90020 := Aside0.mk hb1_0_
 clear hb1_0_
 have H : (slices_IndexFunc_int64_int64_at_impl_Set_isWord_1.l0 k l0 (l0.length : Int) 0 a1_0_0 l1_0_1) = some r := h
 clear h
 have H' := Aside0.mk H
 clear H
 go_enter Try.func113, Try.ntmps113
 go_wp2
 go_loopg [8] k (fun kq v8 w' => ∃ (x8_1 : Int), v8 = .int .i64 x8_1 ∧ Aside0 (slices_IndexFunc_int64_int64_at_impl_Set_isWord_1.l0 kq l0 (l0.length : Int) x8_1 a1_0_0 l1_0_1 = some r) ∧ Aside0 (kq ≤ k) ∧ Aside0 (w'.heap[g1_0_]? = some (.cells #[.int .i64 a1_0_0, (.slice A1_0_1 l1_0_1.length c1_0_1)] 30 (0, 0))) ∧ Drawn0 w w')
 case atStart => exact ⟨(0), (by first | rfl | (simp; done) | (simp [*]; done) | (simp; decide +kernel)), H', ⟨Nat.le_refl _⟩, ⟨by (with_reducible repeat (first | refine blk_drewN ?_ _ | refine blk_drew ?_ | refine blk_alloc ?_ _)); exact BK90020.out⟩, by repeat (first | exact Drawn0.refl _ | apply Drawn0.step)⟩
 case round =>
  clear H'
  try clear c1
  try clear p2
  obtain ⟨x8_1, rfl, HA, HK1, BK90020, ⟨m1, rfl⟩⟩ := hrel
  cases gk with
  | zero => exact absurd HA.out (by simp [slices_IndexFunc_int64_int64_at_impl_Set_isWord_1.l0])
  | succ k1 =>
   have H := HA.out
   clear HA
   simp only [slices_IndexFunc_int64_int64_at_impl_Set_isWord_1.l0] at H
   by_cases c3 : x8_1 < (l0.length : Int)
   ·rw [if_pos c3] at H
    have c3b0 : decide (x8_1 < (l0.length : Int)) = true := decide_eq_true c3
    clear c3
    by_cases c4 : 0 ≤ x8_1
    ·rw [if_pos c4] at H
     have c4b0 : decide (0 ≤ x8_1) = true := decide_eq_true c4
     clear c4
     by_cases c5 : x8_1 < (l0.length : Int)
     ·rw [if_pos c5] at H
      have c5b0 : decide (x8_1 < (l0.length : Int)) = true := decide_eq_true c5
      clear c5
      replace H := Option.bind_eq_some_iff.mp H
      obtain ⟨t234, A60, H⟩ := H
      replace H : (if t234 = true then (some x8_1) else (slices_IndexFunc_int64_int64_at_impl_Set_isWord_1.l0 k1 l0 (l0.length : Int) (wrap64 (x8_1 + 1)) a1_0_0 l1_0_1)) = some r := H
      have A6 := Aside0.mk A60
      clear A60
      by_cases c7 : t234 = true
      ·subst c7
       have H1 : (some x8_1) = some r := by rw [if_pos rfl] at H; exact H
       clear H
       have H := H1
       clear H1
       obtain rfl := Option.some.inj H
       have p233 : 0 ≤ (x8_1 : Int) := of_decide_eq_true (by first | (with_reducible assumption) | assumption)
       have q233 : x8_1 < (l0.length : Int) := of_decide_eq_true (by first | (with_reducible assumption) | assumption)
       obtain ⟨ad233, e233, hx233_0⟩ := Kd.at_int HR0.out x8_1 p233 q233
       cases e233
       replace p233 := eq_true p233
       replace q233 := eq_true q233
       go_wp2_with fail
       (with_reducible refine (impl_Set_isWord_1.calls (rd l0 x8_1) g1_0_ a1_0_0 A1_0_1 c1_0_1 l1_0_1 true _ ?side1_q8 ?side2_q8 ?side3_q8 A6.out).mono ?_); (case side1_q8 => repeat (first | exact HR1_0_1.out | (with_reducible refine Kd.C_alloc ?_ _) | (with_reducible refine Kd.C_drewN ?_ _) | (with_reducible refine Kd.C_drew ?_))); (case side2_q8 => exact HC1_0_1.out); (case side3_q8 => exact (by (with_reducible repeat (first | refine blk_drewN ?_ _ | refine blk_drew ?_ | refine blk_alloc ?_ _)); exact BK90020.out))
       rintro e w' ⟨rfl, ⟨nd, rfl⟩⟩
       go_wp2_with fail
       go_ret
       exact ⟨by first | rfl | (simp; done) | (simp [*]; done) | (simp; decide +kernel), by repeat (first | exact Drawn0.refl _ | apply Drawn0.step)⟩
      ·replace c7 := Bool.eq_false_iff.mpr c7
       subst c7
       have H1 : (slices_IndexFunc_int64_int64_at_impl_Set_isWord_1.l0 k1 l0 (l0.length : Int) (wrap64 (x8_1 + 1)) a1_0_0 l1_0_1) = some r := by rw [if_neg (show ¬ (false = true) by decide)] at H; exact H
       clear H
       have H := H1
       clear H1
       have H' := Aside0.mk H
       clear H
       have p233 : 0 ≤ (x8_1 : Int) := of_decide_eq_true (by first | (with_reducible assumption) | assumption)
       have q233 : x8_1 < (l0.length : Int) := of_decide_eq_true (by first | (with_reducible assumption) | assumption)
       obtain ⟨ad233, e233, hx233_0⟩ := Kd.at_int HR0.out x8_1 p233 q233
       cases e233
       replace p233 := eq_true p233
       replace q233 := eq_true q233
       go_wp2_with fail
       (with_reducible refine (impl_Set_isWord_1.calls (rd l0 x8_1) g1_0_ a1_0_0 A1_0_1 c1_0_1 l1_0_1 false _ ?side1_q9 ?side2_q9 ?side3_q9 A6.out).mono ?_); (case side1_q9 => repeat (first | exact HR1_0_1.out | (with_reducible refine Kd.C_alloc ?_ _) | (with_reducible refine Kd.C_drewN ?_ _) | (with_reducible refine Kd.C_drew ?_))); (case side2_q9 => exact HC1_0_1.out); (case side3_q9 => exact (by (with_reducible repeat (first | refine blk_drewN ?_ _ | refine blk_drew ?_ | refine blk_alloc ?_ _)); exact BK90020.out))
       rintro e w' ⟨rfl, ⟨nd, rfl⟩⟩
       go_wp2_with fail
       go_roundg k1
       case measure => have := HK1.out; omega
       case rel => exact ⟨(wrap64 (x8_1 + 1)), (by first | rfl | (simp; done) | (simp [*]; done) | (simp; decide +kernel)), H', ⟨by have := HK1.out; omega⟩, ⟨by (with_reducible repeat (first | refine blk_drewN ?_ _ | refine blk_drew ?_ | refine blk_alloc ?_ _)); exact BK90020.out⟩, by repeat (first | exact Drawn0.refl _ | apply Drawn0.step)⟩
     ·rw [if_neg c5] at H
      exact absurd H (by simp)
    ·rw [if_neg c4] at H
     exact absurd H (by simp)
   ·rw [if_neg c3] at H
    have c3b0 : decide (x8_1 < (l0.length : Int)) = false := decide_eq_false c3
    clear c3
    obtain rfl := Option.some.inj H
    go_wp2_with fail
    go_ret
    exact ⟨by first | rfl | (simp; done) | (simp [*]; done) | (simp; decide +kernel), by repeat (first | exact Drawn0.refl _ | apply Drawn0.step)⟩
end Go.Proofs.Ytenlcakpcbmmdaa.Q

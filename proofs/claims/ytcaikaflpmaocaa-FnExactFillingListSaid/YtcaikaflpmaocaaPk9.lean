/-
 Parts of the proof, in their order: Fits.
-/
import Derived.Test.YtcaikaflpmaocaaSq
import Derived.Test.YtcaikaflpmaocaaPk8
import Derived.Deep.CutRange
namespace Go.Proofs.Ytcaikaflpmaocaa
open Go Go.RowKit Go.Proofs Go.Proofs.YtcaikaflpmaocaaW.PrintWords Go.Proofs.YtcaikaflpmaocaaW.PrintLast Go.Proofs.YtcaikaflpmaocaaW.PrintMore Go.Proofs.Ytcaikaflpmaocaa.Q
set_option linter.unusedVariables false
set_option linter.unusedSimpArgs false
theorem below_set4g {w0 w : World} {g : Nat} (h : Below w0.heap.size w0 w) (hg : w0.heap.size ≤ g) (v0 v1 v2 v3 : Value) : Below w0.heap.size w0 ((((w.setCell ⟨g, 0, none⟩ v0).setCell ⟨g, 1, none⟩ v1).setCell ⟨g, 2, none⟩ v2).setCell ⟨g, 3, none⟩ v3) :=
 (((h.setCell hg _).setCell hg _).setCell hg _).setCell hg _
def fits_T3 : Bool × List (List Nat × List Nat) := (true, [([], []), ([0], [0]), ([], []), ([2], [2]), ([3], [3]), ([4], [4]), ([], []), ([6], [6]), ([], []), ([7, 8], [7, 8]), ([9], [9]), ([], []), ([1, 0, 1, 11], [1]), ([5, 12, 0, 1, 2, 3, 4, 5, 11, 12], [5]), ([11, 10, 13, 0, 1, 2, 3, 4, 5, 6, 7, 8, 9, 10, 11, 12, 13], [10, 11])])
def fits_B3 : List Nat := [0, 1, 0, 4, 12, 28, 0, 64, 0, 448, 960, 0, 2051, 6207, 16383]
theorem fits_tab3 : rtab .any (opsOf Try.f77 3) = fits_T3 := by kernel_rfl
theorem fits_bits3 : waitsOk fits_T3.2 fits_B3 = true := by kernel_rfl
structure Shape (plan bs : List (List Int)) : Prop where
 h1 : 1 ≤ plan.length
 h5 : plan.length ≤ 5
 w1 : 1 ≤ rowLen plan 0
 w5 : rowLen plan 0 ≤ 5
 len : ∀ y, y < plan.length → rowLen plan y = rowLen plan 0
 four : bs.length = 4
 bl : ∀ k, k < 4 → rowLen bs k = 0 ∨ rowLen bs k = if k % 2 = 1 then rowLen plan 0 else plan.length
def BadP (plan : List (List Int)) (y x i : Nat) : Bool := decide (0 ≤ ik (rowAt plan y) x) && !decide (ik (rowAt plan y) x = i)
def BadA (bs : List (List Int)) (t : T4) (y x : Nat) : Bool := decide (x = 0) && (decide (0 < rowLen bs 0) && !decide (ik (rowAt bs 0) y = t.get 0))
def BadB (bs : List (List Int)) (t : T4) (y x : Nat) : Bool := decide (y = 0) && (decide (0 < rowLen bs 1) && !decide (ik (rowAt bs 1) x = t.get 1))
def BadC (plan bs : List (List Int)) (t : T4) (y x : Nat) : Bool := decide (x + 1 = rowLen plan 0) && (decide (0 < rowLen bs 2) && !decide (ik (rowAt bs 2) y = t.get 2))
def BadD (plan bs : List (List Int)) (t : T4) (y x : Nat) : Bool := decide (y + 1 = plan.length) && (decide (0 < rowLen bs 3) && !decide (ik (rowAt bs 3) x = t.get 3))
def fitB (ts : List T4) (plan bs : List (List Int)) (y x i : Nat) : Bool := !BadP plan y x i && (!(BadA bs (tk ts i) y x || BadB bs (tk ts i) y x) && !(BadC plan bs (tk ts i) y x || BadD plan bs (tk ts i) y x))
set_option maxHeartbeats 16000000 in
set_option maxRecDepth 100000 in
theorem fits_any (C : Int) (A : Option Addr) (ts : List T4) (n c : Nat) (A1 : Option Addr) (plan : List (List Int)) (m1 c1 : Nat) (A2 : Option Addr) (bs : List (List Int)) (m2 c2 : Nat) (y x i : Nat) (w : World)
 (hn : n = ts.length) (hA : RT w A ts) (hl : n ≤ 1000000) (hm1 : m1 = plan.length) (hA1 : RR w A1 plan) (hm2 : m2 = bs.length) (hA2 : RR w A2 bs) (hsh : Shape plan bs)
 (hy : y < plan.length) (hx : x < rowLen plan 0) (hi : i < ts.length) :
 Calls Try.prog 77 #[.agg #[.int .i64 C, .slice A n c], .slice A1 m1 c1, .slice A2 m2 c2, .int .i64 y, .int .i64 x, .int .i64 i] w fun e w' => e = .returned (.bool (fitB ts plan bs y x i)) ∧ Below w.heap.size w w' := by
 have HN := Lib.hid hn; have HM1 := Lib.hid hm1; have HM2 := Lib.hid hm2
 obtain ⟨h1, h5, w1, w5, hlen, h4, hbl⟩ := hsh
 have hr := hlen y hy
 have HBL := Lib.hid hbl
 obtain ⟨pb, po, PA, pc, hPA, hpb, hp, hpr, hpc, -⟩ := hA1 y hy
 obtain ⟨pb0, po0, PA0, pc0, hPA0, -, p0, -, -, -⟩ := hA1 0 (by omega)
 obtain ⟨rfl, rfl⟩ : pb = pb0 ∧ po = po0 := by rw [hPA] at hPA0; injection hPA0 with e; injection e with e1 e2; exact ⟨e1, e2⟩
 subst hPA
 obtain ⟨rb, ro, hRA, hrb, hrx⟩ := hpr x (by rw [← hr] at hx; exact hx)
 subst hRA
 obtain ⟨bb, bo, BA0, bc0, hBA, hbb, b0, hbr0, -, -⟩ := hA2 0 (by omega)
 obtain ⟨_, _, BA1, bc1, e1, -, b1, hbr1, -, -⟩ := hA2 1 (by omega)
 obtain ⟨_, _, BA2, bc2, e2, -, b2, hbr2, -, -⟩ := hA2 2 (by omega)
 obtain ⟨_, _, BA3, bc3, e3, -, b3, hbr3, -, -⟩ := hA2 3 (by omega)
 rw [hBA] at e1 e2 e3
 injection e1 with e1; injection e1 with e4 e5; subst e4 e5
 injection e2 with e2; injection e2 with e4 e5; subst e4 e5
 injection e3 with e3; injection e3 with e4 e5; subst e4 e5
 subst hBA
 obtain ⟨tb, tq, hTA, htb, c0, c1_, c2_, c3⟩ := hA i hi
 subst hTA
 have c1 := c1_; have c2 := c2_; clear c1_ c2_
 rw [hr] at hp
 rw [Nat.add_zero] at p0 b0
 have j1 : (y : Int) < m1 := by omega
 have j2 : (x : Int) < rowLen plan 0 := by omega
 have j3 : (0 : Int) < m1 := by omega
 have j4 : (i : Int) < n := by omega
 have j5 : 0 < m1 := by omega
 have h24 : m2 = 4 := by omega
 subst h24
 have hW1 : IntKind.i64.wrap ((rowLen plan 0 : Nat) - 1) = ((rowLen plan 0 : Nat) : Int) - 1 := by rw [i64_w]; exact wrap_id (by omega) (by omega)
 have hW2 : IntKind.i64.wrap ((m1 : Nat) - 1) = ((m1 : Nat) : Int) - 1 := by rw [i64_w]; exact wrap_id (by omega) (by omega)
 clear hA hA1 hA2 hPA0 hlen hbl
 have HW1 := Lib.hid hW1; have HW2 := Lib.hid hW2; clear hW1 hW2
 have HX := Lib.hid hx; have HY := Lib.hid hy; have HI := Lib.hid hi; have HR := Lib.hid hr
 clear hn hm1 hm2 hr
 go_enter Try.func77, Try.ntmps77
 go_upto_region 1 with fail
 go_cut [34] from 16 (fun s34 wx => s34 = .bool (BadP plan y x i) ∧ Below w.heap.size w wx ∧ wx.cell? ⟨w.heap.size, 1, none⟩ = some (.slice (some ⟨tb, tq, none⟩) n c))
 case first =>
  by_cases g1 : 0 ≤ ik (rowAt plan y) x
  ·by_cases g2 : ik (rowAt plan y) x = i
   ·have k1 : ik (rowAt plan y) x ≥ 0 := g1
    have k2 : (ik (rowAt plan y) x != (i : Int)) = false := by simp [g2]
    have k3 : BadP plan y x i = false := by simp [BadP, g2]
    go_wp2_with fail
    go_meet
    exact ⟨congrArg Value.bool k3.symm, below_alloc (Below.refl _ _) _, by go_simp⟩
   ·have k1 : ik (rowAt plan y) x ≥ 0 := g1
    have k2 : (ik (rowAt plan y) x != (i : Int)) = true := by simp [g2]
    have k3 : BadP plan y x i = true := by simp [BadP, g1, g2]
    go_wp2_with fail
    go_meet
    exact ⟨congrArg Value.bool k3.symm, below_alloc (Below.refl _ _) _, by go_simp⟩
  ·have k1 : ¬ ik (rowAt plan y) x ≥ 0 := g1
   have k3 : BadP plan y x i = false := by simp [BadP, g1]
   go_wp2_with fail
   go_meet
   exact ⟨congrArg Value.bool k3.symm, below_alloc (Below.refl _ _) _, by go_simp⟩
 case rest =>
 obtain ⟨rfl, HB, a1⟩ := hcut
 obtain ⟨bp, hP⟩ : ∃ b_, b_ = BadP plan y x i := ⟨_, rfl⟩
 rw [← hP]
 rcases bp with _ | _
 rotate_left
 ·have HP := Lib.hid hP; clear hP
  go_wp2_with fail
  go_ret
  exact ⟨congrArg (fun b_ => Ending.returned (.bool b_)) (by have := HP.out; simp [fitB, ← this]), HB⟩
 have HP := Lib.hid hP; clear hP
 go_upto_region 3 with fail
 replace p0 := cell_to HB p0; replace c0 := cell_to HB c0; replace c1 := cell_to HB c1; replace c2 := cell_to HB c2; replace c3 := cell_to HB c3
 obtain ⟨wB, rfl⟩ : ∃ w_, w_ = wc := ⟨_, rfl⟩
 have hD := (Below.refl wB.heap.size wB).drew
 refine start_ (n := 15) (S := fun w' => w'.cell? ⟨pb, po, none⟩ = some (.slice PA0 (rowLen plan 0) pc0) ∧ w'.cell? ⟨w.heap.size, 1, none⟩ = some (.slice (some ⟨tb, tq, none⟩) n c) ∧ w'.cell? ⟨tb, tq + i * 4, none⟩ = some (.int .i64 ((tk ts i).get 0)) ∧ w'.cell? ⟨tb, tq + i * 4 + 1, none⟩ = some (.int .i64 ((tk ts i).get 1)) ∧ w'.cell? ⟨tb, tq + i * 4 + 2, none⟩ = some (.int .i64 ((tk ts i).get 2)) ∧ w'.cell? ⟨tb, tq + i * 4 + 3, none⟩ = some (.int .i64 ((tk ts i).get 3))) (ds := [14]) #[f_,f_,f_,f_,f_,f_,f_,f_,f_,f_,f_,f_,f_,f_,f_] (by kernel_rfl) rfl rfl ⟨cell_to hD p0, cell_to hD a1, cell_to hD c0, cell_to hD c1, cell_to hD c2, cell_to hD c3⟩ (fun hHeld => ?_)
 refine with_tabW fits_tab3 fits_bits3 (fun HT_ HW_ => ?_)
 generalize wB.drew = wd at hD hHeld ⊢
 refine p_ 0 35 ?_ #[t_,f_,f_,f_,f_,f_,f_,f_,f_,f_,f_,f_,f_,f_,f_] rfl rfl HT_.out (by kernel_rfl) (fun _ _ _ h => h) (.inl ⟨by rfl, ?_⟩) ?_ ?_ ?_
 rotate_left
 ·intro w'
  go_simp
  with_reducible rfl
 rotate_left
 ·simp only [Q_]
  rfl
 refine p_ 1 36 ?_ #[t_,t_,f_,f_,f_,f_,f_,f_,f_,f_,f_,f_,f_,f_,f_] rfl rfl HT_.out (by kernel_rfl) (fun _ _ _ h => h) (.inl ⟨by rfl, ?_⟩) ?_ ?_ ?_
 rotate_left
 ·intro w'
  go_simp
  with_reducible rfl
 rotate_left
 ·simp only [Q_]
  rfl
 refine p_ 2 37 ?_ #[t_,t_,t_,f_,f_,f_,f_,f_,f_,f_,f_,f_,f_,f_,f_] rfl rfl HT_.out (by kernel_rfl) (fun _ _ _ h => h) (.inl ⟨by rfl, ?_⟩) ?_ ?_ ?_
 rotate_left
 ·intro w'
  go_simp
  with_reducible rfl
 rotate_left
 ·simp only [Q_]
  rfl
 refine p_ 3 38 ?_ #[t_,t_,t_,t_,f_,f_,f_,f_,f_,f_,f_,f_,f_,f_,f_] rfl rfl HT_.out (by kernel_rfl) (fun _ _ _ h => h) (.inl ⟨by rfl, ?_⟩) ?_ ?_ ?_
 rotate_left
 ·intro w'
  go_simp
  with_reducible rfl
 rotate_left
 ·simp only [Q_]
  rfl
 refine p_ 6 41 ?_ #[t_,t_,t_,t_,f_,f_,t_,f_,f_,f_,f_,f_,f_,f_,f_] rfl rfl HT_.out (by kernel_rfl) (fun _ _ _ h => h) (.inl ⟨by rfl, ?_⟩) ?_ ?_ ?_
 rotate_left
 ·intro w'
  go_simp
  with_reducible rfl
 rotate_left
 ·simp only [Q_]
  rfl
 refine p_ 8 43 ?_ #[t_,t_,t_,t_,f_,f_,t_,f_,t_,f_,f_,f_,f_,f_,f_] rfl rfl HT_.out (by kernel_rfl) (fun _ _ _ h => h) (.inl ⟨by rfl, ?_⟩) ?_ ?_ ?_
 rotate_left
 ·intro w'
  go_simp
  with_reducible rfl
 rotate_left
 ·simp only [Q_]
  rfl
 refine tk_ 4 39 ?_ #[t_,t_,t_,t_,t_,f_,t_,f_,t_,f_,f_,f_,f_,f_,f_] rfl rfl (take_ofW HT_.out HW_.out (by kernel_rfl)) (fun _ _ _ h => h) (.inl ⟨by rfl, ?_⟩) hHeld ?_ ?_ ?_
 rotate_left
 ·rintro w' ⟨s0, s1, s2, s3, s4, s5⟩
  go_simp
  with_reducible rfl
 rotate_left
 ·simp only [Q_]
  rfl
 refine p_ 5 40 ?_ #[t_,t_,t_,t_,t_,t_,t_,f_,t_,f_,f_,f_,f_,f_,f_] rfl rfl HT_.out (by kernel_rfl) (fun _ _ _ h => h) (.inl ⟨by rfl, ?_⟩) ?_ ?_ ?_
 rotate_left
 ·intro w'
  go_simp
  with_reducible rfl
 rotate_left
 ·simp only [Q_]
  rfl
 refine tk_ 7 42 ?_ #[t_,t_,t_,t_,t_,t_,t_,t_,t_,f_,f_,f_,f_,f_,f_] rfl rfl (take_ofW HT_.out HW_.out (by kernel_rfl)) (fun _ _ _ h => h) (.inl ⟨by rfl, ?_⟩) hHeld ?_ ?_ ?_
 rotate_left
 ·rintro w' ⟨s0, s1, s2, s3, s4, s5⟩
  go_simp
  with_reducible rfl
 rotate_left
 ·simp only [Q_]
  rfl
 refine p_ 9 44 ?_ #[t_,t_,t_,t_,t_,t_,t_,t_,t_,t_,f_,f_,f_,f_,f_] rfl rfl HT_.out (by kernel_rfl) (fun _ _ _ h => h) (.inl ⟨by rfl, ?_⟩) ?_ ?_ ?_
 rotate_left
 ·intro w'
  go_simp
  with_reducible rfl
 rotate_left
 ·simp only [Q_]
  rfl
 refine tk_ 10 45 ?_ #[t_,t_,t_,t_,t_,t_,t_,t_,t_,t_,t_,f_,f_,f_,f_] rfl rfl (take_ofW HT_.out HW_.out (by kernel_rfl)) (fun _ _ _ h => h) (.inl ⟨by rfl, ?_⟩) hHeld ?_ ?_ ?_
 rotate_left
 ·rintro w' ⟨s0, s1, s2, s3, s4, s5⟩
  go_simp
  with_reducible rfl
 rotate_left
 ·simp only [Q_]
  rfl
 refine one_ (i := 11) (N := some 15) #[t_,t_,t_,t_,t_,t_,t_,t_,t_,t_,t_,t_,f_,f_,f_] rfl rfl (one_of HT_.out (by kernel_rfl)) (by decide) (fun K hK => ?_)
 refine box_step ?hg (N := 15) ?hd (cs := #[.int .i64 0, .int .i64 0, .int .i64 0, .int .i64 0]) (t := 85) ?hr ?_; (case hd => rfl); (case hg => rfl); (case hr => first | (go_simp; done) | (go_simp; rfl))
 intro gb hg w27 hbox hb
 have G1 : wd.heap.size ≤ gb := Nat.le_of_eq hg.symm
 have bT : BK w27 gb #[.int .i64 0, .int .i64 0, .int .i64 0, .int .i64 0] 85 := hbox
 clear hg hbox
 refine hK.out _ _ ⟨cell_to hb hHeld.1, cell_to hb hHeld.2.1, cell_to hb hHeld.2.2.1, cell_to hb hHeld.2.2.2.1, cell_to hb hHeld.2.2.2.2.1, cell_to hb hHeld.2.2.2.2.2⟩ (fun hHeld => ?_)
 clear hK K
 refine norm_ (a' := ?_) ?_ ?_
 rotate_left
 ·show Act.put _ (some 15) _ = _
  simp only [Q_]
  rfl
 refine p_ 12 13 ?_ #[t_,t_,t_,t_,t_,t_,t_,t_,t_,t_,t_,t_,t_,f_,f_] rfl rfl HT_.out (by kernel_rfl) (fun _ _ _ h => h) (.inl ⟨by rfl, ?_⟩) ?_ ?_ ?_
 rotate_left
 ·intro w'
  go_simp
  with_reducible rfl
 rotate_left
 ·simp only [Q_]
  rfl
 refine p_ 13 14 ?_ #[t_,t_,t_,t_,t_,t_,t_,t_,t_,t_,t_,t_,t_,t_,f_] rfl rfl HT_.out (by kernel_rfl) (fun _ _ _ h => h) (.inl ⟨by rfl, ?_⟩) ?_ ?_ ?_
 rotate_left
 ·intro w'
  go_simp
  with_reducible rfl
 rotate_left
 ·simp only [Q_]
  rfl
 refine last_ (i := 14) (N := none) #[t_,t_,t_,t_,t_,t_,t_,t_,t_,t_,t_,t_,t_,t_,t_] rfl rfl (one_of HT_.out (by kernel_rfl)) (by decide) (fun K hK => ?_)
 have y0 : w27.cell? ⟨gb, 0, none⟩ = some (.int .i64 0) := bT.cell rfl
 have y1 : w27.cell? ⟨gb, 1, none⟩ = some (.int .i64 0) := bT.cell rfl
 have y2 : w27.cell? ⟨gb, 2, none⟩ = some (.int .i64 0) := bT.cell rfl
 have y3 : w27.cell? ⟨gb, 3, none⟩ = some (.int .i64 0) := bT.cell rfl
 have f0 := bT.frozen 0; have f1 := bT.frozen 1; have f2 := bT.frozen 2; have f3 := bT.frozen 3
 refine skip_ (w1 := ?_) (by rfl) rfl ?_ ?_
 rotate_left
 ·go_simp
  rfl
 have hs4 := below_set4g hb G1 (.int .i64 ((tk ts i).get 0)) (.int .i64 ((tk ts i).get 1)) (.int .i64 ((tk ts i).get 2)) (.int .i64 ((tk ts i).get 3))
 have bT4 := (((bT.set 0 (.int .i64 ((tk ts i).get 0))).set 1 (.int .i64 ((tk ts i).get 1))).set 2 (.int .i64 ((tk ts i).get 2))).set 3 (.int .i64 ((tk ts i).get 3))
 refine hK.out _ _ ?_
 clear hK K
 refine done_ (done_of HT_.out (by kernel_rfl)) ?_
 generalize ((((w27.setCell ⟨gb, 0, none⟩ (.int .i64 ((tk ts i).get 0))).setCell ⟨gb, 1, none⟩ (.int .i64 ((tk ts i).get 1))).setCell ⟨gb, 2, none⟩ (.int .i64 ((tk ts i).get 2))).setCell ⟨gb, 3, none⟩ (.int .i64 ((tk ts i).get 3))) = w4 at hs4 bT4 ⊢
 have HD := Lib.hid (below_to HB (below_to hD hs4))
 have o0 : w4.cell? ⟨gb, 0, none⟩ = some (.int .i64 ((tk ts i).get 0)) := bT4.cell rfl
 have o1 : w4.cell? ⟨gb, 1, none⟩ = some (.int .i64 ((tk ts i).get 1)) := bT4.cell rfl
 have o2 : w4.cell? ⟨gb, 2, none⟩ = some (.int .i64 ((tk ts i).get 2)) := bT4.cell rfl
 have o3 : w4.cell? ⟨gb, 3, none⟩ = some (.int .i64 ((tk ts i).get 3)) := bT4.cell rfl
 clear bT4 hs4 hD a1 p0 c0 c1 c2 c3 G1 hb
 go_upto_region 4 with fail
 go_cut [87] from 16 (fun s87 wx => s87 = .bool (BadA bs (tk ts i) y x || BadB bs (tk ts i) y x) ∧ Below w.heap.size w wx ∧ wx.cell? ⟨gb, 0, none⟩ = some (.int .i64 ((tk ts i).get 0)) ∧ wx.cell? ⟨gb, 1, none⟩ = some (.int .i64 ((tk ts i).get 1)) ∧ wx.cell? ⟨gb, 2, none⟩ = some (.int .i64 ((tk ts i).get 2)) ∧ wx.cell? ⟨gb, 3, none⟩ = some (.int .i64 ((tk ts i).get 3)))
 case first =>
  have HB := HD.out
  clear HD
  replace b0 := cell_to HB b0; replace b1 := cell_to HB b1
  have lbb := lt_to HB hbb
  have lgb : gb < w4.heap.size := World.block_lt_of_cell? w4 _ o0
  clear b2 b3 hbr2 hbr3 hp hrx hpr
  have hbl := HBL.out
  have hy := HY.out
  have hx := HX.out
  have hA : ¬ x = 0 ∨ (x = 0 ∧ rowLen bs 0 = 0) ∨ (x = 0 ∧ 0 < rowLen bs 0 ∧ ik (rowAt bs 0) y = (tk ts i).get 0) ∨ (x = 0 ∧ 0 < rowLen bs 0 ∧ ¬ ik (rowAt bs 0) y = (tk ts i).get 0) := by
   by_cases g1 : x = 0
   ·by_cases g2 : rowLen bs 0 = 0
    ·exact .inr (.inl ⟨g1, g2⟩)
    ·by_cases g3 : ik (rowAt bs 0) y = (tk ts i).get 0
     ·exact .inr (.inr (.inl ⟨g1, by omega, g3⟩))
     ·exact .inr (.inr (.inr ⟨g1, by omega, g3⟩))
   ·exact .inl g1
  have hB : ¬ y = 0 ∨ (y = 0 ∧ rowLen bs 1 = 0) ∨ (y = 0 ∧ 0 < rowLen bs 1 ∧ ik (rowAt bs 1) x = (tk ts i).get 1) ∨ (y = 0 ∧ 0 < rowLen bs 1 ∧ ¬ ik (rowAt bs 1) x = (tk ts i).get 1) := by
   by_cases g1 : y = 0
   ·by_cases g2 : rowLen bs 1 = 0
    ·exact .inr (.inl ⟨g1, g2⟩)
    ·by_cases g3 : ik (rowAt bs 1) x = (tk ts i).get 1
     ·exact .inr (.inr (.inl ⟨g1, by omega, g3⟩))
     ·exact .inr (.inr (.inr ⟨g1, by omega, g3⟩))
   ·exact .inl g1
  rcases hA with gA | ⟨gA0, eA⟩ | ⟨gA0, gA1, gA⟩ | ⟨gA0, gA1, gA⟩
  ·have vA0 : ((x : Int) == 0) = false := by simp; omega
   rcases hB with gB | ⟨gB0, eB⟩ | ⟨gB0, gB1, gB⟩ | ⟨gB0, gB1, gB⟩
   ·have vB0 : ((y : Int) == 0) = false := by simp; omega
    have HgA := Lib.hid gA; have HgB := Lib.hid gB; clear gA gB
    refine wp_region_gro (by kernel_rfl) (by kernel_rfl) ?_
    repeat (first | go_big_quiet_step (fail) | quiet_step (fail))
    refine wpQuiet_nil ?_
    intro w5 hB5
    have HB5 := Lib.hid (below_to HB hB5)
    go_wp2_with fail
    go_meet
    have gA := HgA.out; have gB := HgB.out
    exact ⟨congrArg Value.bool (by unfold BadA BadB; rw [decide_eq_false gA, decide_eq_false gB]; simp), HB5.out, cell_to hB5 o0, cell_to hB5 o1, cell_to hB5 o2, cell_to hB5 o3⟩
   ·have vB0 : ((y : Int) == 0) = true := by simp; omega
    have vB1 : decide (((rowLen bs 1 : Nat) : Int) > 0) = false := decide_eq_false (by omega)
    have vB8 : decide (0 < rowLen bs 1) = false := decide_eq_false (by omega)
    have vB9 : (rowLen bs 1 == 0) = true := by simp [eB]
    have vBa : decide (rowLen bs 1 = 0) = true := decide_eq_true (by omega)
    have vB6 : (((rowLen bs 1 : Nat) : Int) == 0) = true := by simp [eB]
    have HgA := Lib.hid gA; have HgB0 := Lib.hid gB0; have HeB := Lib.hid eB; clear gA gB0 eB
    refine wp_region_gro (by kernel_rfl) (by kernel_rfl) ?_
    repeat (first | go_big_quiet_step (fail) | quiet_step (fail))
    refine wpQuiet_nil ?_
    intro w5 hB5
    have HB5 := Lib.hid (below_to HB hB5)
    go_wp2_with fail
    go_meet
    have gA := HgA.out; have gB0 := HgB0.out; have eB := HeB.out
    exact ⟨congrArg Value.bool (by unfold BadA BadB; rw [decide_eq_false gA, decide_eq_true gB0, decide_eq_false (show ¬ 0 < rowLen bs 1 by omega)]; simp), HB5.out, cell_to hB5 o0, cell_to hB5 o1, cell_to hB5 o2, cell_to hB5 o3⟩
   ·have vB0 : ((y : Int) == 0) = true := by simp; omega
    have vB1 : decide (((rowLen bs 1 : Nat) : Int) > 0) = true := decide_eq_true (by omega)
    have vB8 : decide (0 < rowLen bs 1) = true := decide_eq_true (by omega)
    have vB9 : (rowLen bs 1 == 0) = false := by simp; omega
    have vBa : decide (rowLen bs 1 = 0) = false := decide_eq_false (by omega)
    have vB2 : (x : Int) < (rowLen bs 1 : Nat) := by have := hbl 1 (by omega); simp at this; omega
    have vB6 : (((rowLen bs 1 : Nat) : Int) == 0) = false := by simp; omega
    obtain ⟨abB, aoB, eB, -, xB⟩ := hbr1 x (by show x < rowLen bs 1; omega)
    subst eB
    replace xB := cell_to HB xB
    have lB : abB < w4.heap.size := World.block_lt_of_cell? w4 _ xB
    have vB3 : (ik (rowAt bs 1) x != (tk ts i).get 1) = false := by simp [gB]
    have vB4 : (ik (rowAt bs 1) x == (tk ts i).get 1) = true := by simp [gB]
    have HgA := Lib.hid gA; have HgB0 := Lib.hid gB0; have HgB1 := Lib.hid gB1; have HgB := Lib.hid gB; clear gA gB0 gB1 gB
    refine wp_region_gro (by kernel_rfl) (by kernel_rfl) ?_
    repeat (first | go_big_quiet_step (fail) | quiet_step (fail))
    refine wpQuiet_nil ?_
    intro w5 hB5
    have HB5 := Lib.hid (below_to HB hB5)
    go_wp2_with fail
    go_meet
    have gA := HgA.out; have gB0 := HgB0.out; have gB1 := HgB1.out; have gB := HgB.out
    exact ⟨congrArg Value.bool (by unfold BadA BadB; rw [decide_eq_false gA, decide_eq_true gB0, decide_eq_true gB1, decide_eq_true gB]; simp), HB5.out, cell_to hB5 o0, cell_to hB5 o1, cell_to hB5 o2, cell_to hB5 o3⟩
   ·have vB0 : ((y : Int) == 0) = true := by simp; omega
    have vB1 : decide (((rowLen bs 1 : Nat) : Int) > 0) = true := decide_eq_true (by omega)
    have vB8 : decide (0 < rowLen bs 1) = true := decide_eq_true (by omega)
    have vB9 : (rowLen bs 1 == 0) = false := by simp; omega
    have vBa : decide (rowLen bs 1 = 0) = false := decide_eq_false (by omega)
    have vB2 : (x : Int) < (rowLen bs 1 : Nat) := by have := hbl 1 (by omega); simp at this; omega
    have vB6 : (((rowLen bs 1 : Nat) : Int) == 0) = false := by simp; omega
    obtain ⟨abB, aoB, eB, -, xB⟩ := hbr1 x (by show x < rowLen bs 1; omega)
    subst eB
    replace xB := cell_to HB xB
    have lB : abB < w4.heap.size := World.block_lt_of_cell? w4 _ xB
    have vB3 : (ik (rowAt bs 1) x != (tk ts i).get 1) = true := by simp [gB]
    have vB4 : (ik (rowAt bs 1) x == (tk ts i).get 1) = false := by simp [gB]
    have HgA := Lib.hid gA; have HgB0 := Lib.hid gB0; have HgB1 := Lib.hid gB1; have HgB := Lib.hid gB; clear gA gB0 gB1 gB
    refine wp_region_gro (by kernel_rfl) (by kernel_rfl) ?_
    repeat (first | go_big_quiet_step (fail) | quiet_step (fail))
    refine wpQuiet_nil ?_
    intro w5 hB5
    have HB5 := Lib.hid (below_to HB hB5)
    go_wp2_with fail
    go_meet
    have gA := HgA.out; have gB0 := HgB0.out; have gB1 := HgB1.out; have gB := HgB.out
    exact ⟨congrArg Value.bool (by unfold BadA BadB; rw [decide_eq_false gA, decide_eq_true gB0, decide_eq_true gB1, decide_eq_false gB]; simp), HB5.out, cell_to hB5 o0, cell_to hB5 o1, cell_to hB5 o2, cell_to hB5 o3⟩
  ·have vA0 : ((x : Int) == 0) = true := by simp; omega
   have vA1 : decide (((rowLen bs 0 : Nat) : Int) > 0) = false := decide_eq_false (by omega)
   have vA8 : decide (0 < rowLen bs 0) = false := decide_eq_false (by omega)
   have vA9 : (rowLen bs 0 == 0) = true := by simp [eA]
   have vAa : decide (rowLen bs 0 = 0) = true := decide_eq_true (by omega)
   have vA6 : (((rowLen bs 0 : Nat) : Int) == 0) = true := by simp [eA]
   rcases hB with gB | ⟨gB0, eB⟩ | ⟨gB0, gB1, gB⟩ | ⟨gB0, gB1, gB⟩
   ·have vB0 : ((y : Int) == 0) = false := by simp; omega
    have HgA0 := Lib.hid gA0; have HeA := Lib.hid eA; have HgB := Lib.hid gB; clear gA0 eA gB
    refine wp_region_gro (by kernel_rfl) (by kernel_rfl) ?_
    repeat (first | go_big_quiet_step (fail) | quiet_step (fail))
    refine wpQuiet_nil ?_
    intro w5 hB5
    have HB5 := Lib.hid (below_to HB hB5)
    go_wp2_with fail
    go_meet
    have gA0 := HgA0.out; have eA := HeA.out; have gB := HgB.out
    exact ⟨congrArg Value.bool (by unfold BadA BadB; rw [decide_eq_true gA0, decide_eq_false (show ¬ 0 < rowLen bs 0 by omega), decide_eq_false gB]; simp), HB5.out, cell_to hB5 o0, cell_to hB5 o1, cell_to hB5 o2, cell_to hB5 o3⟩
   ·have vB0 : ((y : Int) == 0) = true := by simp; omega
    have vB1 : decide (((rowLen bs 1 : Nat) : Int) > 0) = false := decide_eq_false (by omega)
    have vB8 : decide (0 < rowLen bs 1) = false := decide_eq_false (by omega)
    have vB9 : (rowLen bs 1 == 0) = true := by simp [eB]
    have vBa : decide (rowLen bs 1 = 0) = true := decide_eq_true (by omega)
    have vB6 : (((rowLen bs 1 : Nat) : Int) == 0) = true := by simp [eB]
    have HgA0 := Lib.hid gA0; have HeA := Lib.hid eA; have HgB0 := Lib.hid gB0; have HeB := Lib.hid eB; clear gA0 eA gB0 eB
    refine wp_region_gro (by kernel_rfl) (by kernel_rfl) ?_
    repeat (first | go_big_quiet_step (fail) | quiet_step (fail))
    refine wpQuiet_nil ?_
    intro w5 hB5
    have HB5 := Lib.hid (below_to HB hB5)
    go_wp2_with fail
    go_meet
    have gA0 := HgA0.out; have eA := HeA.out; have gB0 := HgB0.out; have eB := HeB.out
    exact ⟨congrArg Value.bool (by unfold BadA BadB; rw [decide_eq_true gA0, decide_eq_false (show ¬ 0 < rowLen bs 0 by omega), decide_eq_true gB0, decide_eq_false (show ¬ 0 < rowLen bs 1 by omega)]; simp), HB5.out, cell_to hB5 o0, cell_to hB5 o1, cell_to hB5 o2, cell_to hB5 o3⟩
   ·have vB0 : ((y : Int) == 0) = true := by simp; omega
    have vB1 : decide (((rowLen bs 1 : Nat) : Int) > 0) = true := decide_eq_true (by omega)
    have vB8 : decide (0 < rowLen bs 1) = true := decide_eq_true (by omega)
    have vB9 : (rowLen bs 1 == 0) = false := by simp; omega
    have vBa : decide (rowLen bs 1 = 0) = false := decide_eq_false (by omega)
    have vB2 : (x : Int) < (rowLen bs 1 : Nat) := by have := hbl 1 (by omega); simp at this; omega
    have vB6 : (((rowLen bs 1 : Nat) : Int) == 0) = false := by simp; omega
    obtain ⟨abB, aoB, eB, -, xB⟩ := hbr1 x (by show x < rowLen bs 1; omega)
    subst eB
    replace xB := cell_to HB xB
    have lB : abB < w4.heap.size := World.block_lt_of_cell? w4 _ xB
    have vB3 : (ik (rowAt bs 1) x != (tk ts i).get 1) = false := by simp [gB]
    have vB4 : (ik (rowAt bs 1) x == (tk ts i).get 1) = true := by simp [gB]
    have HgA0 := Lib.hid gA0; have HeA := Lib.hid eA; have HgB0 := Lib.hid gB0; have HgB1 := Lib.hid gB1; have HgB := Lib.hid gB; clear gA0 eA gB0 gB1 gB
    refine wp_region_gro (by kernel_rfl) (by kernel_rfl) ?_
    repeat (first | go_big_quiet_step (fail) | quiet_step (fail))
    refine wpQuiet_nil ?_
    intro w5 hB5
    have HB5 := Lib.hid (below_to HB hB5)
    go_wp2_with fail
    go_meet
    have gA0 := HgA0.out; have eA := HeA.out; have gB0 := HgB0.out; have gB1 := HgB1.out; have gB := HgB.out
    exact ⟨congrArg Value.bool (by unfold BadA BadB; rw [decide_eq_true gA0, decide_eq_false (show ¬ 0 < rowLen bs 0 by omega), decide_eq_true gB0, decide_eq_true gB1, decide_eq_true gB]; simp), HB5.out, cell_to hB5 o0, cell_to hB5 o1, cell_to hB5 o2, cell_to hB5 o3⟩
   ·have vB0 : ((y : Int) == 0) = true := by simp; omega
    have vB1 : decide (((rowLen bs 1 : Nat) : Int) > 0) = true := decide_eq_true (by omega)
    have vB8 : decide (0 < rowLen bs 1) = true := decide_eq_true (by omega)
    have vB9 : (rowLen bs 1 == 0) = false := by simp; omega
    have vBa : decide (rowLen bs 1 = 0) = false := decide_eq_false (by omega)
    have vB2 : (x : Int) < (rowLen bs 1 : Nat) := by have := hbl 1 (by omega); simp at this; omega
    have vB6 : (((rowLen bs 1 : Nat) : Int) == 0) = false := by simp; omega
    obtain ⟨abB, aoB, eB, -, xB⟩ := hbr1 x (by show x < rowLen bs 1; omega)
    subst eB
    replace xB := cell_to HB xB
    have lB : abB < w4.heap.size := World.block_lt_of_cell? w4 _ xB
    have vB3 : (ik (rowAt bs 1) x != (tk ts i).get 1) = true := by simp [gB]
    have vB4 : (ik (rowAt bs 1) x == (tk ts i).get 1) = false := by simp [gB]
    have HgA0 := Lib.hid gA0; have HeA := Lib.hid eA; have HgB0 := Lib.hid gB0; have HgB1 := Lib.hid gB1; have HgB := Lib.hid gB; clear gA0 eA gB0 gB1 gB
    refine wp_region_gro (by kernel_rfl) (by kernel_rfl) ?_
    repeat (first | go_big_quiet_step (fail) | quiet_step (fail))
    refine wpQuiet_nil ?_
    intro w5 hB5
    have HB5 := Lib.hid (below_to HB hB5)
    go_wp2_with fail
    go_meet
    have gA0 := HgA0.out; have eA := HeA.out; have gB0 := HgB0.out; have gB1 := HgB1.out; have gB := HgB.out
    exact ⟨congrArg Value.bool (by unfold BadA BadB; rw [decide_eq_true gA0, decide_eq_false (show ¬ 0 < rowLen bs 0 by omega), decide_eq_true gB0, decide_eq_true gB1, decide_eq_false gB]; simp), HB5.out, cell_to hB5 o0, cell_to hB5 o1, cell_to hB5 o2, cell_to hB5 o3⟩
  ·have vA0 : ((x : Int) == 0) = true := by simp; omega
   have vA1 : decide (((rowLen bs 0 : Nat) : Int) > 0) = true := decide_eq_true (by omega)
   have vA8 : decide (0 < rowLen bs 0) = true := decide_eq_true (by omega)
   have vA9 : (rowLen bs 0 == 0) = false := by simp; omega
   have vAa : decide (rowLen bs 0 = 0) = false := decide_eq_false (by omega)
   have vA2 : (y : Int) < (rowLen bs 0 : Nat) := by have := hbl 0 (by omega); simp at this; omega
   have vA6 : (((rowLen bs 0 : Nat) : Int) == 0) = false := by simp; omega
   obtain ⟨abA, aoA, eA, -, xA⟩ := hbr0 y (by show y < rowLen bs 0; omega)
   subst eA
   replace xA := cell_to HB xA
   have lA : abA < w4.heap.size := World.block_lt_of_cell? w4 _ xA
   have vA3 : (ik (rowAt bs 0) y != (tk ts i).get 0) = false := by simp [gA]
   have vA4 : (ik (rowAt bs 0) y == (tk ts i).get 0) = true := by simp [gA]
   rcases hB with gB | ⟨gB0, eB⟩ | ⟨gB0, gB1, gB⟩ | ⟨gB0, gB1, gB⟩
   ·have vB0 : ((y : Int) == 0) = false := by simp; omega
    have HgA0 := Lib.hid gA0; have HgA1 := Lib.hid gA1; have HgA := Lib.hid gA; have HgB := Lib.hid gB; clear gA0 gA1 gA gB
    refine wp_region_gro (by kernel_rfl) (by kernel_rfl) ?_
    repeat (first | go_big_quiet_step (fail) | quiet_step (fail))
    refine wpQuiet_nil ?_
    intro w5 hB5
    have HB5 := Lib.hid (below_to HB hB5)
    go_wp2_with fail
    go_meet
    have gA0 := HgA0.out; have gA1 := HgA1.out; have gA := HgA.out; have gB := HgB.out
    exact ⟨congrArg Value.bool (by unfold BadA BadB; rw [decide_eq_true gA0, decide_eq_true gA1, decide_eq_true gA, decide_eq_false gB]; simp), HB5.out, cell_to hB5 o0, cell_to hB5 o1, cell_to hB5 o2, cell_to hB5 o3⟩
   ·have vB0 : ((y : Int) == 0) = true := by simp; omega
    have vB1 : decide (((rowLen bs 1 : Nat) : Int) > 0) = false := decide_eq_false (by omega)
    have vB8 : decide (0 < rowLen bs 1) = false := decide_eq_false (by omega)
    have vB9 : (rowLen bs 1 == 0) = true := by simp [eB]
    have vBa : decide (rowLen bs 1 = 0) = true := decide_eq_true (by omega)
    have vB6 : (((rowLen bs 1 : Nat) : Int) == 0) = true := by simp [eB]
    have HgA0 := Lib.hid gA0; have HgA1 := Lib.hid gA1; have HgA := Lib.hid gA; have HgB0 := Lib.hid gB0; have HeB := Lib.hid eB; clear gA0 gA1 gA gB0 eB
    refine wp_region_gro (by kernel_rfl) (by kernel_rfl) ?_
    repeat (first | go_big_quiet_step (fail) | quiet_step (fail))
    refine wpQuiet_nil ?_
    intro w5 hB5
    have HB5 := Lib.hid (below_to HB hB5)
    go_wp2_with fail
    go_meet
    have gA0 := HgA0.out; have gA1 := HgA1.out; have gA := HgA.out; have gB0 := HgB0.out; have eB := HeB.out
    exact ⟨congrArg Value.bool (by unfold BadA BadB; rw [decide_eq_true gA0, decide_eq_true gA1, decide_eq_true gA, decide_eq_true gB0, decide_eq_false (show ¬ 0 < rowLen bs 1 by omega)]; simp), HB5.out, cell_to hB5 o0, cell_to hB5 o1, cell_to hB5 o2, cell_to hB5 o3⟩
   ·have vB0 : ((y : Int) == 0) = true := by simp; omega
    have vB1 : decide (((rowLen bs 1 : Nat) : Int) > 0) = true := decide_eq_true (by omega)
    have vB8 : decide (0 < rowLen bs 1) = true := decide_eq_true (by omega)
    have vB9 : (rowLen bs 1 == 0) = false := by simp; omega
    have vBa : decide (rowLen bs 1 = 0) = false := decide_eq_false (by omega)
    have vB2 : (x : Int) < (rowLen bs 1 : Nat) := by have := hbl 1 (by omega); simp at this; omega
    have vB6 : (((rowLen bs 1 : Nat) : Int) == 0) = false := by simp; omega
    obtain ⟨abB, aoB, eB, -, xB⟩ := hbr1 x (by show x < rowLen bs 1; omega)
    subst eB
    replace xB := cell_to HB xB
    have lB : abB < w4.heap.size := World.block_lt_of_cell? w4 _ xB
    have vB3 : (ik (rowAt bs 1) x != (tk ts i).get 1) = false := by simp [gB]
    have vB4 : (ik (rowAt bs 1) x == (tk ts i).get 1) = true := by simp [gB]
    have HgA0 := Lib.hid gA0; have HgA1 := Lib.hid gA1; have HgA := Lib.hid gA; have HgB0 := Lib.hid gB0; have HgB1 := Lib.hid gB1; have HgB := Lib.hid gB; clear gA0 gA1 gA gB0 gB1 gB
    refine wp_region_gro (by kernel_rfl) (by kernel_rfl) ?_
    repeat (first | go_big_quiet_step (fail) | quiet_step (fail))
    refine wpQuiet_nil ?_
    intro w5 hB5
    have HB5 := Lib.hid (below_to HB hB5)
    go_wp2_with fail
    go_meet
    have gA0 := HgA0.out; have gA1 := HgA1.out; have gA := HgA.out; have gB0 := HgB0.out; have gB1 := HgB1.out; have gB := HgB.out
    exact ⟨congrArg Value.bool (by unfold BadA BadB; rw [decide_eq_true gA0, decide_eq_true gA1, decide_eq_true gA, decide_eq_true gB0, decide_eq_true gB1, decide_eq_true gB]; simp), HB5.out, cell_to hB5 o0, cell_to hB5 o1, cell_to hB5 o2, cell_to hB5 o3⟩
   ·have vB0 : ((y : Int) == 0) = true := by simp; omega
    have vB1 : decide (((rowLen bs 1 : Nat) : Int) > 0) = true := decide_eq_true (by omega)
    have vB8 : decide (0 < rowLen bs 1) = true := decide_eq_true (by omega)
    have vB9 : (rowLen bs 1 == 0) = false := by simp; omega
    have vBa : decide (rowLen bs 1 = 0) = false := decide_eq_false (by omega)
    have vB2 : (x : Int) < (rowLen bs 1 : Nat) := by have := hbl 1 (by omega); simp at this; omega
    have vB6 : (((rowLen bs 1 : Nat) : Int) == 0) = false := by simp; omega
    obtain ⟨abB, aoB, eB, -, xB⟩ := hbr1 x (by show x < rowLen bs 1; omega)
    subst eB
    replace xB := cell_to HB xB
    have lB : abB < w4.heap.size := World.block_lt_of_cell? w4 _ xB
    have vB3 : (ik (rowAt bs 1) x != (tk ts i).get 1) = true := by simp [gB]
    have vB4 : (ik (rowAt bs 1) x == (tk ts i).get 1) = false := by simp [gB]
    have HgA0 := Lib.hid gA0; have HgA1 := Lib.hid gA1; have HgA := Lib.hid gA; have HgB0 := Lib.hid gB0; have HgB1 := Lib.hid gB1; have HgB := Lib.hid gB; clear gA0 gA1 gA gB0 gB1 gB
    refine wp_region_gro (by kernel_rfl) (by kernel_rfl) ?_
    repeat (first | go_big_quiet_step (fail) | quiet_step (fail))
    refine wpQuiet_nil ?_
    intro w5 hB5
    have HB5 := Lib.hid (below_to HB hB5)
    go_wp2_with fail
    go_meet
    have gA0 := HgA0.out; have gA1 := HgA1.out; have gA := HgA.out; have gB0 := HgB0.out; have gB1 := HgB1.out; have gB := HgB.out
    exact ⟨congrArg Value.bool (by unfold BadA BadB; rw [decide_eq_true gA0, decide_eq_true gA1, decide_eq_true gA, decide_eq_true gB0, decide_eq_true gB1, decide_eq_false gB]; simp), HB5.out, cell_to hB5 o0, cell_to hB5 o1, cell_to hB5 o2, cell_to hB5 o3⟩
  ·have vA0 : ((x : Int) == 0) = true := by simp; omega
   have vA1 : decide (((rowLen bs 0 : Nat) : Int) > 0) = true := decide_eq_true (by omega)
   have vA8 : decide (0 < rowLen bs 0) = true := decide_eq_true (by omega)
   have vA9 : (rowLen bs 0 == 0) = false := by simp; omega
   have vAa : decide (rowLen bs 0 = 0) = false := decide_eq_false (by omega)
   have vA2 : (y : Int) < (rowLen bs 0 : Nat) := by have := hbl 0 (by omega); simp at this; omega
   have vA6 : (((rowLen bs 0 : Nat) : Int) == 0) = false := by simp; omega
   obtain ⟨abA, aoA, eA, -, xA⟩ := hbr0 y (by show y < rowLen bs 0; omega)
   subst eA
   replace xA := cell_to HB xA
   have lA : abA < w4.heap.size := World.block_lt_of_cell? w4 _ xA
   have vA3 : (ik (rowAt bs 0) y != (tk ts i).get 0) = true := by simp [gA]
   have vA4 : (ik (rowAt bs 0) y == (tk ts i).get 0) = false := by simp [gA]
   have HgA0 := Lib.hid gA0; have HgA1 := Lib.hid gA1; have HgA := Lib.hid gA; clear gA0 gA1 gA
   refine wp_region_gro (by kernel_rfl) (by kernel_rfl) ?_
   repeat (first | go_big_quiet_step (fail) | quiet_step (fail))
   refine wpQuiet_nil ?_
   intro w5 hB5
   have HB5 := Lib.hid (below_to HB hB5)
   go_wp2_with fail
   go_meet
   have gA0 := HgA0.out; have gA1 := HgA1.out; have gA := HgA.out
   exact ⟨congrArg Value.bool (by unfold BadA BadB; rw [decide_eq_true gA0, decide_eq_true gA1, decide_eq_false gA]; simp), HB5.out, cell_to hB5 o0, cell_to hB5 o1, cell_to hB5 o2, cell_to hB5 o3⟩
 case rest =>
 obtain ⟨rfl, HB, o0, o1, o2, o3⟩ := hcut
 clear HD
 obtain ⟨bp, hQ⟩ : ∃ b_, b_ = (BadA bs (tk ts i) y x || BadB bs (tk ts i) y x) := ⟨_, rfl⟩
 rw [← hQ]
 have HQ := Lib.hid hQ; clear hQ
 rcases bp with _ | _
 rotate_left
 ·go_wp2_with fail
  go_ret
  exact ⟨congrArg (fun b_ => Ending.returned (.bool b_)) (by have := HP.out; have h2 := HQ.out; simp [fitB, ← this, ← h2]), HB⟩
 go_upto_region 6 with fail
 obtain ⟨w4, rfl⟩ : ∃ w_, w_ = wc := ⟨_, rfl⟩
 replace b2 := cell_to HB b2; replace b3 := cell_to HB b3
 have lbb := lt_to HB hbb
 have lgb : gb < w4.heap.size := World.block_lt_of_cell? w4 _ o0
 clear b0 b1 hbr0 hbr1 hp hrx hpr
 have hbl := HBL.out
 have hy := HY.out
 have hx := HX.out
 have hM1 := HM1.out
 have r1 : rowLen plan 0 ≤ 35184372088832 := by omega
 have r2 : m1 ≤ 35184372088832 := by omega
 have hA : ¬ x + 1 = rowLen plan 0 ∨ (x + 1 = rowLen plan 0 ∧ rowLen bs 2 = 0) ∨ (x + 1 = rowLen plan 0 ∧ 0 < rowLen bs 2 ∧ ik (rowAt bs 2) y = (tk ts i).get 2) ∨ (x + 1 = rowLen plan 0 ∧ 0 < rowLen bs 2 ∧ ¬ ik (rowAt bs 2) y = (tk ts i).get 2) := by
  by_cases g1 : x + 1 = rowLen plan 0
  ·by_cases g2 : rowLen bs 2 = 0
   ·exact .inr (.inl ⟨g1, g2⟩)
   ·by_cases g3 : ik (rowAt bs 2) y = (tk ts i).get 2
    ·exact .inr (.inr (.inl ⟨g1, by omega, g3⟩))
    ·exact .inr (.inr (.inr ⟨g1, by omega, g3⟩))
  ·exact .inl g1
 have hB : ¬ y + 1 = plan.length ∨ (y + 1 = plan.length ∧ rowLen bs 3 = 0) ∨ (y + 1 = plan.length ∧ 0 < rowLen bs 3 ∧ ik (rowAt bs 3) x = (tk ts i).get 3) ∨ (y + 1 = plan.length ∧ 0 < rowLen bs 3 ∧ ¬ ik (rowAt bs 3) x = (tk ts i).get 3) := by
  by_cases g1 : y + 1 = plan.length
  ·by_cases g2 : rowLen bs 3 = 0
   ·exact .inr (.inl ⟨g1, g2⟩)
   ·by_cases g3 : ik (rowAt bs 3) x = (tk ts i).get 3
    ·exact .inr (.inr (.inl ⟨g1, by omega, g3⟩))
    ·exact .inr (.inr (.inr ⟨g1, by omega, g3⟩))
  ·exact .inl g1
 rcases hA with gA | ⟨gA0, eA⟩ | ⟨gA0, gA1, gA⟩ | ⟨gA0, gA1, gA⟩
 ·have vA0 : ((x : Int) != ((rowLen plan 0 : Nat) : Int) - 1) = true := by simp; omega
  have vA5 : ((x : Int) == ((rowLen plan 0 : Nat) : Int) - 1) = false := by simp; omega
  rcases hB with gB | ⟨gB0, eB⟩ | ⟨gB0, gB1, gB⟩ | ⟨gB0, gB1, gB⟩
  ·have vB0 : ((y : Int) != ((m1 : Nat) : Int) - 1) = true := by simp; omega
   have HgA := Lib.hid gA; have HgB := Lib.hid gB; clear gA gB
   clear hM1
   refine wp_region_gro (by kernel_rfl) (by kernel_rfl) ?_
   repeat (first | go_big_quiet_step (fail) | quiet_step (fail))
   refine wpQuiet_nil ?_
   intro w5 hB5
   have HB5 := Lib.hid (below_to HB hB5)
   go_wp2_with fail
   go_ret
   have gA := HgA.out; have gB := HgB.out
   have h1 := HP.out
   have h2 := HQ.out
   exact ⟨congrArg (fun b_ => Ending.returned (.bool b_)) (by unfold fitB; rw [← h1, ← h2]; unfold BadC BadD; rw [decide_eq_false gA, decide_eq_false gB]; simp), HB5.out⟩
  ·have vB0 : ((y : Int) != ((m1 : Nat) : Int) - 1) = false := by simp; omega
   have vB1 : decide (((rowLen bs 3 : Nat) : Int) > 0) = false := decide_eq_false (by omega)
   have vB8 : decide (0 < rowLen bs 3) = false := decide_eq_false (by omega)
   have vB9 : (rowLen bs 3 == 0) = true := by simp [eB]
   have vBa : decide (rowLen bs 3 = 0) = true := decide_eq_true (by omega)
   have vB6 : (((rowLen bs 3 : Nat) : Int) == 0) = true := by simp [eB]
   have HgA := Lib.hid gA; have HgB0 := Lib.hid gB0; have HeB := Lib.hid eB; clear gA gB0 eB
   clear hM1
   refine wp_region_gro (by kernel_rfl) (by kernel_rfl) ?_
   repeat (first | go_big_quiet_step (fail) | quiet_step (fail))
   refine wpQuiet_nil ?_
   intro w5 hB5
   have HB5 := Lib.hid (below_to HB hB5)
   go_wp2_with fail
   go_ret
   have gA := HgA.out; have gB0 := HgB0.out; have eB := HeB.out
   have h1 := HP.out
   have h2 := HQ.out
   exact ⟨congrArg (fun b_ => Ending.returned (.bool b_)) (by unfold fitB; rw [← h1, ← h2]; unfold BadC BadD; rw [decide_eq_false gA, decide_eq_true gB0, decide_eq_false (show ¬ 0 < rowLen bs 3 by omega)]; simp), HB5.out⟩
  ·have vB0 : ((y : Int) != ((m1 : Nat) : Int) - 1) = false := by simp; omega
   have vB1 : decide (((rowLen bs 3 : Nat) : Int) > 0) = true := decide_eq_true (by omega)
   have vB8 : decide (0 < rowLen bs 3) = true := decide_eq_true (by omega)
   have vB9 : (rowLen bs 3 == 0) = false := by simp; omega
   have vBa : decide (rowLen bs 3 = 0) = false := decide_eq_false (by omega)
   have vB2 : (x : Int) < (rowLen bs 3 : Nat) := by have := hbl 3 (by omega); simp at this; omega
   have vB6 : (((rowLen bs 3 : Nat) : Int) == 0) = false := by simp; omega
   obtain ⟨abB, aoB, eB, -, xB⟩ := hbr3 x (by show x < rowLen bs 3; omega)
   subst eB
   replace xB := cell_to HB xB
   have lB : abB < w4.heap.size := World.block_lt_of_cell? w4 _ xB
   have vB3 : (ik (rowAt bs 3) x != (tk ts i).get 3) = false := by simp [gB]
   have vB4 : (ik (rowAt bs 3) x == (tk ts i).get 3) = true := by simp [gB]
   have HgA := Lib.hid gA; have HgB0 := Lib.hid gB0; have HgB1 := Lib.hid gB1; have HgB := Lib.hid gB; clear gA gB0 gB1 gB
   clear hM1
   refine wp_region_gro (by kernel_rfl) (by kernel_rfl) ?_
   repeat (first | go_big_quiet_step (fail) | quiet_step (fail))
   refine wpQuiet_nil ?_
   intro w5 hB5
   have HB5 := Lib.hid (below_to HB hB5)
   go_wp2_with fail
   go_ret
   have gA := HgA.out; have gB0 := HgB0.out; have gB1 := HgB1.out; have gB := HgB.out
   have h1 := HP.out
   have h2 := HQ.out
   exact ⟨congrArg (fun b_ => Ending.returned (.bool b_)) (by unfold fitB; rw [← h1, ← h2]; unfold BadC BadD; rw [decide_eq_false gA, decide_eq_true gB0, decide_eq_true gB1, decide_eq_true gB]; simp), HB5.out⟩
  ·have vB0 : ((y : Int) != ((m1 : Nat) : Int) - 1) = false := by simp; omega
   have vB1 : decide (((rowLen bs 3 : Nat) : Int) > 0) = true := decide_eq_true (by omega)
   have vB8 : decide (0 < rowLen bs 3) = true := decide_eq_true (by omega)
   have vB9 : (rowLen bs 3 == 0) = false := by simp; omega
   have vBa : decide (rowLen bs 3 = 0) = false := decide_eq_false (by omega)
   have vB2 : (x : Int) < (rowLen bs 3 : Nat) := by have := hbl 3 (by omega); simp at this; omega
   have vB6 : (((rowLen bs 3 : Nat) : Int) == 0) = false := by simp; omega
   obtain ⟨abB, aoB, eB, -, xB⟩ := hbr3 x (by show x < rowLen bs 3; omega)
   subst eB
   replace xB := cell_to HB xB
   have lB : abB < w4.heap.size := World.block_lt_of_cell? w4 _ xB
   have vB3 : (ik (rowAt bs 3) x != (tk ts i).get 3) = true := by simp [gB]
   have vB4 : (ik (rowAt bs 3) x == (tk ts i).get 3) = false := by simp [gB]
   have HgA := Lib.hid gA; have HgB0 := Lib.hid gB0; have HgB1 := Lib.hid gB1; have HgB := Lib.hid gB; clear gA gB0 gB1 gB
   clear hM1
   refine wp_region_gro (by kernel_rfl) (by kernel_rfl) ?_
   repeat (first | go_big_quiet_step (fail) | quiet_step (fail))
   refine wpQuiet_nil ?_
   intro w5 hB5
   have HB5 := Lib.hid (below_to HB hB5)
   go_wp2_with fail
   go_ret
   have gA := HgA.out; have gB0 := HgB0.out; have gB1 := HgB1.out; have gB := HgB.out
   have h1 := HP.out
   have h2 := HQ.out
   exact ⟨congrArg (fun b_ => Ending.returned (.bool b_)) (by unfold fitB; rw [← h1, ← h2]; unfold BadC BadD; rw [decide_eq_false gA, decide_eq_true gB0, decide_eq_true gB1, decide_eq_false gB]; simp), HB5.out⟩
 ·have vA0 : ((x : Int) != ((rowLen plan 0 : Nat) : Int) - 1) = false := by simp; omega
  have vA5 : ((x : Int) == ((rowLen plan 0 : Nat) : Int) - 1) = true := by simp; omega
  have vA1 : decide (((rowLen bs 2 : Nat) : Int) > 0) = false := decide_eq_false (by omega)
  have vA8 : decide (0 < rowLen bs 2) = false := decide_eq_false (by omega)
  have vA9 : (rowLen bs 2 == 0) = true := by simp [eA]
  have vAa : decide (rowLen bs 2 = 0) = true := decide_eq_true (by omega)
  have vA6 : (((rowLen bs 2 : Nat) : Int) == 0) = true := by simp [eA]
  rcases hB with gB | ⟨gB0, eB⟩ | ⟨gB0, gB1, gB⟩ | ⟨gB0, gB1, gB⟩
  ·have vB0 : ((y : Int) != ((m1 : Nat) : Int) - 1) = true := by simp; omega
   have HgA0 := Lib.hid gA0; have HeA := Lib.hid eA; have HgB := Lib.hid gB; clear gA0 eA gB
   clear hM1
   refine wp_region_gro (by kernel_rfl) (by kernel_rfl) ?_
   repeat (first | go_big_quiet_step (fail) | quiet_step (fail))
   refine wpQuiet_nil ?_
   intro w5 hB5
   have HB5 := Lib.hid (below_to HB hB5)
   go_wp2_with fail
   go_ret
   have gA0 := HgA0.out; have eA := HeA.out; have gB := HgB.out
   have h1 := HP.out
   have h2 := HQ.out
   exact ⟨congrArg (fun b_ => Ending.returned (.bool b_)) (by unfold fitB; rw [← h1, ← h2]; unfold BadC BadD; rw [decide_eq_true gA0, decide_eq_false (show ¬ 0 < rowLen bs 2 by omega), decide_eq_false gB]; simp), HB5.out⟩
  ·have vB0 : ((y : Int) != ((m1 : Nat) : Int) - 1) = false := by simp; omega
   have vB1 : decide (((rowLen bs 3 : Nat) : Int) > 0) = false := decide_eq_false (by omega)
   have vB8 : decide (0 < rowLen bs 3) = false := decide_eq_false (by omega)
   have vB9 : (rowLen bs 3 == 0) = true := by simp [eB]
   have vBa : decide (rowLen bs 3 = 0) = true := decide_eq_true (by omega)
   have vB6 : (((rowLen bs 3 : Nat) : Int) == 0) = true := by simp [eB]
   have HgA0 := Lib.hid gA0; have HeA := Lib.hid eA; have HgB0 := Lib.hid gB0; have HeB := Lib.hid eB; clear gA0 eA gB0 eB
   clear hM1
   refine wp_region_gro (by kernel_rfl) (by kernel_rfl) ?_
   repeat (first | go_big_quiet_step (fail) | quiet_step (fail))
   refine wpQuiet_nil ?_
   intro w5 hB5
   have HB5 := Lib.hid (below_to HB hB5)
   go_wp2_with fail
   go_ret
   have gA0 := HgA0.out; have eA := HeA.out; have gB0 := HgB0.out; have eB := HeB.out
   have h1 := HP.out
   have h2 := HQ.out
   exact ⟨congrArg (fun b_ => Ending.returned (.bool b_)) (by unfold fitB; rw [← h1, ← h2]; unfold BadC BadD; rw [decide_eq_true gA0, decide_eq_false (show ¬ 0 < rowLen bs 2 by omega), decide_eq_true gB0, decide_eq_false (show ¬ 0 < rowLen bs 3 by omega)]; simp), HB5.out⟩
  ·have vB0 : ((y : Int) != ((m1 : Nat) : Int) - 1) = false := by simp; omega
   have vB1 : decide (((rowLen bs 3 : Nat) : Int) > 0) = true := decide_eq_true (by omega)
   have vB8 : decide (0 < rowLen bs 3) = true := decide_eq_true (by omega)
   have vB9 : (rowLen bs 3 == 0) = false := by simp; omega
   have vBa : decide (rowLen bs 3 = 0) = false := decide_eq_false (by omega)
   have vB2 : (x : Int) < (rowLen bs 3 : Nat) := by have := hbl 3 (by omega); simp at this; omega
   have vB6 : (((rowLen bs 3 : Nat) : Int) == 0) = false := by simp; omega
   obtain ⟨abB, aoB, eB, -, xB⟩ := hbr3 x (by show x < rowLen bs 3; omega)
   subst eB
   replace xB := cell_to HB xB
   have lB : abB < w4.heap.size := World.block_lt_of_cell? w4 _ xB
   have vB3 : (ik (rowAt bs 3) x != (tk ts i).get 3) = false := by simp [gB]
   have vB4 : (ik (rowAt bs 3) x == (tk ts i).get 3) = true := by simp [gB]
   have HgA0 := Lib.hid gA0; have HeA := Lib.hid eA; have HgB0 := Lib.hid gB0; have HgB1 := Lib.hid gB1; have HgB := Lib.hid gB; clear gA0 eA gB0 gB1 gB
   clear hM1
   refine wp_region_gro (by kernel_rfl) (by kernel_rfl) ?_
   repeat (first | go_big_quiet_step (fail) | quiet_step (fail))
   refine wpQuiet_nil ?_
   intro w5 hB5
   have HB5 := Lib.hid (below_to HB hB5)
   go_wp2_with fail
   go_ret
   have gA0 := HgA0.out; have eA := HeA.out; have gB0 := HgB0.out; have gB1 := HgB1.out; have gB := HgB.out
   have h1 := HP.out
   have h2 := HQ.out
   exact ⟨congrArg (fun b_ => Ending.returned (.bool b_)) (by unfold fitB; rw [← h1, ← h2]; unfold BadC BadD; rw [decide_eq_true gA0, decide_eq_false (show ¬ 0 < rowLen bs 2 by omega), decide_eq_true gB0, decide_eq_true gB1, decide_eq_true gB]; simp), HB5.out⟩
  ·have vB0 : ((y : Int) != ((m1 : Nat) : Int) - 1) = false := by simp; omega
   have vB1 : decide (((rowLen bs 3 : Nat) : Int) > 0) = true := decide_eq_true (by omega)
   have vB8 : decide (0 < rowLen bs 3) = true := decide_eq_true (by omega)
   have vB9 : (rowLen bs 3 == 0) = false := by simp; omega
   have vBa : decide (rowLen bs 3 = 0) = false := decide_eq_false (by omega)
   have vB2 : (x : Int) < (rowLen bs 3 : Nat) := by have := hbl 3 (by omega); simp at this; omega
   have vB6 : (((rowLen bs 3 : Nat) : Int) == 0) = false := by simp; omega
   obtain ⟨abB, aoB, eB, -, xB⟩ := hbr3 x (by show x < rowLen bs 3; omega)
   subst eB
   replace xB := cell_to HB xB
   have lB : abB < w4.heap.size := World.block_lt_of_cell? w4 _ xB
   have vB3 : (ik (rowAt bs 3) x != (tk ts i).get 3) = true := by simp [gB]
   have vB4 : (ik (rowAt bs 3) x == (tk ts i).get 3) = false := by simp [gB]
   have HgA0 := Lib.hid gA0; have HeA := Lib.hid eA; have HgB0 := Lib.hid gB0; have HgB1 := Lib.hid gB1; have HgB := Lib.hid gB; clear gA0 eA gB0 gB1 gB
   clear hM1
   refine wp_region_gro (by kernel_rfl) (by kernel_rfl) ?_
   repeat (first | go_big_quiet_step (fail) | quiet_step (fail))
   refine wpQuiet_nil ?_
   intro w5 hB5
   have HB5 := Lib.hid (below_to HB hB5)
   go_wp2_with fail
   go_ret
   have gA0 := HgA0.out; have eA := HeA.out; have gB0 := HgB0.out; have gB1 := HgB1.out; have gB := HgB.out
   have h1 := HP.out
   have h2 := HQ.out
   exact ⟨congrArg (fun b_ => Ending.returned (.bool b_)) (by unfold fitB; rw [← h1, ← h2]; unfold BadC BadD; rw [decide_eq_true gA0, decide_eq_false (show ¬ 0 < rowLen bs 2 by omega), decide_eq_true gB0, decide_eq_true gB1, decide_eq_false gB]; simp), HB5.out⟩
 ·have vA0 : ((x : Int) != ((rowLen plan 0 : Nat) : Int) - 1) = false := by simp; omega
  have vA5 : ((x : Int) == ((rowLen plan 0 : Nat) : Int) - 1) = true := by simp; omega
  have vA1 : decide (((rowLen bs 2 : Nat) : Int) > 0) = true := decide_eq_true (by omega)
  have vA8 : decide (0 < rowLen bs 2) = true := decide_eq_true (by omega)
  have vA9 : (rowLen bs 2 == 0) = false := by simp; omega
  have vAa : decide (rowLen bs 2 = 0) = false := decide_eq_false (by omega)
  have vA2 : (y : Int) < (rowLen bs 2 : Nat) := by have := hbl 2 (by omega); simp at this; omega
  have vA6 : (((rowLen bs 2 : Nat) : Int) == 0) = false := by simp; omega
  obtain ⟨abA, aoA, eA, -, xA⟩ := hbr2 y (by show y < rowLen bs 2; omega)
  subst eA
  replace xA := cell_to HB xA
  have lA : abA < w4.heap.size := World.block_lt_of_cell? w4 _ xA
  have vA3 : (ik (rowAt bs 2) y != (tk ts i).get 2) = false := by simp [gA]
  have vA4 : (ik (rowAt bs 2) y == (tk ts i).get 2) = true := by simp [gA]
  rcases hB with gB | ⟨gB0, eB⟩ | ⟨gB0, gB1, gB⟩ | ⟨gB0, gB1, gB⟩
  ·have vB0 : ((y : Int) != ((m1 : Nat) : Int) - 1) = true := by simp; omega
   have HgA0 := Lib.hid gA0; have HgA1 := Lib.hid gA1; have HgA := Lib.hid gA; have HgB := Lib.hid gB; clear gA0 gA1 gA gB
   clear hM1
   refine wp_region_gro (by kernel_rfl) (by kernel_rfl) ?_
   repeat (first | go_big_quiet_step (fail) | quiet_step (fail))
   refine wpQuiet_nil ?_
   intro w5 hB5
   have HB5 := Lib.hid (below_to HB hB5)
   go_wp2_with fail
   go_ret
   have gA0 := HgA0.out; have gA1 := HgA1.out; have gA := HgA.out; have gB := HgB.out
   have h1 := HP.out
   have h2 := HQ.out
   exact ⟨congrArg (fun b_ => Ending.returned (.bool b_)) (by unfold fitB; rw [← h1, ← h2]; unfold BadC BadD; rw [decide_eq_true gA0, decide_eq_true gA1, decide_eq_true gA, decide_eq_false gB]; simp), HB5.out⟩
  ·have vB0 : ((y : Int) != ((m1 : Nat) : Int) - 1) = false := by simp; omega
   have vB1 : decide (((rowLen bs 3 : Nat) : Int) > 0) = false := decide_eq_false (by omega)
   have vB8 : decide (0 < rowLen bs 3) = false := decide_eq_false (by omega)
   have vB9 : (rowLen bs 3 == 0) = true := by simp [eB]
   have vBa : decide (rowLen bs 3 = 0) = true := decide_eq_true (by omega)
   have vB6 : (((rowLen bs 3 : Nat) : Int) == 0) = true := by simp [eB]
   have HgA0 := Lib.hid gA0; have HgA1 := Lib.hid gA1; have HgA := Lib.hid gA; have HgB0 := Lib.hid gB0; have HeB := Lib.hid eB; clear gA0 gA1 gA gB0 eB
   clear hM1
   refine wp_region_gro (by kernel_rfl) (by kernel_rfl) ?_
   repeat (first | go_big_quiet_step (fail) | quiet_step (fail))
   refine wpQuiet_nil ?_
   intro w5 hB5
   have HB5 := Lib.hid (below_to HB hB5)
   go_wp2_with fail
   go_ret
   have gA0 := HgA0.out; have gA1 := HgA1.out; have gA := HgA.out; have gB0 := HgB0.out; have eB := HeB.out
   have h1 := HP.out
   have h2 := HQ.out
   exact ⟨congrArg (fun b_ => Ending.returned (.bool b_)) (by unfold fitB; rw [← h1, ← h2]; unfold BadC BadD; rw [decide_eq_true gA0, decide_eq_true gA1, decide_eq_true gA, decide_eq_true gB0, decide_eq_false (show ¬ 0 < rowLen bs 3 by omega)]; simp), HB5.out⟩
  ·have vB0 : ((y : Int) != ((m1 : Nat) : Int) - 1) = false := by simp; omega
   have vB1 : decide (((rowLen bs 3 : Nat) : Int) > 0) = true := decide_eq_true (by omega)
   have vB8 : decide (0 < rowLen bs 3) = true := decide_eq_true (by omega)
   have vB9 : (rowLen bs 3 == 0) = false := by simp; omega
   have vBa : decide (rowLen bs 3 = 0) = false := decide_eq_false (by omega)
   have vB2 : (x : Int) < (rowLen bs 3 : Nat) := by have := hbl 3 (by omega); simp at this; omega
   have vB6 : (((rowLen bs 3 : Nat) : Int) == 0) = false := by simp; omega
   obtain ⟨abB, aoB, eB, -, xB⟩ := hbr3 x (by show x < rowLen bs 3; omega)
   subst eB
   replace xB := cell_to HB xB
   have lB : abB < w4.heap.size := World.block_lt_of_cell? w4 _ xB
   have vB3 : (ik (rowAt bs 3) x != (tk ts i).get 3) = false := by simp [gB]
   have vB4 : (ik (rowAt bs 3) x == (tk ts i).get 3) = true := by simp [gB]
   have HgA0 := Lib.hid gA0; have HgA1 := Lib.hid gA1; have HgA := Lib.hid gA; have HgB0 := Lib.hid gB0; have HgB1 := Lib.hid gB1; have HgB := Lib.hid gB; clear gA0 gA1 gA gB0 gB1 gB
   clear hM1
   refine wp_region_gro (by kernel_rfl) (by kernel_rfl) ?_
   repeat (first | go_big_quiet_step (fail) | quiet_step (fail))
   refine wpQuiet_nil ?_
   intro w5 hB5
   have HB5 := Lib.hid (below_to HB hB5)
   go_wp2_with fail
   go_ret
   have gA0 := HgA0.out; have gA1 := HgA1.out; have gA := HgA.out; have gB0 := HgB0.out; have gB1 := HgB1.out; have gB := HgB.out
   have h1 := HP.out
   have h2 := HQ.out
   exact ⟨congrArg (fun b_ => Ending.returned (.bool b_)) (by unfold fitB; rw [← h1, ← h2]; unfold BadC BadD; rw [decide_eq_true gA0, decide_eq_true gA1, decide_eq_true gA, decide_eq_true gB0, decide_eq_true gB1, decide_eq_true gB]; simp), HB5.out⟩
  ·have vB0 : ((y : Int) != ((m1 : Nat) : Int) - 1) = false := by simp; omega
   have vB1 : decide (((rowLen bs 3 : Nat) : Int) > 0) = true := decide_eq_true (by omega)
   have vB8 : decide (0 < rowLen bs 3) = true := decide_eq_true (by omega)
   have vB9 : (rowLen bs 3 == 0) = false := by simp; omega
   have vBa : decide (rowLen bs 3 = 0) = false := decide_eq_false (by omega)
   have vB2 : (x : Int) < (rowLen bs 3 : Nat) := by have := hbl 3 (by omega); simp at this; omega
   have vB6 : (((rowLen bs 3 : Nat) : Int) == 0) = false := by simp; omega
   obtain ⟨abB, aoB, eB, -, xB⟩ := hbr3 x (by show x < rowLen bs 3; omega)
   subst eB
   replace xB := cell_to HB xB
   have lB : abB < w4.heap.size := World.block_lt_of_cell? w4 _ xB
   have vB3 : (ik (rowAt bs 3) x != (tk ts i).get 3) = true := by simp [gB]
   have vB4 : (ik (rowAt bs 3) x == (tk ts i).get 3) = false := by simp [gB]
   have HgA0 := Lib.hid gA0; have HgA1 := Lib.hid gA1; have HgA := Lib.hid gA; have HgB0 := Lib.hid gB0; have HgB1 := Lib.hid gB1; have HgB := Lib.hid gB; clear gA0 gA1 gA gB0 gB1 gB
   clear hM1
   refine wp_region_gro (by kernel_rfl) (by kernel_rfl) ?_
   repeat (first | go_big_quiet_step (fail) | quiet_step (fail))
   refine wpQuiet_nil ?_
   intro w5 hB5
   have HB5 := Lib.hid (below_to HB hB5)
   go_wp2_with fail
   go_ret
   have gA0 := HgA0.out; have gA1 := HgA1.out; have gA := HgA.out; have gB0 := HgB0.out; have gB1 := HgB1.out; have gB := HgB.out
   have h1 := HP.out
   have h2 := HQ.out
   exact ⟨congrArg (fun b_ => Ending.returned (.bool b_)) (by unfold fitB; rw [← h1, ← h2]; unfold BadC BadD; rw [decide_eq_true gA0, decide_eq_true gA1, decide_eq_true gA, decide_eq_true gB0, decide_eq_true gB1, decide_eq_false gB]; simp), HB5.out⟩
 ·have vA0 : ((x : Int) != ((rowLen plan 0 : Nat) : Int) - 1) = false := by simp; omega
  have vA5 : ((x : Int) == ((rowLen plan 0 : Nat) : Int) - 1) = true := by simp; omega
  have vA1 : decide (((rowLen bs 2 : Nat) : Int) > 0) = true := decide_eq_true (by omega)
  have vA8 : decide (0 < rowLen bs 2) = true := decide_eq_true (by omega)
  have vA9 : (rowLen bs 2 == 0) = false := by simp; omega
  have vAa : decide (rowLen bs 2 = 0) = false := decide_eq_false (by omega)
  have vA2 : (y : Int) < (rowLen bs 2 : Nat) := by have := hbl 2 (by omega); simp at this; omega
  have vA6 : (((rowLen bs 2 : Nat) : Int) == 0) = false := by simp; omega
  obtain ⟨abA, aoA, eA, -, xA⟩ := hbr2 y (by show y < rowLen bs 2; omega)
  subst eA
  replace xA := cell_to HB xA
  have lA : abA < w4.heap.size := World.block_lt_of_cell? w4 _ xA
  have vA3 : (ik (rowAt bs 2) y != (tk ts i).get 2) = true := by simp [gA]
  have vA4 : (ik (rowAt bs 2) y == (tk ts i).get 2) = false := by simp [gA]
  have HgA0 := Lib.hid gA0; have HgA1 := Lib.hid gA1; have HgA := Lib.hid gA; clear gA0 gA1 gA
  clear hM1
  refine wp_region_gro (by kernel_rfl) (by kernel_rfl) ?_
  repeat (first | go_big_quiet_step (fail) | quiet_step (fail))
  refine wpQuiet_nil ?_
  intro w5 hB5
  have HB5 := Lib.hid (below_to HB hB5)
  go_wp2_with fail
  go_ret
  have gA0 := HgA0.out; have gA1 := HgA1.out; have gA := HgA.out
  have h1 := HP.out
  have h2 := HQ.out
  exact ⟨congrArg (fun b_ => Ending.returned (.bool b_)) (by unfold fitB; rw [← h1, ← h2]; unfold BadC BadD; rw [decide_eq_true gA0, decide_eq_true gA1, decide_eq_false gA]; simp), HB5.out⟩
end Go.Proofs.Ytcaikaflpmaocaa

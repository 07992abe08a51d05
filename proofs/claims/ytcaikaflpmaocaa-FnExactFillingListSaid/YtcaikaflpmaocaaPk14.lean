/-
 Parts of the proof, in their order: NewF.
-/
import Derived.Test.YtcaikaflpmaocaaSq
import Derived.Test.YtcaikaflpmaocaaPk13
import Derived.Deep.CutBlock
namespace Go.Proofs.Ytcaikaflpmaocaa
open Go Go.RowKit Go.Proofs Go.Proofs.YtcaikaflpmaocaaW.PrintWords Go.Proofs.YtcaikaflpmaocaaW.PrintLast Go.Proofs.YtcaikaflpmaocaaW.PrintMore Go.Proofs.Ytcaikaflpmaocaa.Q
set_option linter.unusedVariables false
set_option linter.unusedSimpArgs false
def newf_T4 : Bool × List (List Nat × List Nat) := (true, [([], []), ([], []), ([1], [1]), ([2], [2]), ([3], [3]), ([], []), ([5], [5]), ([6], [6]), ([7], [7]), ([], []), ([9], [9]), ([10], [10]), ([11], [11]), ([12], [12]), ([13], [13]), ([8, 14], [8, 14]), ([15], [15]), ([], []), ([17], [17]), ([16, 18], [16, 18]), ([19], [19]), ([4, 20], [4, 20]), ([0, 0, 1, 2, 3, 4, 5, 6, 7, 8, 9, 10, 11, 12, 13, 14, 15, 16, 17, 18, 19, 20, 21], [0]), ([22, 0, 1, 2, 3, 4, 5, 6, 7, 8, 9, 10, 11, 12, 13, 14, 15, 16, 17, 18, 19, 20, 21], [22]), ([23, 21, 21, 0, 1, 2, 3, 4, 5, 6, 7, 8, 9, 10, 11, 12, 13, 14, 15, 16, 17, 18, 19, 20, 21], [21, 23])])
def newf_B4 : List Nat := [0, 0, 2, 6, 14, 0, 32, 96, 224, 0, 512, 1536, 3584, 7680, 15872, 32736, 65504, 0, 131072, 524256, 1048544, 2097150, 4194303, 8388607, 16777215]
theorem newf_tab4 : rtab .any (opsOf Try.f60 4) = newf_T4 := by kernel_rfl
theorem newf_bits4 : waitsOk newf_T4.2 newf_B4 = true := by kernel_rfl
def newf_T32 : Bool × List (List Nat × List Nat) := (true, [([], []), ([0], [0]), ([1], [1]), ([2], [2]), ([], []), ([], []), ([5, 5], [5]), ([3, 4, 0, 1, 2, 3, 4, 5, 6], [3, 4]), ([7, 6, 0, 1, 2, 3, 4, 5, 6], [6, 7])])
def newf_B32 : List Nat := [0, 1, 3, 7, 0, 0, 32, 127, 255]
theorem newf_tab32 : rtab .any (opsOf Try.f60 32) = newf_T32 := by kernel_rfl
theorem newf_bits32 : waitsOk newf_T32.2 newf_B32 = true := by kernel_rfl
def newf_T37 : Bool × List (List Nat × List Nat) := (true, [([], []), ([0], [0]), ([1], [1]), ([2], [2]), ([], []), ([3, 4], [3, 4]), ([5], [5]), ([], []), ([], []), ([], []), ([9], [9]), ([8, 10], [8, 10]), ([6, 7, 0, 1, 2, 3, 4, 5, 6, 7, 8, 9, 10, 11], [6, 7]), ([12, 11, 10, 0, 1, 2, 3, 4, 5, 6, 7, 8, 9, 10, 11], [11, 12])])
def newf_B37 : List Nat := [0, 1, 3, 7, 0, 31, 63, 0, 0, 0, 512, 1792, 4095, 8191]
theorem newf_tab37 : rtab .any (opsOf Try.f60 37) = newf_T37 := by kernel_rfl
theorem newf_bits37 : waitsOk newf_T37.2 newf_B37 = true := by kernel_rfl
def newf_T43 : Bool × List (List Nat × List Nat) := (true, [([], []), ([0], [0]), ([1], [1]), ([2], [2]), ([], []), ([3, 4], [3, 4]), ([5], [5]), ([], []), ([], []), ([8], [8]), ([9], [9]), ([10, 9], [9, 10]), ([11, 9], [9, 11]), ([12, 9], [9, 12]), ([9], [9]), ([14, 9], [9, 14]), ([13, 15, 9], [9, 13, 15]), ([16, 9], [9, 16]), ([9], [9]), ([17, 18, 9], [9, 17, 18]), ([19, 9], [9, 19]), ([9, 20], [9, 20]), ([6, 7, 0, 1, 2, 3, 4, 5, 6, 7, 8, 9, 10, 11, 12, 13, 14, 15, 16, 17, 18, 19, 20, 21], [6, 7]), ([22, 21, 9, 0, 1, 2, 3, 4, 5, 6, 7, 8, 9, 10, 11, 12, 13, 14, 15, 16, 17, 18, 19, 20, 21], [21, 22])])
def newf_B43 : List Nat := [0, 1, 3, 7, 0, 31, 63, 0, 0, 256, 768, 1792, 3840, 7936, 768, 17152, 65280, 130816, 768, 524032, 1048320, 2096896, 4194303, 8388607]
theorem newf_tab43 : rtab .any (opsOf Try.f60 43) = newf_T43 := by kernel_rfl
theorem newf_bits43 : waitsOk newf_T43.2 newf_B43 = true := by kernel_rfl
theorem name3n {P : Program} {c : Code} {Q : Exit → Act → World → Prop} {a : Act} {w : World} {C1 C2 C3 : Array Value} {E1 E2 E3 : TypeId}
 (h : ∀ W, BK W w.heap.size C1 E1 → BK W (w.heap.size + 1) C2 E2 → BK W (w.heap.size + 1 + 1) C3 E3 → Below w.heap.size w W → c.wp P Q a W) : c.wp P Q a (((w.alloc (.cells C1 E1)).alloc (.cells C2 E2)).alloc (.cells C3 E3)) :=
 h _ (((BK.new _ _ _).alloc _).alloc _) (by simpa using (BK.new (w.alloc (.cells C1 E1)) C2 E2).alloc (.cells C3 E3)) (by simpa using BK.new ((w.alloc (.cells C1 E1)).alloc (.cells C2 E2)) C3 E3) (below_alloc (below_alloc (below_alloc (Below.refl _ _) _) _) _)
attribute [local go_sem] max2_int min2_int max_two min_two
set_option maxHeartbeats 16000000 in
set_option maxRecDepth 100000 in
theorem newFiller_any (C : Int) (cn : Nat) (A : Option Addr) (ts : List T4) (n c : Nat) (A1 : Option Addr) (plan : List (List Int)) (m1 c1 : Nat) (A2 : Option Addr) (bs : List (List Int)) (m2 c2 : Nat) (w : World)
 (hC : C = (cn : Int)) (hcn : 0 < cn) (c6 : cn ≤ 6) (hn : n = ts.length) (hA : RT w A ts) (hl : n ≤ 1000) (hm1 : m1 = plan.length) (hA1 : RR w A1 plan) (hm2 : m2 = bs.length) (hA2 : RR w A2 bs) (hsh : Shape plan bs) (hcol : ∀ t ∈ ts.map toS, Col cn t) :
 Calls Try.prog 60 #[.agg #[.int .i64 C, .slice A n c], .slice A1 m1 c1, .slice A2 m2 c2] w fun e w' => ∃ F : Nat, e = .returned (.pointer (some ⟨F, 0, none⟩)) ∧ Below w.heap.size w w' ∧ w.heap.size ≤ F ∧ FIL w' F C cn A ts n c A1 plan m1 c1 A2 bs m2 c2 := by
 have HC := Lib.hid hC; have HCN := Lib.hid hcn; have HN := Lib.hid hn; have HA := Lib.hid hA; have HM1 := Lib.hid hm1; have HA1 := Lib.hid hA1; have HM2 := Lib.hid hm2; have HA2 := Lib.hid hA2; have HSH := Lib.hid hsh; have HCOL := Lib.hid hcol
 obtain ⟨h1, h5, w1, w5, hlen, h4, hbl⟩ := hsh
 obtain ⟨pb, po, PA, pc, hPA, hpb, p0, -, -, -⟩ := hA1 0 (by omega)
 subst hPA
 rw [Nat.add_zero] at p0
 have j1 : (0 : Int) < m1 := by omega
 have j2 : 0 < m1 := by omega
 have hw9 : rowLen plan 0 ≤ 35184372088832 := by omega
 clear hC hcn hn hA hm1 hA1 hm2 hA2 hcol hbl hlen
 go_enter Try.func60, Try.ntmps60
 go_upto_region 2 with fail
 refine name3n ?_
 intro W1 b1 b2 b3 hb0
 have hP : PW w W1 (w.heap.size + 1 + 1) C A n c (some ⟨pb, po, none⟩) m1 c1 A2 m2 c2 (.slice (some ⟨w.heap.size + 1, 0, none⟩) 1 1) (powL cn 0) := ⟨hb0, by omega, b1, b3, one_row b2 (by omega)⟩
 obtain ⟨F, hF⟩ : ∃ F_, F_ = w.heap.size + 1 + 1 := ⟨_, rfl⟩
 rw [← hF] at hP ⊢
 have p0' := cell_to hb0 p0
 have lp := World.block_lt_of_cell? W1 _ p0'
 clear hF b1 b2 b3
 have HP := Lib.hid hP; clear hP
 have HB0 := Lib.hid hb0; clear hb0
 go_upto_block 0 with fail
 go_cut [33] from 23 (fun s33 wx => ∃ pv, PW w wx F C A n c (some ⟨pb, po, none⟩) m1 c1 A2 m2 c2 pv (powL cn (rowLen plan 0)))
 case first =>
  as_aux_lemma =>
   go_wp2_with fail
   go_loopw [33] (fun i wr => ∃ k : Nat, k ≤ rowLen plan 0 ∧ i = .int .i64 k ∧ ∃ pv, PW w wr F C A n c (some ⟨pb, po, none⟩) m1 c1 A2 m2 c2 pv (powL cn k)) (fun i _ => rowLen plan 0 - (intOf i).toNat)
   case atStart => exact ⟨0, by omega, rfl, _, HP.out⟩
   case round =>
    obtain ⟨k, hk, rfl, pv, hP⟩ := hrel
    by_cases hlt : k < rowLen plan 0
    ·have i1 : (k : Int) < rowLen plan 0 := by omega
     obtain ⟨pg, pc_, rfl⟩ : ∃ g c_, pv = .slice (some ⟨g, 0, none⟩) (k + 1) c_ := by
      obtain ⟨g, c_, e, -⟩ := Kd.R_form hP.row (by rw [powL_len]; omega)
      rw [powL_len] at e
      exact ⟨g, c_, e⟩
     obtain ⟨Bk, hBk⟩ : ∃ z : Int, z = ((cn ^ k : Nat) : Int) := ⟨_, rfl⟩
     have HBk := Lib.hid hBk
     have z4 : wr.cell? ⟨F, 4, none⟩ = some (.slice (some ⟨pg, 0, none⟩) (k + 1) pc_) := hP.bf.cell rfl
     have z1 : wr.cell? ⟨w.heap.size, 0, none⟩ = some (.int .i64 C) := hP.bs.cell rfl
     have hCk := (Kd.R_reads' hP.row).2.2
     obtain ⟨b_, o_, e1, -, zk⟩ := (ri_of_C hCk) k (by rw [powL_len]; omega)
     injection e1 with e1; injection e1 with e4 e5; subst e4 e5
     rw [Nat.zero_add, powL_at cn k k (Nat.le_refl _), ← hBk] at zk
     have i2 : (k : Int) < (k : Int) + 1 := by omega
     have i3 : k < k + 1 := by omega
     have HPL := Lib.hid (show (powL cn k).length ≤ 100 by rw [powL_len]; omega)
     have HNX := Lib.hid (show wrap64 (Bk * C) = ((cn ^ (k + 1) : Nat) : Int) by rw [hBk, HC.out]; exact pow_next cn k c6 (by omega))
     clear hBk hCk
     go_upto_region 4 with fail
     have hD := (Below.refl wr.heap.size wr).drew
     refine start_ (n := 25) (S := fun w' => w'.cell? ⟨F, 4, none⟩ = some (.slice (some ⟨pg, 0, none⟩) (k + 1) pc_) ∧ w'.cell? ⟨w.heap.size, 0, none⟩ = some (.int .i64 C) ∧ w'.cell? ⟨pg, k, none⟩ = some (.int .i64 Bk)) (ds := [21, 24]) #[f_,f_,f_,f_,f_,f_,f_,f_,f_,f_,f_,f_,f_,f_,f_,f_,f_,f_,f_,f_,f_,f_,f_,f_,f_] (by kernel_rfl) rfl rfl ⟨cell_to hD z4, cell_to hD z1, cell_to hD zk⟩ (fun hHeld => ?_)
     refine with_tabW newf_tab4 newf_bits4 (fun HT_ HW_ => ?_)
     replace hP := hP.to hD
     generalize wr.drew = wd at hD hP hHeld ⊢
     refine p_ 0 35 ?_ #[t_,f_,f_,f_,f_,f_,f_,f_,f_,f_,f_,f_,f_,f_,f_,f_,f_,f_,f_,f_,f_,f_,f_,f_,f_] rfl rfl HT_.out (by kernel_rfl) (fun _ _ _ h => h) (.inl ⟨by rfl, ?_⟩) ?_ ?_ ?_
     rotate_left
     ·intro w'
      go_simp
      with_reducible rfl
     rotate_left
     ·simp only [Q_]
      rfl
     refine p_ 1 36 ?_ #[t_,t_,f_,f_,f_,f_,f_,f_,f_,f_,f_,f_,f_,f_,f_,f_,f_,f_,f_,f_,f_,f_,f_,f_,f_] rfl rfl HT_.out (by kernel_rfl) (fun _ _ _ h => h) (.inl ⟨by rfl, ?_⟩) ?_ ?_ ?_
     rotate_left
     ·intro w'
      go_simp
      with_reducible rfl
     rotate_left
     ·simp only [Q_]
      rfl
     refine p_ 2 37 ?_ #[t_,t_,t_,f_,f_,f_,f_,f_,f_,f_,f_,f_,f_,f_,f_,f_,f_,f_,f_,f_,f_,f_,f_,f_,f_] rfl rfl HT_.out (by kernel_rfl) (fun _ _ _ h => h) (.inl ⟨by rfl, ?_⟩) ?_ ?_ ?_
     rotate_left
     ·intro w'
      go_simp
      with_reducible rfl
     rotate_left
     ·simp only [Q_]
      rfl
     refine p_ 3 38 ?_ #[t_,t_,t_,t_,f_,f_,f_,f_,f_,f_,f_,f_,f_,f_,f_,f_,f_,f_,f_,f_,f_,f_,f_,f_,f_] rfl rfl HT_.out (by kernel_rfl) (fun _ _ _ h => h) (.inl ⟨by rfl, ?_⟩) ?_ ?_ ?_
     rotate_left
     ·intro w'
      go_simp
      with_reducible rfl
     rotate_left
     ·simp only [Q_]
      rfl
     refine p_ 5 40 ?_ #[t_,t_,t_,t_,f_,t_,f_,f_,f_,f_,f_,f_,f_,f_,f_,f_,f_,f_,f_,f_,f_,f_,f_,f_,f_] rfl rfl HT_.out (by kernel_rfl) (fun _ _ _ h => h) (.inl ⟨by rfl, ?_⟩) ?_ ?_ ?_
     rotate_left
     ·intro w'
      go_simp
      with_reducible rfl
     rotate_left
     ·simp only [Q_]
      rfl
     refine p_ 6 41 ?_ #[t_,t_,t_,t_,f_,t_,t_,f_,f_,f_,f_,f_,f_,f_,f_,f_,f_,f_,f_,f_,f_,f_,f_,f_,f_] rfl rfl HT_.out (by kernel_rfl) (fun _ _ _ h => h) (.inl ⟨by rfl, ?_⟩) ?_ ?_ ?_
     rotate_left
     ·intro w'
      go_simp
      with_reducible rfl
     rotate_left
     ·simp only [Q_]
      rfl
     refine p_ 7 42 ?_ #[t_,t_,t_,t_,f_,t_,t_,t_,f_,f_,f_,f_,f_,f_,f_,f_,f_,f_,f_,f_,f_,f_,f_,f_,f_] rfl rfl HT_.out (by kernel_rfl) (fun _ _ _ h => h) (.inl ⟨by rfl, ?_⟩) ?_ ?_ ?_
     rotate_left
     ·intro w'
      go_simp
      with_reducible rfl
     rotate_left
     ·simp only [Q_]
      rfl
     refine p_ 9 44 ?_ #[t_,t_,t_,t_,f_,t_,t_,t_,f_,t_,f_,f_,f_,f_,f_,f_,f_,f_,f_,f_,f_,f_,f_,f_,f_] rfl rfl HT_.out (by kernel_rfl) (fun _ _ _ h => h) (.inl ⟨by rfl, ?_⟩) ?_ ?_ ?_
     rotate_left
     ·intro w'
      go_simp
      with_reducible rfl
     rotate_left
     ·simp only [Q_]
      rfl
     refine p_ 10 45 ?_ #[t_,t_,t_,t_,f_,t_,t_,t_,f_,t_,t_,f_,f_,f_,f_,f_,f_,f_,f_,f_,f_,f_,f_,f_,f_] rfl rfl HT_.out (by kernel_rfl) (fun _ _ _ h => h) (.inl ⟨by rfl, ?_⟩) ?_ ?_ ?_
     rotate_left
     ·intro w'
      go_simp
      with_reducible rfl
     rotate_left
     ·simp only [Q_]
      rfl
     refine p_ 11 46 ?_ #[t_,t_,t_,t_,f_,t_,t_,t_,f_,t_,t_,t_,f_,f_,f_,f_,f_,f_,f_,f_,f_,f_,f_,f_,f_] rfl rfl HT_.out (by kernel_rfl) (fun _ _ _ h => h) (.inl ⟨by rfl, ?_⟩) ?_ ?_ ?_
     rotate_left
     ·intro w'
      go_simp
      with_reducible rfl
     rotate_left
     ·simp only [Q_]
      rfl
     refine p_ 17 52 ?_ #[t_,t_,t_,t_,f_,t_,t_,t_,f_,t_,t_,t_,f_,f_,f_,f_,f_,t_,f_,f_,f_,f_,f_,f_,f_] rfl rfl HT_.out (by kernel_rfl) (fun _ _ _ h => h) (.inl ⟨by rfl, ?_⟩) ?_ ?_ ?_
     rotate_left
     ·intro w'
      go_simp
      with_reducible rfl
     rotate_left
     ·simp only [Q_]
      rfl
     refine tk_ 4 39 ?_ #[t_,t_,t_,t_,t_,t_,t_,t_,f_,t_,t_,t_,f_,f_,f_,f_,f_,t_,f_,f_,f_,f_,f_,f_,f_] rfl rfl (take_ofW HT_.out HW_.out (by kernel_rfl)) (fun _ _ _ h => h) (.inl ⟨by rfl, ?_⟩) hHeld ?_ ?_ ?_
     rotate_left
     ·rintro w' ⟨s0, s1, s2⟩
      go_simp
      with_reducible rfl
     rotate_left
     ·simp only [Q_]
      rfl
     refine tk_ 8 43 ?_ #[t_,t_,t_,t_,t_,t_,t_,t_,t_,t_,t_,t_,f_,f_,f_,f_,f_,t_,f_,f_,f_,f_,f_,f_,f_] rfl rfl (take_ofW HT_.out HW_.out (by kernel_rfl)) (fun _ _ _ h => h) (.inl ⟨by rfl, ?_⟩) hHeld ?_ ?_ ?_
     rotate_left
     ·rintro w' ⟨s0, s1, s2⟩
      go_simp
      with_reducible rfl
     rotate_left
     ·simp only [Q_]
      rfl
     refine tk_ 12 47 ?_ #[t_,t_,t_,t_,t_,t_,t_,t_,t_,t_,t_,t_,t_,f_,f_,f_,f_,t_,f_,f_,f_,f_,f_,f_,f_] rfl rfl (take_ofW HT_.out HW_.out (by kernel_rfl)) (fun _ _ _ h => h) (.inl ⟨by rfl, ?_⟩) hHeld ?_ ?_ ?_
     rotate_left
     ·rintro w' ⟨s0, s1, s2⟩
      go_simp
      with_reducible rfl
     rotate_left
     ·simp only [Q_]
      rfl
     refine p_ 13 48 ?_ #[t_,t_,t_,t_,t_,t_,t_,t_,t_,t_,t_,t_,t_,t_,f_,f_,f_,t_,f_,f_,f_,f_,f_,f_,f_] rfl rfl HT_.out (by kernel_rfl) (fun _ _ _ h => h) (.inl ⟨by rfl, ?_⟩) ?_ ?_ ?_
     rotate_left
     ·intro w'
      go_simp
      with_reducible rfl
     rotate_left
     ·simp only [Q_]
      rfl
     refine p_ 14 49 ?_ #[t_,t_,t_,t_,t_,t_,t_,t_,t_,t_,t_,t_,t_,t_,t_,f_,f_,t_,f_,f_,f_,f_,f_,f_,f_] rfl rfl HT_.out (by kernel_rfl) (fun _ _ _ h => h) (.inl ⟨by rfl, ?_⟩) ?_ ?_ ?_
     rotate_left
     ·intro w'
      go_simp
      with_reducible rfl
     rotate_left
     ·simp only [Q_]
      rfl
     rw [wrapN k (by omega)]
     refine p_ 15 50 ?_ #[t_,t_,t_,t_,t_,t_,t_,t_,t_,t_,t_,t_,t_,t_,t_,t_,f_,t_,f_,f_,f_,f_,f_,f_,f_] rfl rfl HT_.out (by kernel_rfl) (fun _ _ _ h => h) (.inl ⟨by rfl, ?_⟩) ?_ ?_ ?_
     rotate_left
     ·intro w'
      go_simp
      with_reducible rfl
     rotate_left
     ·simp only [Q_]
      rfl
     refine tk_ 16 51 ?_ #[t_,t_,t_,t_,t_,t_,t_,t_,t_,t_,t_,t_,t_,t_,t_,t_,t_,t_,f_,f_,f_,f_,f_,f_,f_] rfl rfl (take_ofW HT_.out HW_.out (by kernel_rfl)) (fun _ _ _ h => h) (.inl ⟨by rfl, ?_⟩) hHeld ?_ ?_ ?_
     rotate_left
     ·rintro w' ⟨s0, s1, s2⟩
      go_simp
      with_reducible rfl
     rotate_left
     ·simp only [Q_]
      rfl
     refine tk_ 18 53 ?_ #[t_,t_,t_,t_,t_,t_,t_,t_,t_,t_,t_,t_,t_,t_,t_,t_,t_,t_,t_,f_,f_,f_,f_,f_,f_] rfl rfl (take_ofW HT_.out HW_.out (by kernel_rfl)) (fun _ _ _ h => h) (.inl ⟨by rfl, ?_⟩) hHeld ?_ ?_ ?_
     rotate_left
     ·rintro w' ⟨s0, s1, s2⟩
      go_simp
      with_reducible rfl
     rotate_left
     ·simp only [Q_]
      rfl
     refine p_ 19 54 ?_ #[t_,t_,t_,t_,t_,t_,t_,t_,t_,t_,t_,t_,t_,t_,t_,t_,t_,t_,t_,t_,f_,f_,f_,f_,f_] rfl rfl HT_.out (by kernel_rfl) (fun _ _ _ h => h) (.inl ⟨by rfl, ?_⟩) ?_ ?_ ?_
     rotate_left
     ·intro w'
      go_simp
      with_reducible rfl
     rotate_left
     ·simp only [Q_]
      rfl
     refine one_ (i := 20) (N := some 55) #[t_,t_,t_,t_,t_,t_,t_,t_,t_,t_,t_,t_,t_,t_,t_,t_,t_,t_,t_,t_,t_,f_,f_,f_,f_] rfl rfl (one_of HT_.out (by kernel_rfl)) (by decide) (fun K hK => ?_)
     refine value_ (w1 := ?_) (v := ?_) (by rfl) rfl ?_ ?_
     rotate_left 2
     ·go_simp
      constructor
      ·rfl
      ·rfl
     refine hK.out _ _ ⟨cell_to (below_alloc (Below.refl _ _) _) hHeld.1, cell_to (below_alloc (Below.refl _ _) _) hHeld.2.1, cell_to (below_alloc (Below.refl _ _) _) hHeld.2.2⟩ (fun hHeld => ?_)
     clear hK K
     refine norm_ (a' := ?_) ?_ ?_
     rotate_left
     ·show Act.put _ (some 55) _ = _
      simp only [Q_]
      rfl
     refine last_ (i := 21) (N := some 56) #[t_,t_,t_,t_,t_,t_,t_,t_,t_,t_,t_,t_,t_,t_,t_,t_,t_,t_,t_,t_,t_,t_,f_,f_,f_] rfl rfl (one_of HT_.out (by kernel_rfl)) (by decide) (fun K hK => ?_)
     refine Kd.R_append_step (Kd.int .i64) (w0 := w) w.heap.size (by rfl) (.tmp 39) (.tmp 55) 56 2 (.int .i64 0) 8 rfl Try.underlying56 info2 rfl (by decide) (by omega) (.slice (some ⟨pg, 0, none⟩) (k + 1) pc_) (powL cn k) (wrap64 (Bk * C)) [.int .i64 (wrap64 (Bk * C))] (fun _ => True) (fun _ => False) rfl rfl ?aP (fun _ hk => hk.elim) ?aF ?aO ?aB ?aS ?aL ?_
     (case aP => exact rfl)
     (case aF => exact fun _ _ => trivial)
     (case aO => exact hP.row)
     (case aB => exact hP.be)
     (case aS => exact hP.be.size)
     (case aL => have := HPL.out; omega)
     intro v1 w56 ho hb hg hat
     obtain ⟨Ao, co, hv1⟩ : ∃ A_ c_, v1 = .slice A_ (powL cn k ++ [wrap64 (Bk * C)]).length c_ := Kd.R_slice ho
     obtain ⟨n1, hn1_⟩ : ∃ k_, k_ = (powL cn k ++ [wrap64 (Bk * C)]).length := ⟨_, rfl⟩
     rw [← hn1_] at hv1
     clear hn1_
     subst hv1
     have z0 : w56.cell? ⟨F, 4, none⟩ = some (.slice (some ⟨pg, 0, none⟩) (k + 1) pc_) := (blk_cell (blk_grown hP.bf hg (Kd.R_ne hP.row hP.bf (by decide))) 4).trans rfl
     have f0 : w56.frozen? ⟨F, 4, none⟩ = false := blk_frozen (blk_grown hP.bf hg (Kd.R_ne hP.row hP.bf (by decide))) 4
     have bf : BK w56 F _ 65 := blk_grown hP.bf hg (Kd.R_ne hP.row hP.bf (by decide))
     have bs : BK w56 w.heap.size _ 36 := blk_grown hP.bs hg (Kd.R_ne hP.row hP.bs (by decide))
     refine hK.out _ _ ?_
     clear hK K
     refine norm_ (a' := ?_) ?_ ?_
     rotate_left
     ·show Act.put _ (some 56) _ = _
      simp only [Q_]
      rfl
     refine p_ 22 57 ?_ #[t_,t_,t_,t_,t_,t_,t_,t_,t_,t_,t_,t_,t_,t_,t_,t_,t_,t_,t_,t_,t_,t_,t_,f_,f_] rfl rfl HT_.out (by kernel_rfl) (fun _ _ _ h => h) (.inl ⟨by rfl, ?_⟩) ?_ ?_ ?_
     rotate_left
     ·intro w'
      go_simp
      with_reducible rfl
     rotate_left
     ·simp only [Q_]
      rfl
     refine p_ 23 58 ?_ #[t_,t_,t_,t_,t_,t_,t_,t_,t_,t_,t_,t_,t_,t_,t_,t_,t_,t_,t_,t_,t_,t_,t_,t_,f_] rfl rfl HT_.out (by kernel_rfl) (fun _ _ _ h => h) (.inl ⟨by rfl, ?_⟩) ?_ ?_ ?_
     rotate_left
     ·intro w'
      go_simp
      with_reducible rfl
     rotate_left
     ·simp only [Q_]
      rfl
     refine last_ (i := 24) (N := none) #[t_,t_,t_,t_,t_,t_,t_,t_,t_,t_,t_,t_,t_,t_,t_,t_,t_,t_,t_,t_,t_,t_,t_,t_,t_] rfl rfl (one_of HT_.out (by kernel_rfl)) (by decide) (fun K hK => ?_)
     refine skip_ (w1 := ?_) (by rfl) rfl ?_ ?_
     rotate_left
     ·go_simp
      rfl
     refine hK.out _ _ ?_
     clear hK K
     refine done_ (done_of HT_.out (by kernel_rfl)) ?_
     have hP2 : PW w (w56.setCell ⟨F, 4, none⟩ (.slice Ao n1 co)) F C A n c (some ⟨pb, po, none⟩) m1 c1 A2 m2 c2 (.slice Ao n1 co) (powL cn (k + 1)) := by
      have e2 : powL cn k ++ [wrap64 (Bk * C)] = powL cn (k + 1) := by rw [powL_succ, HNX.out]
      rw [← e2]
      refine ⟨hb.setCell hP.gF _, hP.gF, bs.set_ne (blk_ne bs bf (by decide)) 4 (.slice Ao n1 co), bf.set 4 (.slice Ao n1 co), Kd.R_set ho bf (fun q hq => by rw [int_types hq]; decide) 4 (.slice Ao n1 co)⟩
     have HP2 := Lib.hid hP2; clear hP2
     generalize w56.setCell ⟨F, 4, none⟩ (.slice Ao n1 co) = w57 at HP2 ⊢
     clear ho hb hg hat bf bs z0 f0 hP
     go_wp2_with fail
     go_roundw
     case rel => exact ⟨k + 1, by omega, by go_num, _, HP2.out⟩
     case measure => simp [intOf]; omega
    ·have i1 : ¬ (k : Int) < rowLen plan 0 := by omega
     have e : k = rowLen plan 0 := by omega
     have HEQ := Lib.hid e; clear e
     have HPk := Lib.hid hP; clear hP
     go_wp2_with fail
     go_meet
     exact ⟨pv, by rw [← HEQ.out]; exact HPk.out⟩
 case rest =>
 obtain ⟨pv, hP⟩ := hcut
 clear HP
 obtain ⟨pg, pc_, hpv⟩ : ∃ g c_, pv = .slice (some ⟨g, 0, none⟩) (rowLen plan 0 + 1) c_ := by
  obtain ⟨g, c_, e, -⟩ := Kd.R_form hP.row (by rw [powL_len]; omega)
  rw [powL_len] at e
  exact ⟨g, c_, e⟩
 subst hpv
 obtain ⟨Bk, hBk⟩ : ∃ z : Int, z = ((cn ^ rowLen plan 0 : Nat) : Int) := ⟨_, rfl⟩
 have z4 : wc.cell? ⟨F, 4, none⟩ = some (.slice (some ⟨pg, 0, none⟩) (rowLen plan 0 + 1) pc_) := hP.bf.cell rfl
 have z1 : wc.cell? ⟨w.heap.size, 0, none⟩ = some (.int .i64 C) := hP.bs.cell rfl
 have hCk := (Kd.R_reads' hP.row).2.2
 obtain ⟨b_, o_, e1, -, zk⟩ := (ri_of_C hCk) (rowLen plan 0) (by rw [powL_len]; omega)
 injection e1 with e1; injection e1 with e4 e5; subst e4 e5
 rw [Nat.zero_add, powL_at _ _ _ (Nat.le_refl _), ← hBk] at zk
 have i2 : ((rowLen plan 0 : Nat) : Int) < ((rowLen plan 0 : Nat) : Int) + 1 := by omega
 have HNX := Lib.hid (show wrap64 (Bk * C) = ((size cn plan : Nat) : Int) by rw [hBk, HC.out]; exact pow_next cn _ c6 (by omega))
 have hs9 : size cn plan ≤ 46656 := pow_le cn (rowLen plan 0 + 1) c6 (by omega)
 have hs0 : 0 < size cn plan := Nat.pow_pos HCN.out
 have lF := hP.bf.lt; have l0 := hP.bs.lt; have lk := World.block_lt_of_cell? wc _ zk
 simp only at lk
 clear hBk hCk
 go_upto_region 6 with fail
 refine wp_region_gro (by kernel_rfl) (by kernel_rfl) ?_
 repeat (first | go_big_quiet_step (fail) | quiet_step (fail))
 refine wpQuiet_nil ?_
 intro W2 hB2
 have hP2 := hP.to hB2
 clear hP z4 z1 zk lF l0 lk hB2
 simp only [HNX.out]
 generalize hsz : size cn plan = sz at *
 go_upto_region 8 with (first | ((with_reducible refine gate_dst (N := 76) rfl ?_); refine Kd.R_make (Kd.int .i64) (w0 := W2) W2.heap.size 2 rfl (N := 76) rfl 56 _ _ rfl (sz : Int) rfl rfl Try.underlying56 (.int .i64 0) 8 info2 rfl (by decide) (by omega) 0 (ok := fun _ => True) (okp := fun _ => True) rfl (fun _ hk => hk) trivial (by omega) (by omega) (Below.refl _ _) (Nat.le_refl _) ?_; intro nv W3 hnw hb3 hg3 hnew3))
 have hF2 := FW.start hP2
 have hF3 := hF2.to hb3
 obtain ⟨g9, c9, hnv⟩ : ∃ g c_, nv = .slice (some ⟨g, 0, none⟩) sz c_ := by
  obtain ⟨g, c_, e, -⟩ := Kd.R_form hnw (by simp; omega)
  exact ⟨g, c_, by rw [e]; simp⟩
 subst hnv
 have hg9 : W2.heap.size ≤ g9 := Kd.R_base hnw g9 rfl
 obtain ⟨x0_, f0_⟩ := Kd.R_celln 0 hnw 0 (by omega) (by omega)
 obtain ⟨z9, x0⟩ : ∃ z : Int, W3.cell? ⟨g9, 0, none⟩ = some (.int .i64 z) := ⟨_, x0_⟩
 have f0 : W3.frozen? ⟨g9, 0, none⟩ = false := f0_
 clear x0_ f0_
 have hput : Kd.R (Kd.int .i64) 2 (W3.setCell ⟨g9, 0, none⟩ (.int .i64 1)) W2.heap.size (fun _ => True) (.slice (some ⟨g9, 0, none⟩) sz c9) ((List.replicate (sz : Int).toNat 0).set 0 1) := (Kd.R_putg hnw 0 1).1
 have l9 : g9 < W3.heap.size := Kd.R_lt hnw g9 rfl
 have i8 : (0 : Int) < sz := by omega
 have hF4 := hF3.far hg9 0 (.int .i64 1)
 have hb4 : Below W2.heap.size W2 (W3.setCell ⟨g9, 0, none⟩ (.int .i64 1)) := hb3.setCell hg9 _
 have HF4 := Lib.hid hF4; have HPUT := Lib.hid hput; have HB4 := Lib.hid hb4
 clear hF4 hput hb4 hF2 hF3 hnw hb3 hg3 hnew3
 go_upto_region 9 with fail
 generalize W3.setCell ⟨g9, 0, none⟩ (.int .i64 1) = W4 at HF4 HPUT HB4 ⊢
 have z5 : W4.cell? ⟨F, 5, none⟩ = some (.slice none 0 0) := HF4.out.bf.cell rfl
 have lF := HF4.out.bf.lt
 go_wp2_with (first | ((with_reducible refine gate_builtin (b := .append) (xs := #[.tmp 83, .tmp 85]) rfl ?_); at_builtin; refine Kd.S_append (Kd.slice 2 (Kd.int .i64)) (w0 := W4) W2.heap.size rfl (.tmp 83) (.tmp 85) 22 56 (.slice none 0 0) 24 rfl Try.underlying22 info56 rfl (by decide) (by omega) (.slice none 0 0) ([]) ((List.replicate (sz : Int).toNat 0).set 0 1) [.slice (some ⟨g9, 0, none⟩) sz c9] (fun _ => True) (fun k_ => some k_ = (.slice (some ⟨g9, 0, none⟩) sz c9 : Value).ownBlock) rfl rfl ?aP ?aK ?aF ?aO ?aB ?aS ?aL ?_; (case aP => exact Kd.M_row (Kd.R_tight rfl HPUT.out)); (case aK => exact fun k hk => ⟨trivial, by simp [Value.ownBlock]⟩); (case aF => exact fun _ _ => trivial); (case aO => exact Kd.S_nil _ _ _ _ _); (case aB => exact Below.refl _ _); (case aS => have := HF4.out.lN; have := HF4.out.lM; omega); (case aL => first | (rw [cntL_len]; omega) | (simp; done) | (simp; omega)); intro v1 W5 ho hb hg hat; have HO := Lib.hid ho; have HBA := Lib.hid hb; have HGA := Lib.hid hg; obtain ⟨Ac, cc, hv1⟩ := Kd.S_slice ho; have z6 : W5.cell? ⟨F, 5, none⟩ = some (.slice none 0 0) := (blk_cell (blk_grown HF4.out.bf hg (Kd.S_ne HF4.out.cnt HF4.out.bf (by decide))) 5).trans rfl; have f6 : W5.frozen? ⟨F, 5, none⟩ = false := blk_frozen (blk_grown HF4.out.bf hg (Kd.S_ne HF4.out.cnt HF4.out.bf (by decide))) 5; clear ho hb hg hat z5; subst hv1))
 have hF5 : FW w (W5.setCell ⟨F, 5, none⟩ (.slice Ac 1 cc)) W2.heap.size W5.heap.size F C A n c (some ⟨pb, po, none⟩) m1 c1 A2 m2 c2 (.slice (some ⟨pg, 0, none⟩) (rowLen plan 0 + 1) pc_) (.slice Ac 1 cc) (powL cn (rowLen plan 0)) (cntL cn plan bs (ts.map toS) 0) := by
  rw [cntL_zero, hsz]
  exact HF4.out.app HBA.out HO.out HGA.out
 generalize W5.setCell ⟨F, 5, none⟩ (.slice Ac 1 cc) = W6 at hF5 ⊢
 obtain ⟨M, hM⟩ : ∃ M_, M_ = W5.heap.size := ⟨_, rfl⟩
 rw [← hM] at hF5
 clear hM HBA HO HGA HF4 HPUT HB4 hg9 f6 z6 x0 f0 l9 i8
 have HF5 := Lib.hid hF5; clear hF5
 obtain ⟨N, hN⟩ : ∃ N_, N_ = W2.heap.size := ⟨_, rfl⟩
 rw [← hN] at HF5
 refine (size_any (some ⟨pb, po, none⟩) plan m1 c1 F W6 HM1.out (HA1.out.below HF5.out.be) h1 h5 w5 (HF5.out.bf.cell rfl)).mono ?_
 rintro e W7 ⟨rfl, hb7⟩
 have hF7 := HF5.out.to hb7
 have HF7 := Lib.hid hF7; clear hF7 hb7 HF5 hP2 hN lF
 go_upto_block 2 with fail
 have hpl : places plan ≤ 25 := by unfold places; exact Nat.mul_le_mul h5 w5
 go_cut [91] from 23 (fun s91 wx => ∃ cv M', FW w wx N M' F C A n c (some ⟨pb, po, none⟩) m1 c1 A2 m2 c2 (.slice (some ⟨pg, 0, none⟩) (rowLen plan 0 + 1) pc_) cv (powL cn (rowLen plan 0)) (cntL cn plan bs (ts.map toS) (places plan)))
 case first =>
  as_aux_lemma =>
   go_wp2_with fail
   go_loopw [91] (fun i wr => ∃ p : Nat, p ≤ places plan ∧ i = .int .i64 p ∧ ∃ cv M', FW w wr N M' F C A n c (some ⟨pb, po, none⟩) m1 c1 A2 m2 c2 (.slice (some ⟨pg, 0, none⟩) (rowLen plan 0 + 1) pc_) cv (powL cn (rowLen plan 0)) (cntL cn plan bs (ts.map toS) p)) (fun i _ => places plan - (intOf i).toNat)
   case atStart => exact ⟨0, by omega, rfl, _, _, HF7.out⟩
   case round =>
    obtain ⟨p, hp, rfl, cv, M, hF⟩ := hrel
    by_cases hlt : p < places plan
    ·have i1 : (p : Int) < places plan := by omega
     obtain ⟨gc, cc', hcv⟩ : ∃ g c_, cv = .slice (some ⟨g, 0, none⟩) (p + 1) c_ := by
      obtain ⟨g, c_, e, -⟩ := Kd.S_form hF.cnt (by rw [cntL_len]; omega)
      rw [cntL_len] at e
      exact ⟨g, c_, e⟩
     subst hcv
     have HF := Lib.hid hF; clear hF
     have p9 : p ≤ 25 := by omega
     go_upto_region 14 with (first | ((with_reducible refine gate_dst (N := 95) rfl ?_); refine Kd.R_make (Kd.int .i64) (w0 := wr) wr.heap.size 2 rfl (N := 95) rfl 56 _ _ rfl (sz : Int) rfl rfl Try.underlying56 (.int .i64 0) 8 info2 rfl (by decide) (by omega) 0 (ok := fun _ => True) (okp := fun _ => True) rfl (fun _ hk => hk) trivial (by omega) (by omega) (Below.refl _ _) (Nat.le_refl _) ?_; intro nv W8 hnw hb8 hg8 hnew8))
     obtain ⟨gn, cn_, hnv⟩ : ∃ g c_, nv = .slice (some ⟨g, 0, none⟩) sz c_ := by
      obtain ⟨g, c_, e, -⟩ := Kd.R_form hnw (by simp; omega)
      exact ⟨g, c_, by rw [e]; simp⟩
     subst hnv
     have hgn : wr.heap.size ≤ gn := Kd.R_base hnw gn rfl
     have hF8 := (HF.out.rise HF.out.lM (Nat.le_refl _)).to hb8
     have hC8 := (Kd.S_reads' HF.out.cnt).2.2
     have z5 : W8.cell? ⟨F, 5, none⟩ = some (.slice (some ⟨gc, 0, none⟩) (p + 1) cc') := hF8.bf.cell rfl
     obtain ⟨b_, o_, A8, c8, e1, -, z8_, hri8, -, -⟩ := (rr_of_C hC8) p (by rw [cntL_len]; omega)
     injection e1 with e1; injection e1 with e4 e5; subst e4 e5
     have z8 := cell_to hb8 z8_
     clear z8_
     have hlen8 : rowLen (cntL cn plan bs (ts.map toS) p) p = sz := by rw [← hsz]; simp [rowLen, rowAt, cntL, List.getD_eq_getElem?_getD, fwd_len]
     have hrow8 : rowAt (cntL cn plan bs (ts.map toS) p) p = fwd (stepI cn plan bs (ts.map toS)) (ts.map toS).length sz p := by rw [← hsz]; simp [rowAt, cntL, List.getD_eq_getElem?_getD]
     rw [hlen8, Nat.zero_add] at z8
     rw [hrow8] at hri8
     have i2 : (p : Int) < (p : Int) + 1 := by omega
     have l8 := World.block_lt_of_cell? W8 _ z8
     have lF8 := World.block_lt_of_cell? W8 _ z5
     have HK8 := Lib.hid (fun k (hk : k < wr.heap.size) => hb8.block k hk)
     have HF8 := Lib.hid hF8; have HRI8 := Lib.hid hri8; have HNW := Lib.hid hnw
     clear hF8 hC8 hri8 hnw hb8 hg8 hnew8 hlen8 hrow8
     go_upto_block 4 with fail
     go_cut [104] from 92 to 148 (fun s104 wx => FW w wx N wr.heap.size F C A n c (some ⟨pb, po, none⟩) m1 c1 A2 m2 c2 (.slice (some ⟨pg, 0, none⟩) (rowLen plan 0 + 1) pc_) (.slice (some ⟨gc, 0, none⟩) (p + 1) cc') (powL cn (rowLen plan 0)) (cntL cn plan bs (ts.map toS) p) ∧ Kd.R (Kd.int .i64) 2 wx wr.heap.size (fun _ => True) (.slice (some ⟨gn, 0, none⟩) sz cn_) (fwd (stepI cn plan bs (ts.map toS)) (ts.map toS).length sz (p + 1)))
     case first =>
      as_aux_lemma =>
       obtain ⟨wo, rfl⟩ : ∃ wo : World, wo = wr := ⟨_, rfl⟩
       have hk8 : ∀ k, k < wo.heap.size → W8.heap[k]? = wo.heap[k]? := HK8.out
       go_wp2_with fail
       go_loopw [104] (fun i wr => ∃ s : Nat, s ≤ sz ∧ i = .int .i64 s ∧ FW w wr N wo.heap.size F C A n c (some ⟨pb, po, none⟩) m1 c1 A2 m2 c2 (.slice (some ⟨pg, 0, none⟩) (rowLen plan 0 + 1) pc_) (.slice (some ⟨gc, 0, none⟩) (p + 1) cc') (powL cn (rowLen plan 0)) (cntL cn plan bs (ts.map toS) p) ∧ (∀ k, k < wo.heap.size → wr.heap[k]? = wo.heap[k]?) ∧
        Kd.R (Kd.int .i64) 2 wr wo.heap.size (fun _ => True) (.slice (some ⟨gn, 0, none⟩) sz cn_) (uptoN (stepI cn plan bs (ts.map toS)) (ts.map toS).length sz p s 0)) (fun i _ => sz - (intOf i).toNat)
       case atStart => exact ⟨0, by omega, rfl, HF8.out, hk8, by have h := HNW.out; rw [Int.toNat_natCast] at h; rw [uptoN_start]; exact h⟩
       case round =>
        obtain ⟨s, hs, rfl, hFs, hks, hRs⟩ := hrel
        have HFs := Lib.hid hFs; have HKs := Lib.hid hks; have HRs := Lib.hid hRs
        clear hFs hks hRs hk8
        by_cases hlt : s < sz
        ·have i3 : (s : Int) < sz := by omega
         have hsz8 : (fwd (stepI cn plan bs (ts.map toS)) (ts.map toS).length sz p).length = sz := fwd_len _ _ _ _
         obtain ⟨rb, ro, hRA, hrb, hx⟩ := (HRI8.out.keep HKs.out HFs.out.lM) s (by rw [hsz8]; exact hlt)
         subst hRA
         have y1 : wr.cell? ⟨w.heap.size, 1, none⟩ = some (.slice A n c) := HFs.out.bs.cell rfl
         obtain ⟨x8, hx8⟩ : ∃ z : Int, z = ik (fwd (stepI cn plan bs (ts.map toS)) (ts.map toS).length sz p) s := ⟨_, rfl⟩
         rw [← hx8] at hx
         have HX8 := Lib.hid hx8
         have lb := World.block_lt_of_cell? wr _ hx
         simp only at lb
         clear hx8 hsz8
         have hst : ∀ q, Stay (stepI cn plan bs (ts.map toS)) (ts.map toS).length sz q := fun q => by rw [← hsz]; exact nx_stay false cn (rowLen plan 0) (ts.map toS) _ HCN.out w1 HCOL.out q
         have HST := Lib.hid hst
         clear hst
         go_upto_block 6 with fail
         obtain ⟨wp, rfl⟩ : ∃ w_ : World, w_ = wr := ⟨_, rfl⟩
         go_wp2_with fail
         go_loopw [112] (fun i wr => ∃ j : Nat, j ≤ n ∧ i = .int .i64 j ∧ FW w wr N wo.heap.size F C A n c (some ⟨pb, po, none⟩) m1 c1 A2 m2 c2 (.slice (some ⟨pg, 0, none⟩) (rowLen plan 0 + 1) pc_) (.slice (some ⟨gc, 0, none⟩) (p + 1) cc') (powL cn (rowLen plan 0)) (cntL cn plan bs (ts.map toS) p) ∧ (∀ k, k < wo.heap.size → wr.heap[k]? = wo.heap[k]?) ∧
          Kd.R (Kd.int .i64) 2 wr wo.heap.size (fun _ => True) (.slice (some ⟨gn, 0, none⟩) sz cn_) (uptoN (stepI cn plan bs (ts.map toS)) (ts.map toS).length sz p s j)) (fun i _ => n - (intOf i).toNat)
         case atStart => exact ⟨0, by omega, rfl, HFs.out, HKs.out, HRs.out⟩
         case round =>
          obtain ⟨j, hj, rfl, hFt, hkt, hRt⟩ := hrel
          have HFt := Lib.hid hFt; have HKt := Lib.hid hkt; have HRt := Lib.hid hRt
          clear hFt hkt hRt hx y1 lb
          by_cases hjn : j < n
          ·have i4 : (j : Int) < n := by omega
           by_cases hx0 : x8 = 0
           ·subst hx0
            go_wp2_with fail
            go_roundw
            case rel => exact ⟨s + 1, by omega, by go_num, HFt.out, HKt.out, by rw [← uptoN_dead HST.out hlt (by rw [List.length_map, ← HN.out]; exact hj) HX8.out.symm]; exact HRt.out⟩
            case measure => simp [intOf]; omega
           ·have v0 : (x8 == 0) = false := by simp [hx0]
            go_wp2_with fail
            have HJN := Lib.hid hjn
            refine (ifits_any C cn A ts n c (some ⟨pb, po, none⟩) plan m1 c1 A2 bs m2 c2 (some ⟨pg, 0, none⟩) (powL cn (rowLen plan 0)) (rowLen plan 0 + 1) pc_ F p s j _ HC.out HCN.out c6 HN.out (HA.out.below HFt.out.be) (by omega) HM1.out (HA1.out.below HFt.out.be) HM2.out (HA2.out.below HFt.out.be) (by rw [powL_len]) (ri_of_C (Kd.R_reads' HFt.out.row).2.2) HSH.out (powL_len _ _) (fun k hk => powL_at _ _ _ hk) HCOL.out (HFt.out.bf.cell rfl) (HFt.out.bf.cell rfl) (HFt.out.bf.cell rfl) (HFt.out.bf.cell rfl) (HFt.out.bf.cell rfl) ‹_› (by rw [hsz]; exact hlt) (by rw [← HN.out]; exact hjn)).mono ?_
            rintro e W9 ⟨rfl, hb9⟩
            have hF9 := HFt.out.to hb9
            have hK9 : ∀ k, k < wo.heap.size → W9.heap[k]? = wo.heap[k]? := fun k hk => (hb9.block k (by have := HFt.out.lM; omega)).trans (HKt.out k hk)
            have hR9 := Kd.R_below HRt.out hb9
            generalize hT : stepI cn plan bs (ts.map toS) p s j = o
            cases o with
            | none =>
             rw [← uptoN_none hT] at hR9
             have HF9 := Lib.hid hF9; have HK9 := Lib.hid hK9; have HR9 := Lib.hid hR9
             clear hF9 hK9 hR9 hb9 hT
             simp only [outI, someB]
             go_wp2_with fail
             go_roundw
             case rel => exact ⟨j + 1, by have := HJN.out; omega, by go_num, HF9.out, HK9.out, HR9.out⟩
             case measure => simp [intOf]; omega
            | some b =>
             have hbz : b < sz := HST.out p s j b hlt (by rw [List.length_map, ← HN.out]; exact hjn) hT
             have hbd := uptoN_bd (p := p) HST.out hlt (show j ≤ (ts.map toS).length by rw [List.length_map, ← HN.out]; exact hj) b
             have hxd := bd_fwd (stepI cn plan bs (ts.map toS)) (ts.map toS).length sz p (fun q _ => HST.out q) s
             obtain ⟨x0_, f0_⟩ := Kd.R_celln 0 hR9 (b : Int) (by omega) (by omega)
             rw [Int.toNat_natCast, rdOf_getD] at x0_
             rw [Int.toNat_natCast] at f0_
             have hput := fun z => (Kd.R_putg hR9 (b : Int) z).1
             rw [Int.toNat_natCast] at hput
             have hst := uptoN_some (n := (ts.map toS).length) (c := sz) hT
             rw [← HX8.out] at hst
             have hxe : x8 = (fwd (stepI cn plan bs (ts.map toS)) (ts.map toS).length sz p).getD s 0 := HX8.out
             rw [← hxe] at hxd
             obtain ⟨v, hv⟩ : ∃ v_ : Int, v_ = (uptoN (stepI cn plan bs (ts.map toS)) (ts.map toS).length sz p s j).getD b 0 := ⟨_, rfl⟩
             rw [← hv] at x0_ hst hbd
             have x0 : W9.cell? ⟨gn, b, none⟩ = some (.int .i64 v) := x0_
             have f0 : W9.frozen? ⟨gn, b, none⟩ = false := f0_
             have i5 : (b : Int) < sz := by omega
             have lgn := World.block_lt_of_cell? W9 _ x0
             simp only at lgn
             have HF9 := Lib.hid hF9; have HK9 := Lib.hid hK9; have HPUT := Lib.hid hput; have HST2 := Lib.hid hst
             clear hF9 hK9 hR9 hb9 hT x0_ f0_ hput hst hxe hv
             obtain ⟨bd1, bd2⟩ := hbd
             obtain ⟨bd3, bd4⟩ := hxd
             simp only [outI, someB]
             go_wp2_with fail
             have hcap : (if v + x8 < 1000000000000001 then v + x8 else 1000000000000001) = cap (v + x8) := by unfold cap; split <;> split <;> omega
             rw [hcap]
             refine ⟨⟨j + 1, by have := HJN.out; omega, by go_num, HF9.out.far hgn b _, fun k hk => (Below.heap_setCell W9 ⟨gn, b, none⟩ (.int .i64 (cap (v + x8))) k (by show k ≠ gn; omega)).trans (HK9.out k hk), by rw [HST2.out]; exact HPUT.out _⟩, by simp [intOf]; omega⟩
          ·have i4 : ¬ (j : Int) < n := by omega
           have e : j = n := by omega
           have HEQ := Lib.hid e; clear e
           go_wp2_with fail
           go_roundw
           case rel => exact ⟨s + 1, by omega, by go_num, HFt.out, HKt.out, by
            have h := HRt.out
            rw [HEQ.out, HN.out, show ts.length = (ts.map toS).length by rw [List.length_map], uptoN_all] at h
            exact h⟩
           case measure => simp [intOf]; omega
        ·have i3 : ¬ (s : Int) < sz := by omega
         have e : s = sz := by omega
         subst e
         go_wp2_with fail
         go_meet
         refine ⟨HFs.out, ?_⟩
         rw [← uptoN_end]
         exact HRs.out
     case rest =>
     obtain ⟨hF9, hR9⟩ := hcut
     have hgcM : gc < wr.heap.size := by
      have h := (Kd.S_R hF9.cnt).1 gc rfl
      exact h
     have HF9 := Lib.hid hF9; have HR9 := Lib.hid hR9
     have hNM : N ≤ wr.heap.size := hF9.lN
     clear hF9 hR9 HF8 HRI8 HNW z5 z8 l8 lF8
     have z5 : wc.cell? ⟨F, 5, none⟩ = some (.slice (some ⟨gc, 0, none⟩) (p + 1) cc') := HF9.out.bf.cell rfl
     have lF := HF9.out.bf.lt
     go_wp2_with (first | ((with_reducible refine gate_builtin (b := .append) (xs := #[.tmp 142, .tmp 144]) rfl ?_); at_builtin; refine Kd.S_append (Kd.slice 2 (Kd.int .i64)) (w0 := wc) N rfl (.tmp 142) (.tmp 144) 22 56 (.slice none 0 0) 24 rfl Try.underlying22 info56 rfl (by decide) (by omega) (.slice (some ⟨gc, 0, none⟩) (p + 1) cc') (cntL cn plan bs (ts.map toS) p) (fwd (stepI cn plan bs (ts.map toS)) (ts.map toS).length sz (p + 1)) [.slice (some ⟨gn, 0, none⟩) sz cn_] (fun _ => True) (fun k_ => some k_ = (.slice (some ⟨gn, 0, none⟩) sz cn_ : Value).ownBlock) rfl rfl ?aP ?aK ?aF ?aO ?aB ?aS ?aL ?_; (case aP => exact Kd.M_row (Kd.R_tight rfl (Kd.R_lower HR9.out hNM))); (case aK => exact fun k hk => ⟨trivial, fun e => by have e2 : k = gn := Option.some.inj hk; have e3 : k = gc := Option.some.inj e; omega⟩); (case aF => exact fun _ _ => trivial); (case aO => exact (Kd.S_mono HF9.out.cnt (fun k hk => ⟨trivial, fun e => by have e2 : k = gn := Option.some.inj e; omega⟩))); (case aB => exact Below.refl _ _); (case aS => have := HF9.out.lN; have := HF9.out.lM; omega); (case aL => first | (rw [cntL_len]; omega) | (simp; done) | (simp; omega)); intro v1 W10 ho hb hg hat; have HO := Lib.hid ho; have HBA := Lib.hid hb; have HGA := Lib.hid hg; obtain ⟨Ac, cc, hv1⟩ := Kd.S_slice ho; have z6 : W10.cell? ⟨F, 5, none⟩ = some (.slice (some ⟨gc, 0, none⟩) (p + 1) cc') := (blk_cell (blk_grown HF9.out.bf hg (Kd.S_ne HF9.out.cnt HF9.out.bf (by decide))) 5).trans rfl; have f6 : W10.frozen? ⟨F, 5, none⟩ = false := blk_frozen (blk_grown HF9.out.bf hg (Kd.S_ne HF9.out.cnt HF9.out.bf (by decide))) 5; clear ho hb hg hat z5; subst hv1))
     have hF10 : FW w (W10.setCell ⟨F, 5, none⟩ (.slice Ac ((cntL cn plan bs (ts.map toS) p).length + 1) cc)) N W10.heap.size F C A n c (some ⟨pb, po, none⟩) m1 c1 A2 m2 c2 (.slice (some ⟨pg, 0, none⟩) (rowLen plan 0 + 1) pc_) (.slice Ac ((cntL cn plan bs (ts.map toS) p).length + 1) cc) (powL cn (rowLen plan 0)) (cntL cn plan bs (ts.map toS) (p + 1)) := by
      have h := HF9.out.app HBA.out HO.out HGA.out
      rw [cntL_succ, hsz]
      have e : (cntL cn plan bs (ts.map toS) p ++ [fwd (stepI cn plan bs (ts.map toS)) (ts.map toS).length sz (p + 1)]).length = (cntL cn plan bs (ts.map toS) p).length + 1 := by simp
      rw [e] at h
      exact h
     go_roundw
     case rel => exact ⟨p + 1, by omega, by go_num, _, _, hF10⟩
     case measure => simp [intOf]; omega
    ·have i1 : ¬ (p : Int) < places plan := by omega
     have e : p = places plan := by omega
     subst e
     have HF := Lib.hid hF; clear hF
     go_wp2_with fail
     go_meet
     exact ⟨_, _, HF.out⟩
 case rest =>
 have HA_ := HA
 obtain ⟨cv, M, hF⟩ := hcut
 clear HF7
 obtain ⟨gc, cc', hcv⟩ : ∃ g c_, cv = .slice (some ⟨g, 0, none⟩) (places plan + 1) c_ := by
  obtain ⟨g, c_, e, -⟩ := Kd.S_form hF.cnt (by rw [cntL_len]; omega)
  rw [cntL_len] at e
  exact ⟨g, c_, e⟩
 subst hcv
 have HF := Lib.hid hF; clear hF
 have hst : ∀ q, Stay (stepI cn plan bs (ts.map toS)) (ts.map toS).length sz q := fun q => by rw [← hsz]; exact nx_stay false cn (rowLen plan 0) (ts.map toS) _ HCN.out w1 HCOL.out q
 have HST := Lib.hid hst
 clear hst
 go_wp2_with fail
 refine (size_any (some ⟨pb, po, none⟩) plan m1 c1 F wc HM1.out (HA1.out.below HF.out.be) h1 h5 w5 (HF.out.bf.cell rfl)).mono ?_
 rintro e W20 ⟨rfl, hb20⟩
 have hF20 := HF.out.to hb20
 have HF20 := Lib.hid hF20; clear hF20 hb20 HF
 have i20 : (places plan : Int) ≤ 25 := by omega
 go_upto_region 29 with (first | ((with_reducible refine gate_dst (N := 153) rfl ?_); refine Kd.S_make (Kd.slice 4 Kd.bool) (w0 := W20) W20.heap.size 62 rfl (N := 153) rfl 63 _ _ rfl ((places plan : Int) + 1) ?hx ?hy Try.underlying63 (.slice none 0 0) 24 infoBools rfl (by decide) (by omega) [] (ok := fun _ => True) (okp := fun _ => True) ⟨_, rfl, Kd.R_nil _ _ _ _ _⟩ (fun _ hk => hk) trivial (by omega) (by omega) (Below.refl _ _) (Nat.le_refl _) ?_; (case hx => first | rfl | (go_simp; done) | (go_simp; rfl)); (case hy => first | rfl | (go_simp; done) | (go_simp; rfl)); intro nv W21 hnw21 hb21 hg21 hnew21; (have hF21 := HF20.out.to hb21); (have z6 : W21.cell? ⟨F, 6, none⟩ = some (.slice none 0 0) := hF21.bf.cell rfl); (have f6 : W21.frozen? ⟨F, 6, none⟩ = false := hF21.bf.frozen 6); (have l6 := hF21.bf.lt); clear hF21; obtain ⟨ga, ca, hnv⟩ := rep_form hnw21 (m := places plan + 1) (by omega) (by omega); subst hnv))
 have hA22 := AW.start HF20.out hb21 hnw21
 rw [show ((places plan : Int) + 1).toNat = places plan + 1 by omega, ← alvL_top (stepI cn plan bs (ts.map toS)) (ts.map toS).length sz (places plan)] at hA22
 generalize W21.setCell ⟨F, 6, none⟩ (.slice (some ⟨ga, 0, none⟩) (places plan + 1) ca) = W22 at hA22 ⊢
 obtain ⟨M2, hM2⟩ : ∃ M_, M_ = W20.heap.size := ⟨_, rfl⟩
 rw [← hM2] at hA22
 have HA22 := Lib.hid hA22
 clear hA22 hM2 hnw21 hb21 hg21 hnew21 z6 f6 l6 HF20
 go_wp2_with fail
 refine (size_any (some ⟨pb, po, none⟩) plan m1 c1 F W22 HM1.out (HA1.out.below HA22.out.be) h1 h5 w5 (HA22.out.bf.cell rfl)).mono ?_
 rintro e W23 ⟨rfl, hb23⟩
 have hA23 := HA22.out.to hb23
 have HA23 := Lib.hid hA23; clear hA23 hb23 HA22
 go_upto_block 8 with fail
 go_wp2_with fail
 go_loopw [17] (fun i wr => ∃ (k : Nat) (z : Int), k ≤ places plan + 1 ∧ i = .int .i64 z ∧ z = (k : Int) - 1 ∧ AW w wr N M2 F C A n c (some ⟨pb, po, none⟩) m1 c1 A2 m2 c2 (.slice (some ⟨pg, 0, none⟩) (rowLen plan 0 + 1) pc_) (.slice (some ⟨gc, 0, none⟩) (places plan + 1) cc') (powL cn (rowLen plan 0)) (cntL cn plan bs (ts.map toS) (places plan)) ga (places plan + 1) ca (alvL (stepI cn plan bs (ts.map toS)) (ts.map toS).length sz (places plan) k)) (fun i _ => (intOf i + 1).toNat)
 case atStart => exact ⟨places plan + 1, _, by omega, rfl, by omega, HA23.out⟩
 case round =>
  as_aux_lemma =>
   obtain ⟨k, z, hk, rfl, hz, hA⟩ := hrel
   rcases k with _ | p
   ·have i9 : ¬ z ≥ 0 := by omega
    have HZ := Lib.hid hz; clear hz
    have HA9 := Lib.hid hA; clear hA
    go_wp2_with fail
    go_ret
    refine ⟨F, rfl, HA9.out.be, HA9.out.gF, ?_⟩
    have h := HA9.out
    refine ⟨(some ⟨pg, 0, none⟩), pc_, gc, cc', ga, ca, ⟨h.bf.cell rfl, h.bf.cell rfl, h.bf.cell rfl, h.bf.cell rfl⟩, h.bf.cell rfl, h.bf.cell rfl, h.bf.cell rfl, ri_of_C (Kd.R_reads' h.row).2.2, rr_of_C (Kd.S_reads' h.cnt).2.2, ?_⟩
    rw [hsz]
    have h2 := h.alv
    have h3 := h.len
    rw [h3] at h2
    exact rb_of_S h2
   ·
    as_aux_lemma =>
     obtain rfl : z = (p : Int) := by omega
     have hp : p ≤ places plan := by omega
     have i1 : (0 : Int) ≤ (p : Int) := by omega
     have i2 : (p : Int) < ((places plan + 1 : Nat) : Int) := by omega
     have i3 : p < places plan + 1 := by omega
     have i4 : (p : Int) < (places plan : Int) + 1 := by omega
     obtain ⟨u0, z6, zp, fp, lg⟩ := hA.head i3
     clear hz
     go_upto_region 32 with fail
     have hD := (Below.refl wr.heap.size wr).drew
     refine start_ (n := 9) (S := fun w' => w'.cell? ⟨F, 6, none⟩ = some (.slice (some ⟨ga, 0, none⟩) (places plan + 1) ca)) (ds := [8]) #[f_,f_,f_,f_,f_,f_,f_,f_,f_] (by kernel_rfl) rfl rfl (cell_to hD z6) (fun hHeld => ?_)
     refine with_tabW newf_tab32 newf_bits32 (fun HT_ HW_ => ?_)
     replace hA := hA.to hD
     generalize wr.drew = wd at hD hA hHeld ⊢
     refine p_ 0 162 ?_ #[t_,f_,f_,f_,f_,f_,f_,f_,f_] rfl rfl HT_.out (by kernel_rfl) (fun _ _ _ h => h) (.inl ⟨by rfl, ?_⟩) ?_ ?_ ?_
     rotate_left
     ·intro w'
      go_simp
      with_reducible rfl
     rotate_left
     ·simp only [Q_]
      rfl
     refine p_ 1 163 ?_ #[t_,t_,f_,f_,f_,f_,f_,f_,f_] rfl rfl HT_.out (by kernel_rfl) (fun _ _ _ h => h) (.inl ⟨by rfl, ?_⟩) ?_ ?_ ?_
     rotate_left
     ·intro w'
      go_simp
      with_reducible rfl
     rotate_left
     ·simp only [Q_]
      rfl
     refine p_ 2 164 ?_ #[t_,t_,t_,f_,f_,f_,f_,f_,f_] rfl rfl HT_.out (by kernel_rfl) (fun _ _ _ h => h) (.inl ⟨by rfl, ?_⟩) ?_ ?_ ?_
     rotate_left
     ·intro w'
      go_simp
      with_reducible rfl
     rotate_left
     ·simp only [Q_]
      rfl
     refine p_ 4 166 ?_ #[t_,t_,t_,f_,t_,f_,f_,f_,f_] rfl rfl HT_.out (by kernel_rfl) (fun _ _ _ h => h) (.inl ⟨by rfl, ?_⟩) ?_ ?_ ?_
     rotate_left
     ·intro w'
      go_simp
      with_reducible rfl
     rotate_left
     ·simp only [Q_]
      rfl
     refine p_ 5 167 ?_ #[t_,t_,t_,f_,t_,t_,f_,f_,f_] rfl rfl HT_.out (by kernel_rfl) (fun _ _ _ h => h) (.inl ⟨by rfl, ?_⟩) ?_ ?_ ?_
     rotate_left
     ·intro w'
      go_simp
      with_reducible rfl
     rotate_left
     ·simp only [Q_]
      rfl
     refine tk_ 3 165 ?_ #[t_,t_,t_,t_,t_,t_,f_,f_,f_] rfl rfl (take_ofW HT_.out HW_.out (by kernel_rfl)) (fun _ _ _ h => h) (.inl ⟨by rfl, ?_⟩) hHeld ?_ ?_ ?_
     rotate_left
     ·intro w' s0
      go_simp
      with_reducible rfl
     rotate_left
     ·simp only [Q_]
      rfl
     refine one_ (i := 6) (N := some 168) #[t_,t_,t_,t_,t_,t_,t_,f_,f_] rfl rfl (one_of HT_.out (by kernel_rfl)) (by decide) (fun K hK => ?_)
     refine Kd.R_make_step Kd.bool (w0 := wd) wd.heap.size 4 (by rfl) (N := 168) rfl 62 (.tmp 167) (.tmp 167) rfl (sz : Int) rfl rfl Try.underlying62 (.bool false) 1 infoBool rfl (by decide) (by omega) false (ok := fun _ => True) (okp := fun _ => True) rfl (fun _ hk => hk) trivial (by omega) (by omega) (Below.refl _ _) (Nat.le_refl _) ?_
     intro nv w168 hnw hb hg hnew
     rw [Int.toNat_natCast] at hnw
     obtain ⟨gr, cr, hnv⟩ := repR_form hnw rfl hs0
     subst hnv
     obtain ⟨u1, -, zz, fz, lz⟩ := (hA.to hb).head i3
     refine hK.out _ _ (cell_to hb hHeld) (fun hHeld => ?_)
     clear hK K
     refine norm_ (a' := ?_) ?_ ?_
     rotate_left
     ·show Act.put _ (some 168) _ = _
      simp only [Q_]
      rfl
     refine p_ 7 169 ?_ #[t_,t_,t_,t_,t_,t_,t_,t_,f_] rfl rfl HT_.out (by kernel_rfl) (fun _ _ _ h => h) (.inl ⟨by rfl, ?_⟩) ?_ ?_ ?_
     rotate_left
     ·intro w'
      go_simp
      with_reducible rfl
     rotate_left
     ·simp only [Q_]
      rfl
     refine last_ (i := 8) (N := none) #[t_,t_,t_,t_,t_,t_,t_,t_,t_] rfl rfl (one_of HT_.out (by kernel_rfl)) (by decide) (fun K hK => ?_)
     refine skip_ (w1 := ?_) (by rfl) rfl ?_ ?_
     rotate_left
     ·go_simp
      rfl
     refine hK.out _ _ ?_
     clear hK K
     refine done_ (done_of HT_.out (by kernel_rfl)) ?_
     have hA3 := hA.put hb hnw i3
     rw [← alvTo_zero (stepI cn plan bs (ts.map toS)) (ts.map toS).length sz (places plan) p] at hA3
     generalize w168.setCell ⟨ga, p, none⟩ (.slice (some ⟨gr, 0, none⟩) sz cr) = W30 at hA3 ⊢
     have HA3 := Lib.hid hA3
     clear hA3 hA hb hnw hg hnew zp fp lg z6 hD u0
     try clear hHeld
     try clear fz zz lz
     have hC8 := (Kd.S_reads' HA3.out.cnt).2.2
     have z5 : W30.cell? ⟨F, 5, none⟩ = some (.slice (some ⟨gc, 0, none⟩) (places plan + 1) cc') := HA3.out.bf.cell rfl
     obtain ⟨b_, o_, A8, c8, e1, -, z8, hri8, -, -⟩ := (rr_of_C hC8) p (by rw [cntL_len]; omega)
     injection e1 with e1; injection e1 with e4 e5; subst e4 e5
     have hlen8 : rowLen (cntL cn plan bs (ts.map toS) (places plan)) p = sz := by rw [← hsz]; simp [rowLen, rowAt, cntL, List.getD_eq_getElem?_getD, List.getElem?_range i3, fwd_len]
     have hrow8 : rowAt (cntL cn plan bs (ts.map toS) (places plan)) p = fwd (stepI cn plan bs (ts.map toS)) (ts.map toS).length sz p := by rw [← hsz]; simp [rowAt, cntL, List.getD_eq_getElem?_getD, List.getElem?_range i3]
     rw [hlen8, Nat.zero_add] at z8
     rw [hrow8] at hri8
     have l8 := World.block_lt_of_cell? W30 _ z8
     have lF8 := World.block_lt_of_cell? W30 _ z5
     simp only at l8 lF8
     have HRI8 := Lib.hid hri8
     have HK0 := Lib.hid (show M2 ≤ W30.heap.size from HA3.out.lM)
     clear hC8 hri8 hlen8 hrow8
     go_upto_block 10 with fail
     obtain ⟨wq, rfl⟩ : ∃ w_ : World, w_ = W30 := ⟨_, rfl⟩
     go_wp2_with fail
     go_loopw [178] (fun i wr => ∃ s : Nat, s ≤ sz ∧ i = .int .i64 s ∧ AW w wr N M2 F C A n c (some ⟨pb, po, none⟩) m1 c1 A2 m2 c2 (.slice (some ⟨pg, 0, none⟩) (rowLen plan 0 + 1) pc_) (.slice (some ⟨gc, 0, none⟩) (places plan + 1) cc') (powL cn (rowLen plan 0)) (cntL cn plan bs (ts.map toS) (places plan)) ga (places plan + 1) ca ((alvL (stepI cn plan bs (ts.map toS)) (ts.map toS).length sz (places plan) (p + 1)).set p (alvTo (stepI cn plan bs (ts.map toS)) (ts.map toS).length sz (places plan) p s)) ∧ ∀ k, k < M2 → wr.heap[k]? = wq.heap[k]?) (fun i _ => sz - (intOf i).toNat)
     case atStart => exact ⟨0, by omega, rfl, HA3.out, fun k hk => rfl⟩
     case round =>
      as_aux_lemma =>
       obtain ⟨s, hs, rfl, hA, hK⟩ := hrel
       have HA := Lib.hid hA; have HK := Lib.hid hK; clear hA hK
       by_cases hlt : s < sz
       ·have i5 : (s : Int) < sz := by omega
        have hsz8 : (fwd (stepI cn plan bs (ts.map toS)) (ts.map toS).length sz p).length = sz := fwd_len _ _ _ _
        obtain ⟨b_, o_, A9, c9_, e1, -, z9_, hri9, -, -⟩ := (rr_of_C (Kd.S_reads' HA.out.cnt).2.2) p (by rw [cntL_len]; omega)
        injection e1 with e1; injection e1 with e4 e5; subst e4 e5
        rw [Nat.zero_add, HA3.out.same HK.out, z8] at z9_
        injection z9_ with z9_; injection z9_ with z9_ e2_ e3_; subst z9_; clear e2_ e3_
        have hrow9 : rowAt (cntL cn plan bs (ts.map toS) (places plan)) p = fwd (stepI cn plan bs (ts.map toS)) (ts.map toS).length sz p := by rw [← hsz]; simp [rowAt, cntL, List.getD_eq_getElem?_getD, List.getElem?_range i3]
        rw [hrow9] at hri9
        obtain ⟨rb, ro, hRA, hrb, hx⟩ := hri9 s (by rw [hsz8]; exact hlt)
        subst hRA
        obtain ⟨x8, hx8⟩ : ∃ z : Int, z = ik (fwd (stepI cn plan bs (ts.map toS)) (ts.map toS).length sz p) s := ⟨_, rfl⟩
        rw [← hx8] at hx
        have HX8 := Lib.hid hx8
        clear hx8 hsz8 hri9 hrow9
        have HLT := Lib.hid hlt
        by_cases hx0 : x8 = 0
        ·subst hx0
         go_wp2_with fail
         go_roundw
         case rel => exact ⟨s + 1, by omega, by go_num, by rw [← alvTo_dead _ _ _ _ _ _ HX8.out.symm]; exact HA.out, HK.out⟩
         case measure => simp [intOf]; omega
        ·
         as_aux_lemma =>
          have v0 : (x8 == 0) = false := by simp [hx0]
          have hrow : ((alvL (stepI cn plan bs (ts.map toS)) (ts.map toS).length sz (places plan) (p + 1)).set p (alvTo (stepI cn plan bs (ts.map toS)) (ts.map toS).length sz (places plan) p s)).getD p [] = alvTo (stepI cn plan bs (ts.map toS)) (ts.map toS).length sz (places plan) p s := gset (by rw [alvL_len]; exact i3)
          obtain ⟨gr, cr, z6, zp, -, -, -, -, -, -⟩ := HA.out.cell i3 (j := s) (by rw [hrow, alvTo_len]; exact hlt)
          rw [hrow, alvTo_len] at zp
          have hA := HA.out
          go_upto_region 37 with fail
          have hD := (Below.refl wr.heap.size wr).drew
          refine start_ (n := 14) (S := fun w' => w'.cell? ⟨F, 6, none⟩ = some (.slice (some ⟨ga, 0, none⟩) (places plan + 1) ca) ∧ w'.cell? ⟨ga, p, none⟩ = some (.slice (some ⟨gr, 0, none⟩) sz cr)) (ds := [13]) #[f_,f_,f_,f_,f_,f_,f_,f_,f_,f_,f_,f_,f_,f_] (by kernel_rfl) rfl rfl ⟨cell_to hD z6, cell_to hD zp⟩ (fun hHeld => ?_)
          refine with_tabW newf_tab37 newf_bits37 (fun HT_ HW_ => ?_)
          replace hA := hA.to hD
          generalize wr.drew = wd at hD hA hHeld ⊢
          refine p_ 0 185 ?_ #[t_,f_,f_,f_,f_,f_,f_,f_,f_,f_,f_,f_,f_,f_] rfl rfl HT_.out (by kernel_rfl) (fun _ _ _ h => h) (.inl ⟨by rfl, ?_⟩) ?_ ?_ ?_
          rotate_left
          ·intro w'
           go_simp
           with_reducible rfl
          rotate_left
          ·simp only [Q_]
           rfl
          refine p_ 1 186 ?_ #[t_,t_,f_,f_,f_,f_,f_,f_,f_,f_,f_,f_,f_,f_] rfl rfl HT_.out (by kernel_rfl) (fun _ _ _ h => h) (.inl ⟨by rfl, ?_⟩) ?_ ?_ ?_
          rotate_left
          ·intro w'
           go_simp
           with_reducible rfl
          rotate_left
          ·simp only [Q_]
           rfl
          refine p_ 2 187 ?_ #[t_,t_,t_,f_,f_,f_,f_,f_,f_,f_,f_,f_,f_,f_] rfl rfl HT_.out (by kernel_rfl) (fun _ _ _ h => h) (.inl ⟨by rfl, ?_⟩) ?_ ?_ ?_
          rotate_left
          ·intro w'
           go_simp
           with_reducible rfl
          rotate_left
          ·simp only [Q_]
           rfl
          refine p_ 4 189 ?_ #[t_,t_,t_,f_,t_,f_,f_,f_,f_,f_,f_,f_,f_,f_] rfl rfl HT_.out (by kernel_rfl) (fun _ _ _ h => h) (.inl ⟨by rfl, ?_⟩) ?_ ?_ ?_
          rotate_left
          ·intro w'
           go_simp
           with_reducible rfl
          rotate_left
          ·simp only [Q_]
           rfl
          refine p_ 7 192 ?_ #[t_,t_,t_,f_,t_,f_,f_,t_,f_,f_,f_,f_,f_,f_] rfl rfl HT_.out (by kernel_rfl) (fun _ _ _ h => h) (.inl ⟨by rfl, ?_⟩) ?_ ?_ ?_
          rotate_left
          ·intro w'
           go_simp
           with_reducible rfl
          rotate_left
          ·simp only [Q_]
           rfl
          refine p_ 8 193 ?_ #[t_,t_,t_,f_,t_,f_,f_,t_,t_,f_,f_,f_,f_,f_] rfl rfl HT_.out (by kernel_rfl) (fun _ _ _ h => h) (.inl ⟨by rfl, ?_⟩) ?_ ?_ ?_
          rotate_left
          ·intro w'
           go_simp
           with_reducible rfl
          rotate_left
          ·simp only [Q_]
           rfl
          refine p_ 9 194 ?_ #[t_,t_,t_,f_,t_,f_,f_,t_,t_,t_,f_,f_,f_,f_] rfl rfl HT_.out (by kernel_rfl) (fun _ _ _ h => h) (.inl ⟨by rfl, ?_⟩) ?_ ?_ ?_
          rotate_left
          ·intro w'
           go_simp
           with_reducible rfl
          rotate_left
          ·simp only [Q_]
           rfl
          refine tk_ 3 188 ?_ #[t_,t_,t_,t_,t_,f_,f_,t_,t_,t_,f_,f_,f_,f_] rfl rfl (take_ofW HT_.out HW_.out (by kernel_rfl)) (fun _ _ _ h => h) (.inl ⟨by rfl, ?_⟩) hHeld ?_ ?_ ?_
          rotate_left
          ·rintro w' ⟨s0, s1⟩
           go_simp
           with_reducible rfl
          rotate_left
          ·simp only [Q_]
           rfl
          refine p_ 5 190 ?_ #[t_,t_,t_,t_,t_,t_,f_,t_,t_,t_,f_,f_,f_,f_] rfl rfl HT_.out (by kernel_rfl) (fun _ _ _ h => h) (.inl ⟨by rfl, ?_⟩) ?_ ?_ ?_
          rotate_left
          ·intro w'
           go_simp
           with_reducible rfl
          rotate_left
          ·simp only [Q_]
           rfl
          refine tk_ 6 191 ?_ #[t_,t_,t_,t_,t_,t_,t_,t_,t_,t_,f_,f_,f_,f_] rfl rfl (take_ofW HT_.out HW_.out (by kernel_rfl)) (fun _ _ _ h => h) (.inl ⟨by rfl, ?_⟩) hHeld ?_ ?_ ?_
          rotate_left
          ·rintro w' ⟨s0, s1⟩
           go_simp
           with_reducible rfl
          rotate_left
          ·simp only [Q_]
           rfl
          refine one_ (i := 10) (N := some 195) #[t_,t_,t_,t_,t_,t_,t_,t_,t_,t_,t_,f_,f_,f_] rfl rfl (one_of HT_.out (by kernel_rfl)) (by decide) (fun K hK => ?_)
          refine goes_ Try.func74 (by kernel_rfl) rfl #[.pointer (some ⟨F, 0, none⟩)] (by rfl) rfl rfl (by simp only [q4_, q5_, q6_]; rfl) ?_
          with_reducible refine (size_any (some ⟨pb, po, none⟩) plan m1 c1 F wd HM1.out (HA1.out.below hA.be) h1 h5 w5 (hA.bf.cell rfl)).mono ?_
          rintro e w195 ⟨rfl, hbs⟩
          refine ⟨_, rfl, ?_⟩
          obtain ⟨hgr, fz, zz, lz, hput⟩ := (hA.to hbs).frozen i3 (by rw [hrow, alvTo_len]; exact HLT.out) (cell_to hbs hHeld.2)
          have hK4 : ∀ k, k < M2 → (w195.setCell ⟨gr, s, none⟩ (.bool ((p : Int) == ((places plan : Nat) : Int)))).heap[k]? = wq.heap[k]? := fun k hk => (Below.heap_setCell w195 ⟨gr, s, none⟩ _ k (by show k ≠ gr; omega)).trans ((hbs.block k (by have := hA.lM; omega)).trans ((hD.block k (by have := HA.out.lM; omega)).trans (HK.out k hk)))
          refine hK.out _ _ ⟨cell_to hbs hHeld.1, cell_to hbs hHeld.2⟩ (fun hHeld => ?_)
          clear hK K
          refine norm_ (a' := ?_) ?_ ?_
          rotate_left
          ·show Act.put _ (some 195) _ = _
           simp only [Q_]
           rfl
          refine p_ 11 196 ?_ #[t_,t_,t_,t_,t_,t_,t_,t_,t_,t_,t_,t_,f_,f_] rfl rfl HT_.out (by kernel_rfl) (fun _ _ _ h => h) (.inl ⟨by rfl, ?_⟩) ?_ ?_ ?_
          rotate_left
          ·intro w'
           go_simp
           with_reducible rfl
          rotate_left
          ·simp only [Q_]
           rfl
          refine p_ 12 197 ?_ #[t_,t_,t_,t_,t_,t_,t_,t_,t_,t_,t_,t_,t_,f_] rfl rfl HT_.out (by kernel_rfl) (fun _ _ _ h => h) (.inl ⟨by rfl, ?_⟩) ?_ ?_ ?_
          rotate_left
          ·intro w'
           go_simp
           with_reducible rfl
          rotate_left
          ·simp only [Q_]
           rfl
          refine last_ (i := 13) (N := none) #[t_,t_,t_,t_,t_,t_,t_,t_,t_,t_,t_,t_,t_,t_] rfl rfl (one_of HT_.out (by kernel_rfl)) (by decide) (fun K hK => ?_)
          refine skip_ (w1 := ?_) (by rfl) rfl ?_ ?_
          rotate_left
          ·go_simp
           rfl
          refine hK.out _ _ ?_
          clear hK K
          refine done_ (done_of HT_.out (by kernel_rfl)) ?_
          have hA4 := hput ((p : Int) == ((places plan : Nat) : Int))
          rw [hrow, List.set_set] at hA4
          generalize hbq : ((p : Int) == ((places plan : Nat) : Int)) = bq at hA4 hK4 ⊢
          have hq : bq = nowT (stepI cn plan bs (ts.map toS)) (ts.map toS).length sz (places plan) p s 0 := by rw [nowT_zero, ← hbq]; exact (Bool.eq_iff_iff.2 (by rw [beq_iff_eq, decide_eq_true_eq]; omega))
          clear hbq
          generalize w195.setCell ⟨gr, s, none⟩ (.bool bq) = W31 at hA4 hK4 ⊢
          rw [hq] at hA4
          clear hq
          have HA4 := Lib.hid hA4; have HK4 := Lib.hid hK4
          have y1 : W31.cell? ⟨w.heap.size, 1, none⟩ = some (.slice A n c) := hA4.bs.cell rfl
          have ly := hA4.bs.lt
          clear hA4 hK4 hD hA hput hrow
          try clear hHeld
          try clear fz zz lz hbs
          clear zp z6 hx hrb HA HK
          obtain ⟨wt, rfl⟩ : ∃ w_ : World, w_ = W31 := ⟨_, rfl⟩
          go_upto_block 12 with fail
          go_wp2_with fail
          go_loopw [201] (fun i wr => ∃ j : Nat, j ≤ n ∧ i = .int .i64 j ∧ AW w wr N M2 F C A n c (some ⟨pb, po, none⟩) m1 c1 A2 m2 c2 (.slice (some ⟨pg, 0, none⟩) (rowLen plan 0 + 1) pc_) (.slice (some ⟨gc, 0, none⟩) (places plan + 1) cc') (powL cn (rowLen plan 0)) (cntL cn plan bs (ts.map toS) (places plan)) ga (places plan + 1) ca ((alvL (stepI cn plan bs (ts.map toS)) (ts.map toS).length sz (places plan) (p + 1)).set p ((alvTo (stepI cn plan bs (ts.map toS)) (ts.map toS).length sz (places plan) p s).set s (nowT (stepI cn plan bs (ts.map toS)) (ts.map toS).length sz (places plan) p s j))) ∧ ∀ k, k < M2 → wr.heap[k]? = wq.heap[k]?) (fun i _ => n - (intOf i).toNat)
          case atStart => exact ⟨0, by omega, rfl, HA4.out, HK4.out⟩
          case round =>
           as_aux_lemma =>
            obtain ⟨j, hj, rfl, hA, hK⟩ := hrel
            have HA := Lib.hid hA; have HK := Lib.hid hK
            clear hA hK y1 ly
            have HJ := Lib.hid (show j ≤ (ts.map toS).length by rw [List.length_map, ← HN.out]; exact hj)
            have HX0 := Lib.hid (show ik (fwd (stepI cn plan bs (ts.map toS)) (ts.map toS).length sz p) s ≠ 0 by rw [← HX8.out]; exact hx0)
            have HP := Lib.hid hp
            by_cases hjn : j < n
            ·have i6 : (j : Int) < n := by omega
             have HJN := Lib.hid hjn
             by_cases hpP : p = places plan
             ·have hA0 := HA.out
              rw [alv_done HST.out HLT.out HP.out HX0.out HJ.out (.inl (nowT_top _ _ _ _ _ _ _ hpP))] at hA0
              have HA0 := Lib.hid hA0
              clear hA0 HA
              subst hpP
              go_wp2_with fail
              refine (size_any (some ⟨pb, po, none⟩) plan m1 c1 F wr HM1.out (HA1.out.below HA0.out.be) h1 h5 w5 (HA0.out.bf.cell rfl)).mono ?_
              rintro e W41 ⟨rfl, hb41⟩
              have hA41 := HA0.out.to hb41
              have hK41 : ∀ k, k < M2 → W41.heap[k]? = wq.heap[k]? := fun k hk => (hb41.block k (by have := HA0.out.lM; omega)).trans (HK.out k hk)
              have HA41 := Lib.hid hA41; have HK41 := Lib.hid hK41
              clear hA41 hK41 hb41
              go_wp2_with fail
              go_roundw
              case rel => exact ⟨s + 1, by have := HLT.out; omega, by go_num, HA41.out, HK41.out⟩
              case measure => simp [intOf]; have := HLT.out; omega
             ·
              as_aux_lemma =>
               have hpl2 : p < places plan := by omega
               have vP : ((p : Int) == ((places plan : Nat) : Int)) = false := by simp; omega
               go_wp2_with fail
               refine (size_any (some ⟨pb, po, none⟩) plan m1 c1 F wr HM1.out (HA1.out.below HA.out.be) h1 h5 w5 (HA.out.bf.cell rfl)).mono ?_
               rintro e W41 ⟨rfl, hb41⟩
               have hA41 := HA.out.to hb41
               have hK41 : ∀ k, k < M2 → W41.heap[k]? = wq.heap[k]? := fun k hk => (hb41.block k (by have := HA.out.lM; omega)).trans (HK.out k hk)
               have hrow : ((alvL (stepI cn plan bs (ts.map toS)) (ts.map toS).length sz (places plan) (p + 1)).set p ((alvTo (stepI cn plan bs (ts.map toS)) (ts.map toS).length sz (places plan) p s).set s (nowT (stepI cn plan bs (ts.map toS)) (ts.map toS).length sz (places plan) p s j))).getD p [] = (alvTo (stepI cn plan bs (ts.map toS)) (ts.map toS).length sz (places plan) p s).set s (nowT (stepI cn plan bs (ts.map toS)) (ts.map toS).length sz (places plan) p s j) := gset (by rw [alvL_len]; exact i3)
               obtain ⟨gr', cr', z6, zp, zs, -, lF, lga, lgr, -⟩ := hA41.cell i3 (j := s) (by rw [hrow, List.length_set, alvTo_len]; exact HLT.out)
               rw [hrow, List.length_set, alvTo_len] at zp
               rw [hrow, bget (by rw [alvTo_len]; exact HLT.out)] at zs
               have HROW := Lib.hid hrow
               clear hrow
               cases hv : (nowT (stepI cn plan bs (ts.map toS)) (ts.map toS).length sz (places plan) p s j) with
               | true =>
                as_aux_lemma =>
                 rw [hv] at zs
                 rw [alv_done HST.out HLT.out HP.out HX0.out HJ.out (.inl hv)] at hA41
                 have HA41 := Lib.hid hA41; have HK41 := Lib.hid hK41
                 clear hA41 hK41 hb41 hv HROW
                 go_wp2_with fail
                 go_roundw
                 case rel => exact ⟨s + 1, by have := HLT.out; omega, by go_num, HA41.out, HK41.out⟩
                 case measure => simp [intOf]; have := HLT.out; omega
               | false =>
                as_aux_lemma =>
                 rw [hv] at zs
                 have HA41 := Lib.hid hA41; have HK41 := Lib.hid hK41; have HV := Lib.hid hv
                 clear hA41 hK41 hb41 hv
                 go_wp2_with fail
                 refine (ifits_any C cn A ts n c (some ⟨pb, po, none⟩) plan m1 c1 A2 bs m2 c2 (some ⟨pg, 0, none⟩) (powL cn (rowLen plan 0)) (rowLen plan 0 + 1) pc_ F p s j W41 HC.out HCN.out c6 HN.out (HA_.out.below HA41.out.be) (by omega) HM1.out (HA1.out.below HA41.out.be) HM2.out (HA2.out.below HA41.out.be) (by rw [powL_len]) (ri_of_C (Kd.R_reads' HA41.out.row).2.2) HSH.out (powL_len _ _) (fun k hk => powL_at _ _ _ hk) HCOL.out (HA41.out.bf.cell rfl) (HA41.out.bf.cell rfl) (HA41.out.bf.cell rfl) (HA41.out.bf.cell rfl) (HA41.out.bf.cell rfl) hpl2 (by rw [hsz]; exact HLT.out) (by rw [← HN.out]; exact hjn)).mono ?_
                 rintro e W42 ⟨rfl, hb42⟩
                 have hA := HA41.out.to hb42
                 have hK42 : ∀ k, k < M2 → W42.heap[k]? = wq.heap[k]? := fun k hk => (hb42.block k (by have := HA41.out.lM; omega)).trans (HK41.out k hk)
                 replace z6 := cell_to hb42 z6; replace zp := cell_to hb42 zp
                 have HK42 := Lib.hid hK42
                 clear hK42 hb42 zs lF lga lgr HA41 HK41
                 generalize hT : stepI cn plan bs (ts.map toS) p s j = o
                 cases o with
                 | none =>
                  as_aux_lemma =>
                   have HT3 := Lib.hid hT; clear hT
                   simp only [outI, someB]
                   go_upto_region 43 with fail
                   have hD := (Below.refl W42.heap.size W42).drew
                   refine start_ (n := 24) (S := fun w' => w'.cell? ⟨F, 6, none⟩ = some (.slice (some ⟨ga, 0, none⟩) (places plan + 1) ca) ∧ w'.cell? ⟨ga, p, none⟩ = some (.slice (some ⟨gr', 0, none⟩) sz cr')) (ds := [23]) #[f_,f_,f_,f_,f_,f_,f_,f_,f_,f_,f_,f_,f_,f_,f_,f_,f_,f_,f_,f_,f_,f_,f_,f_] (by kernel_rfl) rfl rfl ⟨cell_to hD z6, cell_to hD zp⟩ (fun hHeld => ?_)
                   refine with_tabW newf_tab43 newf_bits43 (fun HT_ HW_ => ?_)
                   have HM42 := Lib.hid hA.lM
                   replace hA := hA.to hD
                   generalize W42.drew = wd at hD hA hHeld ⊢
                   refine p_ 0 228 ?_ #[t_,f_,f_,f_,f_,f_,f_,f_,f_,f_,f_,f_,f_,f_,f_,f_,f_,f_,f_,f_,f_,f_,f_,f_] rfl rfl HT_.out (by kernel_rfl) (fun _ _ _ h => h) (.inl ⟨by rfl, ?_⟩) ?_ ?_ ?_
                   rotate_left
                   ·intro w'
                    go_simp
                    with_reducible rfl
                   rotate_left
                   ·simp only [Q_]
                    rfl
                   refine p_ 1 229 ?_ #[t_,t_,f_,f_,f_,f_,f_,f_,f_,f_,f_,f_,f_,f_,f_,f_,f_,f_,f_,f_,f_,f_,f_,f_] rfl rfl HT_.out (by kernel_rfl) (fun _ _ _ h => h) (.inl ⟨by rfl, ?_⟩) ?_ ?_ ?_
                   rotate_left
                   ·intro w'
                    go_simp
                    with_reducible rfl
                   rotate_left
                   ·simp only [Q_]
                    rfl
                   refine p_ 2 230 ?_ #[t_,t_,t_,f_,f_,f_,f_,f_,f_,f_,f_,f_,f_,f_,f_,f_,f_,f_,f_,f_,f_,f_,f_,f_] rfl rfl HT_.out (by kernel_rfl) (fun _ _ _ h => h) (.inl ⟨by rfl, ?_⟩) ?_ ?_ ?_
                   rotate_left
                   ·intro w'
                    go_simp
                    with_reducible rfl
                   rotate_left
                   ·simp only [Q_]
                    rfl
                   refine p_ 4 232 ?_ #[t_,t_,t_,f_,t_,f_,f_,f_,f_,f_,f_,f_,f_,f_,f_,f_,f_,f_,f_,f_,f_,f_,f_,f_] rfl rfl HT_.out (by kernel_rfl) (fun _ _ _ h => h) (.inl ⟨by rfl, ?_⟩) ?_ ?_ ?_
                   rotate_left
                   ·intro w'
                    go_simp
                    with_reducible rfl
                   rotate_left
                   ·simp only [Q_]
                    rfl
                   refine p_ 7 235 ?_ #[t_,t_,t_,f_,t_,f_,f_,t_,f_,f_,f_,f_,f_,f_,f_,f_,f_,f_,f_,f_,f_,f_,f_,f_] rfl rfl HT_.out (by kernel_rfl) (fun _ _ _ h => h) (.inl ⟨by rfl, ?_⟩) ?_ ?_ ?_
                   rotate_left
                   ·intro w'
                    go_simp
                    with_reducible rfl
                   rotate_left
                   ·simp only [Q_]
                    rfl
                   refine p_ 8 236 ?_ #[t_,t_,t_,f_,t_,f_,f_,t_,t_,f_,f_,f_,f_,f_,f_,f_,f_,f_,f_,f_,f_,f_,f_,f_] rfl rfl HT_.out (by kernel_rfl) (fun _ _ _ h => h) (.inl ⟨by rfl, ?_⟩) ?_ ?_ ?_
                   rotate_left
                   ·intro w'
                    go_simp
                    with_reducible rfl
                   rotate_left
                   ·simp only [Q_]
                    rfl
                   refine p_ 9 237 ?_ #[t_,t_,t_,f_,t_,f_,f_,t_,t_,t_,f_,f_,f_,f_,f_,f_,f_,f_,f_,f_,f_,f_,f_,f_] rfl rfl HT_.out (by kernel_rfl) (fun _ _ _ h => h) (.inl ⟨by rfl, ?_⟩) ?_ ?_ ?_
                   rotate_left
                   ·intro w'
                    go_simp
                    with_reducible rfl
                   rotate_left
                   ·simp only [Q_]
                    rfl
                   refine pure_ (i := 10) (N := some 238) (v := undef) (a' := ?_) #[t_,t_,t_,f_,t_,f_,f_,t_,t_,t_,t_,f_,f_,f_,f_,f_,f_,f_,f_,f_,f_,f_,f_,f_] rfl rfl (any_of HT_.out (by kernel_rfl)) (fun _ _ _ h => h) (Or.inr ⟨by rfl, rfl⟩) ?_ ?_
                   rotate_left
                   ·simp only [Q_]
                    rfl
                   refine pure_ (i := 11) (N := some 239) (v := undef) (a' := ?_) #[t_,t_,t_,f_,t_,f_,f_,t_,t_,t_,t_,t_,f_,f_,f_,f_,f_,f_,f_,f_,f_,f_,f_,f_] rfl rfl (any_of HT_.out (by kernel_rfl)) (fun _ _ _ h => h) (Or.inr ⟨by rfl, rfl⟩) ?_ ?_
                   rotate_left
                   ·simp only [Q_]
                    rfl
                   refine pure_ (i := 12) (N := some 240) (v := undef) (a' := ?_) #[t_,t_,t_,f_,t_,f_,f_,t_,t_,t_,t_,t_,t_,f_,f_,f_,f_,f_,f_,f_,f_,f_,f_,f_] rfl rfl (any_of HT_.out (by kernel_rfl)) (fun _ _ _ h => h) (Or.inr ⟨by rfl, rfl⟩) ?_ ?_
                   rotate_left
                   ·simp only [Q_]
                    rfl
                   refine pure_ (i := 13) (N := some 241) (v := undef) (a' := ?_) #[t_,t_,t_,f_,t_,f_,f_,t_,t_,t_,t_,t_,t_,t_,f_,f_,f_,f_,f_,f_,f_,f_,f_,f_] rfl rfl (any_of HT_.out (by kernel_rfl)) (fun _ _ _ h => h) (Or.inr ⟨by rfl, rfl⟩) ?_ ?_
                   rotate_left
                   ·simp only [Q_]
                    rfl
                   refine pure_ (i := 14) (N := some 242) (v := undef) (a' := ?_) #[t_,t_,t_,f_,t_,f_,f_,t_,t_,t_,t_,t_,t_,t_,t_,f_,f_,f_,f_,f_,f_,f_,f_,f_] rfl rfl (any_of HT_.out (by kernel_rfl)) (fun _ _ _ h => h) (Or.inr ⟨by rfl, rfl⟩) ?_ ?_
                   rotate_left
                   ·simp only [Q_]
                    rfl
                   refine pure_ (i := 15) (N := some 243) (v := undef) (a' := ?_) #[t_,t_,t_,f_,t_,f_,f_,t_,t_,t_,t_,t_,t_,t_,t_,t_,f_,f_,f_,f_,f_,f_,f_,f_] rfl rfl (any_of HT_.out (by kernel_rfl)) (fun _ _ _ h => h) (Or.inr ⟨by rfl, rfl⟩) ?_ ?_
                   rotate_left
                   ·simp only [Q_]
                    rfl
                   refine pure_ (i := 16) (N := some 244) (v := undef) (a' := ?_) #[t_,t_,t_,f_,t_,f_,f_,t_,t_,t_,t_,t_,t_,t_,t_,t_,t_,f_,f_,f_,f_,f_,f_,f_] rfl rfl (any_of HT_.out (by kernel_rfl)) (fun _ _ _ h => h) (Or.inr ⟨by rfl, rfl⟩) ?_ ?_
                   rotate_left
                   ·simp only [Q_]
                    rfl
                   refine pure_ (i := 17) (N := some 245) (v := undef) (a' := ?_) #[t_,t_,t_,f_,t_,f_,f_,t_,t_,t_,t_,t_,t_,t_,t_,t_,t_,t_,f_,f_,f_,f_,f_,f_] rfl rfl (any_of HT_.out (by kernel_rfl)) (fun _ _ _ h => h) (Or.inr ⟨by rfl, rfl⟩) ?_ ?_
                   rotate_left
                   ·simp only [Q_]
                    rfl
                   refine pure_ (i := 18) (N := some 246) (v := undef) (a' := ?_) #[t_,t_,t_,f_,t_,f_,f_,t_,t_,t_,t_,t_,t_,t_,t_,t_,t_,t_,t_,f_,f_,f_,f_,f_] rfl rfl (any_of HT_.out (by kernel_rfl)) (fun _ _ _ h => h) (Or.inr ⟨by rfl, rfl⟩) ?_ ?_
                   rotate_left
                   ·simp only [Q_]
                    rfl
                   refine pure_ (i := 19) (N := some 247) (v := undef) (a' := ?_) #[t_,t_,t_,f_,t_,f_,f_,t_,t_,t_,t_,t_,t_,t_,t_,t_,t_,t_,t_,t_,f_,f_,f_,f_] rfl rfl (any_of HT_.out (by kernel_rfl)) (fun _ _ _ h => h) (Or.inr ⟨by rfl, rfl⟩) ?_ ?_
                   rotate_left
                   ·simp only [Q_]
                    rfl
                   refine pure_ (i := 20) (N := some 248) (v := undef) (a' := ?_) #[t_,t_,t_,f_,t_,f_,f_,t_,t_,t_,t_,t_,t_,t_,t_,t_,t_,t_,t_,t_,t_,f_,f_,f_] rfl rfl (any_of HT_.out (by kernel_rfl)) (fun _ _ _ h => h) (Or.inr ⟨by rfl, rfl⟩) ?_ ?_
                   rotate_left
                   ·simp only [Q_]
                    rfl
                   refine p_ 21 249 ?_ #[t_,t_,t_,f_,t_,f_,f_,t_,t_,t_,t_,t_,t_,t_,t_,t_,t_,t_,t_,t_,t_,t_,f_,f_] rfl rfl HT_.out (by kernel_rfl) (fun _ _ _ h => h) (.inl ⟨by rfl, ?_⟩) ?_ ?_ ?_
                   rotate_left
                   ·intro w'
                    go_simp
                    with_reducible rfl
                   rotate_left
                   ·simp only [Q_]
                    rfl
                   refine tk_ 3 231 ?_ #[t_,t_,t_,t_,t_,f_,f_,t_,t_,t_,t_,t_,t_,t_,t_,t_,t_,t_,t_,t_,t_,t_,f_,f_] rfl rfl (take_ofW HT_.out HW_.out (by kernel_rfl)) (fun _ _ _ h => h) (.inl ⟨by rfl, ?_⟩) hHeld ?_ ?_ ?_
                   rotate_left
                   ·rintro w' ⟨s0, s1⟩
                    go_simp
                    with_reducible rfl
                   rotate_left
                   ·simp only [Q_]
                    rfl
                   refine p_ 5 233 ?_ #[t_,t_,t_,t_,t_,t_,f_,t_,t_,t_,t_,t_,t_,t_,t_,t_,t_,t_,t_,t_,t_,t_,f_,f_] rfl rfl HT_.out (by kernel_rfl) (fun _ _ _ h => h) (.inl ⟨by rfl, ?_⟩) ?_ ?_ ?_
                   rotate_left
                   ·intro w'
                    go_simp
                    with_reducible rfl
                   rotate_left
                   ·simp only [Q_]
                    rfl
                   refine tk_ 6 234 ?_ #[t_,t_,t_,t_,t_,t_,t_,t_,t_,t_,t_,t_,t_,t_,t_,t_,t_,t_,t_,t_,t_,t_,f_,f_] rfl rfl (take_ofW HT_.out HW_.out (by kernel_rfl)) (fun _ _ _ h => h) (.inl ⟨by rfl, ?_⟩) hHeld ?_ ?_ ?_
                   rotate_left
                   ·rintro w' ⟨s0, s1⟩
                    go_simp
                    with_reducible rfl
                   rotate_left
                   ·simp only [Q_]
                    rfl
                   refine p_ 22 250 ?_ #[t_,t_,t_,t_,t_,t_,t_,t_,t_,t_,t_,t_,t_,t_,t_,t_,t_,t_,t_,t_,t_,t_,t_,f_] rfl rfl HT_.out (by kernel_rfl) (fun _ _ _ h => h) (.inl ⟨by rfl, ?_⟩) ?_ ?_ ?_
                   rotate_left
                   ·intro w'
                    go_simp
                    with_reducible rfl
                   rotate_left
                   ·simp only [Q_]
                    rfl
                   refine last_ (i := 23) (N := none) #[t_,t_,t_,t_,t_,t_,t_,t_,t_,t_,t_,t_,t_,t_,t_,t_,t_,t_,t_,t_,t_,t_,t_,t_] rfl rfl (one_of HT_.out (by kernel_rfl)) (by decide) (fun K hK => ?_)
                   obtain ⟨hgr, fz, zz, lz, hput⟩ := hA.frozen i3 (by rw [HROW.out, List.length_set, alvTo_len]; exact HLT.out) hHeld.2
                   refine skip_ (w1 := ?_) (by rfl) rfl ?_ ?_
                   rotate_left
                   ·go_simp
                    rfl
                   refine hK.out _ _ ?_
                   clear hK K
                   refine done_ (done_of HT_.out (by kernel_rfl)) ?_
                   have hA43 := hput false
                   rw [HROW.out, List.set_set, List.set_set] at hA43
                   have hK43 : ∀ k, k < M2 → (wd.setCell ⟨gr', s, none⟩ (.bool false)).heap[k]? = wq.heap[k]? := fun k hk => (Below.heap_setCell wd ⟨gr', s, none⟩ (.bool false) k (by show k ≠ gr'; omega)).trans ((hD.block k (by have := HM42.out; omega)).trans (HK42.out k hk))
                   rw [show ((alvTo (stepI cn plan bs (ts.map toS)) (ts.map toS).length sz (places plan) p s).set s false) = ((alvTo (stepI cn plan bs (ts.map toS)) (ts.map toS).length sz (places plan) p s).set s (nowT (stepI cn plan bs (ts.map toS)) (ts.map toS).length sz (places plan) p s (j + 1))) by rw [nowT_succ, HT3.out, hit, Bool.or_false, HV.out]] at hA43
                   generalize wd.setCell ⟨gr', s, none⟩ (.bool false) = W43 at hA43 hK43 ⊢
                   have HA43 := Lib.hid hA43; have HK43 := Lib.hid hK43
                   clear hA43 hK43 hA hD hput z6 zp fz zz lz
                   try clear hHeld
                   go_wp2_with fail
                   go_roundw
                   case rel => exact ⟨j + 1, by have := HJN.out; omega, by go_num, HA43.out, HK43.out⟩
                   case measure => simp [intOf]; have := HJN.out; omega
                 | some b =>
                  as_aux_lemma =>
                   have hbz : b < sz := HST.out p s j b HLT.out (by rw [List.length_map, ← HN.out]; exact hjn) hT
                   have HT3 := Lib.hid hT; clear hT
                   have i10 : p + 1 < places plan + 1 := by omega
                   have hrq : ((alvL (stepI cn plan bs (ts.map toS)) (ts.map toS).length sz (places plan) (p + 1)).set p ((alvTo (stepI cn plan bs (ts.map toS)) (ts.map toS).length sz (places plan) p s).set s (nowT (stepI cn plan bs (ts.map toS)) (ts.map toS).length sz (places plan) p s j))).getD (p + 1) [] = alvRow (stepI cn plan bs (ts.map toS)) (ts.map toS).length sz (places plan) (p + 1) := by
                    rw [gset_ne (by omega), alvL_get _ _ _ _ _ _ (by omega) (Nat.le_refl _)]
                   obtain ⟨gq, cq, -, zq, zb, -, -, -, -, -⟩ := hA.cell i10 (j := b) (by rw [hrq, alvRow_len]; exact hbz)
                   rw [hrq, alvRow_len] at zq
                   rw [hrq, alvRow_get _ _ _ _ _ _ hbz] at zb
                   obtain ⟨vb, hvb⟩ : ∃ v_ : Bool, v_ = alvAt (stepI cn plan bs (ts.map toS)) (ts.map toS).length sz (places plan) (p + 1) b := ⟨_, rfl⟩
                   rw [← hvb] at zb
                   have HVB := Lib.hid hvb
                   clear hvb hrq
                   have i11 : (b : Int) < sz := by omega
                   have i12 : (p : Int) + 1 < (places plan : Int) + 1 := by omega
                   have i14 : ((p + 1 : Nat) : Int) < (places plan : Int) + 1 := by omega
                   have i13 : (0 : Int) ≤ (p : Int) + 1 := by omega
                   simp only [outI, someB]
                   go_upto_region 43 with fail
                   have hD := (Below.refl W42.heap.size W42).drew
                   refine start_ (n := 24) (S := fun w' => w'.cell? ⟨F, 6, none⟩ = some (.slice (some ⟨ga, 0, none⟩) (places plan + 1) ca) ∧ w'.cell? ⟨ga, p, none⟩ = some (.slice (some ⟨gr', 0, none⟩) sz cr') ∧ w'.cell? ⟨ga, p + 1, none⟩ = some (.slice (some ⟨gq, 0, none⟩) sz cq) ∧ w'.cell? ⟨gq, b, none⟩ = some (.bool vb)) (ds := [23]) #[f_,f_,f_,f_,f_,f_,f_,f_,f_,f_,f_,f_,f_,f_,f_,f_,f_,f_,f_,f_,f_,f_,f_,f_] (by kernel_rfl) rfl rfl ⟨cell_to hD z6, cell_to hD zp, cell_to hD zq, cell_to hD zb⟩ (fun hHeld => ?_)
                   refine with_tabW newf_tab43 newf_bits43 (fun HT_ HW_ => ?_)
                   have HM42 := Lib.hid hA.lM
                   replace hA := hA.to hD
                   generalize W42.drew = wd at hD hA hHeld ⊢
                   refine p_ 0 228 ?_ #[t_,f_,f_,f_,f_,f_,f_,f_,f_,f_,f_,f_,f_,f_,f_,f_,f_,f_,f_,f_,f_,f_,f_,f_] rfl rfl HT_.out (by kernel_rfl) (fun _ _ _ h => h) (.inl ⟨by rfl, ?_⟩) ?_ ?_ ?_
                   rotate_left
                   ·intro w'
                    go_simp
                    with_reducible rfl
                   rotate_left
                   ·simp only [Q_]
                    rfl
                   refine p_ 1 229 ?_ #[t_,t_,f_,f_,f_,f_,f_,f_,f_,f_,f_,f_,f_,f_,f_,f_,f_,f_,f_,f_,f_,f_,f_,f_] rfl rfl HT_.out (by kernel_rfl) (fun _ _ _ h => h) (.inl ⟨by rfl, ?_⟩) ?_ ?_ ?_
                   rotate_left
                   ·intro w'
                    go_simp
                    with_reducible rfl
                   rotate_left
                   ·simp only [Q_]
                    rfl
                   refine p_ 2 230 ?_ #[t_,t_,t_,f_,f_,f_,f_,f_,f_,f_,f_,f_,f_,f_,f_,f_,f_,f_,f_,f_,f_,f_,f_,f_] rfl rfl HT_.out (by kernel_rfl) (fun _ _ _ h => h) (.inl ⟨by rfl, ?_⟩) ?_ ?_ ?_
                   rotate_left
                   ·intro w'
                    go_simp
                    with_reducible rfl
                   rotate_left
                   ·simp only [Q_]
                    rfl
                   refine p_ 4 232 ?_ #[t_,t_,t_,f_,t_,f_,f_,f_,f_,f_,f_,f_,f_,f_,f_,f_,f_,f_,f_,f_,f_,f_,f_,f_] rfl rfl HT_.out (by kernel_rfl) (fun _ _ _ h => h) (.inl ⟨by rfl, ?_⟩) ?_ ?_ ?_
                   rotate_left
                   ·intro w'
                    go_simp
                    with_reducible rfl
                   rotate_left
                   ·simp only [Q_]
                    rfl
                   refine p_ 7 235 ?_ #[t_,t_,t_,f_,t_,f_,f_,t_,f_,f_,f_,f_,f_,f_,f_,f_,f_,f_,f_,f_,f_,f_,f_,f_] rfl rfl HT_.out (by kernel_rfl) (fun _ _ _ h => h) (.inl ⟨by rfl, ?_⟩) ?_ ?_ ?_
                   rotate_left
                   ·intro w'
                    go_simp
                    with_reducible rfl
                   rotate_left
                   ·simp only [Q_]
                    rfl
                   refine p_ 8 236 ?_ #[t_,t_,t_,f_,t_,f_,f_,t_,t_,f_,f_,f_,f_,f_,f_,f_,f_,f_,f_,f_,f_,f_,f_,f_] rfl rfl HT_.out (by kernel_rfl) (fun _ _ _ h => h) (.inl ⟨by rfl, ?_⟩) ?_ ?_ ?_
                   rotate_left
                   ·intro w'
                    go_simp
                    with_reducible rfl
                   rotate_left
                   ·simp only [Q_]
                    rfl
                   refine p_ 9 237 ?_ #[t_,t_,t_,f_,t_,f_,f_,t_,t_,t_,f_,f_,f_,f_,f_,f_,f_,f_,f_,f_,f_,f_,f_,f_] rfl rfl HT_.out (by kernel_rfl) (fun _ _ _ h => h) (.inl ⟨by rfl, ?_⟩) ?_ ?_ ?_
                   rotate_left
                   ·intro w'
                    go_simp
                    with_reducible rfl
                   rotate_left
                   ·simp only [Q_]
                    rfl
                   refine p_ 10 238 ?_ #[t_,t_,t_,f_,t_,f_,f_,t_,t_,t_,t_,f_,f_,f_,f_,f_,f_,f_,f_,f_,f_,f_,f_,f_] rfl rfl HT_.out (by kernel_rfl) (fun _ _ _ h => h) (.inl ⟨by rfl, ?_⟩) ?_ ?_ ?_
                   rotate_left
                   ·intro w'
                    go_simp
                    with_reducible rfl
                   rotate_left
                   ·simp only [Q_]
                    rfl
                   refine p_ 11 239 ?_ #[t_,t_,t_,f_,t_,f_,f_,t_,t_,t_,t_,t_,f_,f_,f_,f_,f_,f_,f_,f_,f_,f_,f_,f_] rfl rfl HT_.out (by kernel_rfl) (fun _ _ _ h => h) (.inl ⟨by rfl, ?_⟩) ?_ ?_ ?_
                   rotate_left
                   ·intro w'
                    go_simp
                    with_reducible rfl
                   rotate_left
                   ·simp only [Q_]
                    rfl
                   refine p_ 12 240 ?_ #[t_,t_,t_,f_,t_,f_,f_,t_,t_,t_,t_,t_,t_,f_,f_,f_,f_,f_,f_,f_,f_,f_,f_,f_] rfl rfl HT_.out (by kernel_rfl) (fun _ _ _ h => h) (.inl ⟨by rfl, ?_⟩) ?_ ?_ ?_
                   rotate_left
                   ·intro w'
                    go_simp
                    with_reducible rfl
                   rotate_left
                   ·simp only [Q_]
                    rfl
                   refine p_ 14 242 ?_ #[t_,t_,t_,f_,t_,f_,f_,t_,t_,t_,t_,t_,t_,f_,t_,f_,f_,f_,f_,f_,f_,f_,f_,f_] rfl rfl HT_.out (by kernel_rfl) (fun _ _ _ h => h) (.inl ⟨by rfl, ?_⟩) ?_ ?_ ?_
                   rotate_left
                   ·intro w'
                    go_simp
                    with_reducible rfl
                   rotate_left
                   ·simp only [Q_]
                    rfl
                   refine p_ 15 243 ?_ #[t_,t_,t_,f_,t_,f_,f_,t_,t_,t_,t_,t_,t_,f_,t_,t_,f_,f_,f_,f_,f_,f_,f_,f_] rfl rfl HT_.out (by kernel_rfl) (fun _ _ _ h => h) (.inl ⟨by rfl, ?_⟩) ?_ ?_ ?_
                   rotate_left
                   ·intro w'
                    go_simp
                    with_reducible rfl
                   rotate_left
                   ·simp only [Q_]
                    rfl
                   rw [succ_wrap p (by omega)]
                   refine p_ 18 246 ?_ #[t_,t_,t_,f_,t_,f_,f_,t_,t_,t_,t_,t_,t_,f_,t_,t_,f_,f_,t_,f_,f_,f_,f_,f_] rfl rfl HT_.out (by kernel_rfl) (fun _ _ _ h => h) (.inl ⟨by rfl, ?_⟩) ?_ ?_ ?_
                   rotate_left
                   ·intro w'
                    go_simp
                    with_reducible rfl
                   rotate_left
                   ·simp only [Q_]
                    rfl
                   refine tk_ 3 231 ?_ #[t_,t_,t_,t_,t_,f_,f_,t_,t_,t_,t_,t_,t_,f_,t_,t_,f_,f_,t_,f_,f_,f_,f_,f_] rfl rfl (take_ofW HT_.out HW_.out (by kernel_rfl)) (fun _ _ _ h => h) (.inl ⟨by rfl, ?_⟩) hHeld ?_ ?_ ?_
                   rotate_left
                   ·rintro w' ⟨s0, s1, s2, s3⟩
                    go_simp
                    with_reducible rfl
                   rotate_left
                   ·simp only [Q_]
                    rfl
                   refine p_ 5 233 ?_ #[t_,t_,t_,t_,t_,t_,f_,t_,t_,t_,t_,t_,t_,f_,t_,t_,f_,f_,t_,f_,f_,f_,f_,f_] rfl rfl HT_.out (by kernel_rfl) (fun _ _ _ h => h) (.inl ⟨by rfl, ?_⟩) ?_ ?_ ?_
                   rotate_left
                   ·intro w'
                    go_simp
                    with_reducible rfl
                   rotate_left
                   ·simp only [Q_]
                    rfl
                   refine tk_ 6 234 ?_ #[t_,t_,t_,t_,t_,t_,t_,t_,t_,t_,t_,t_,t_,f_,t_,t_,f_,f_,t_,f_,f_,f_,f_,f_] rfl rfl (take_ofW HT_.out HW_.out (by kernel_rfl)) (fun _ _ _ h => h) (.inl ⟨by rfl, ?_⟩) hHeld ?_ ?_ ?_
                   rotate_left
                   ·rintro w' ⟨s0, s1, s2, s3⟩
                    go_simp
                    with_reducible rfl
                   rotate_left
                   ·simp only [Q_]
                    rfl
                   refine tk_ 13 241 ?_ #[t_,t_,t_,t_,t_,t_,t_,t_,t_,t_,t_,t_,t_,t_,t_,t_,f_,f_,t_,f_,f_,f_,f_,f_] rfl rfl (take_ofW HT_.out HW_.out (by kernel_rfl)) (fun _ _ _ h => h) (.inl ⟨by rfl, ?_⟩) hHeld ?_ ?_ ?_
                   rotate_left
                   ·rintro w' ⟨s0, s1, s2, s3⟩
                    go_simp
                    with_reducible rfl
                   rotate_left
                   ·simp only [Q_]
                    rfl
                   refine p_ 16 244 ?_ #[t_,t_,t_,t_,t_,t_,t_,t_,t_,t_,t_,t_,t_,t_,t_,t_,t_,f_,t_,f_,f_,f_,f_,f_] rfl rfl HT_.out (by kernel_rfl) (fun _ _ _ h => h) (.inl ⟨by rfl, ?_⟩) ?_ ?_ ?_
                   rotate_left
                   ·intro w'
                    go_simp
                    with_reducible rfl
                   rotate_left
                   ·simp only [Q_]
                    rfl
                   refine tk_ 17 245 ?_ #[t_,t_,t_,t_,t_,t_,t_,t_,t_,t_,t_,t_,t_,t_,t_,t_,t_,t_,t_,f_,f_,f_,f_,f_] rfl rfl (take_ofW HT_.out HW_.out (by kernel_rfl)) (fun _ _ _ h => h) (.inl ⟨by rfl, ?_⟩) hHeld ?_ ?_ ?_
                   rotate_left
                   ·rintro w' ⟨s0, s1, s2, s3⟩
                    go_simp
                    with_reducible rfl
                   rotate_left
                   ·simp only [Q_]
                    rfl
                   refine p_ 19 247 ?_ #[t_,t_,t_,t_,t_,t_,t_,t_,t_,t_,t_,t_,t_,t_,t_,t_,t_,t_,t_,t_,f_,f_,f_,f_] rfl rfl HT_.out (by kernel_rfl) (fun _ _ _ h => h) (.inl ⟨by rfl, ?_⟩) ?_ ?_ ?_
                   rotate_left
                   ·intro w'
                    go_simp
                    with_reducible rfl
                   rotate_left
                   ·simp only [Q_]
                    rfl
                   refine tk_ 20 248 ?_ #[t_,t_,t_,t_,t_,t_,t_,t_,t_,t_,t_,t_,t_,t_,t_,t_,t_,t_,t_,t_,t_,f_,f_,f_] rfl rfl (take_ofW HT_.out HW_.out (by kernel_rfl)) (fun _ _ _ h => h) (.inl ⟨by rfl, ?_⟩) hHeld ?_ ?_ ?_
                   rotate_left
                   ·rintro w' ⟨s0, s1, s2, s3⟩
                    go_simp
                    with_reducible rfl
                   rotate_left
                   ·simp only [Q_]
                    rfl
                   refine p_ 21 249 ?_ #[t_,t_,t_,t_,t_,t_,t_,t_,t_,t_,t_,t_,t_,t_,t_,t_,t_,t_,t_,t_,t_,t_,f_,f_] rfl rfl HT_.out (by kernel_rfl) (fun _ _ _ h => h) (.inl ⟨by rfl, ?_⟩) ?_ ?_ ?_
                   rotate_left
                   ·intro w'
                    go_simp
                    with_reducible rfl
                   rotate_left
                   ·simp only [Q_]
                    rfl
                   refine p_ 22 250 ?_ #[t_,t_,t_,t_,t_,t_,t_,t_,t_,t_,t_,t_,t_,t_,t_,t_,t_,t_,t_,t_,t_,t_,t_,f_] rfl rfl HT_.out (by kernel_rfl) (fun _ _ _ h => h) (.inl ⟨by rfl, ?_⟩) ?_ ?_ ?_
                   rotate_left
                   ·intro w'
                    go_simp
                    with_reducible rfl
                   rotate_left
                   ·simp only [Q_]
                    rfl
                   refine last_ (i := 23) (N := none) #[t_,t_,t_,t_,t_,t_,t_,t_,t_,t_,t_,t_,t_,t_,t_,t_,t_,t_,t_,t_,t_,t_,t_,t_] rfl rfl (one_of HT_.out (by kernel_rfl)) (by decide) (fun K hK => ?_)
                   obtain ⟨hgr, fz, zz, lz, hput⟩ := hA.frozen i3 (by rw [HROW.out, List.length_set, alvTo_len]; exact HLT.out) hHeld.2.1
                   refine skip_ (w1 := ?_) (by rfl) rfl ?_ ?_
                   rotate_left
                   ·go_simp
                    rfl
                   refine hK.out _ _ ?_
                   clear hK K
                   refine done_ (done_of HT_.out (by kernel_rfl)) ?_
                   have hA43 := hput vb
                   rw [HROW.out, List.set_set, List.set_set] at hA43
                   have hK43 : ∀ k, k < M2 → (wd.setCell ⟨gr', s, none⟩ (.bool vb)).heap[k]? = wq.heap[k]? := fun k hk => (Below.heap_setCell wd ⟨gr', s, none⟩ (.bool vb) k (by show k ≠ gr'; omega)).trans ((hD.block k (by have := HM42.out; omega)).trans (HK42.out k hk))
                   rw [show ((alvTo (stepI cn plan bs (ts.map toS)) (ts.map toS).length sz (places plan) p s).set s vb) = ((alvTo (stepI cn plan bs (ts.map toS)) (ts.map toS).length sz (places plan) p s).set s (nowT (stepI cn plan bs (ts.map toS)) (ts.map toS).length sz (places plan) p s (j + 1))) by rw [nowT_succ, HT3.out, HV.out, Bool.false_or, HVB.out]; rfl] at hA43
                   generalize wd.setCell ⟨gr', s, none⟩ (.bool vb) = W43 at hA43 hK43 ⊢
                   have HA43 := Lib.hid hA43; have HK43 := Lib.hid hK43
                   clear hA43 hK43 hA hD hput z6 zp zq zb fz zz lz
                   try clear hHeld
                   go_wp2_with fail
                   go_roundw
                   case rel => exact ⟨j + 1, by have := HJN.out; omega, by go_num, HA43.out, HK43.out⟩
                   case measure => simp [intOf]; have := HJN.out; omega
            ·have i6 : ¬ (j : Int) < n := by omega
             have e : j = (ts.map toS).length := by rw [List.length_map, ← HN.out]; omega
             have hA9 := HA.out
             rw [alv_done HST.out HLT.out HP.out HX0.out HJ.out (.inr e)] at hA9
             have HA9 := Lib.hid hA9
             clear hA9 e
             go_wp2_with fail
             go_roundw
             case rel => exact ⟨s + 1, by have := HLT.out; omega, by go_num, HA9.out, HK.out⟩
             case measure => simp [intOf]; have := HLT.out; omega
       ·have i5 : ¬ (s : Int) < sz := by omega
        have e : s = sz := by omega
        subst e
        go_wp2_with fail
        go_roundw
        case rel => exact ⟨p, _, by omega, by go_num, by omega, by rw [← alvL_set, ← alvTo_all]; exact HA.out⟩
        case measure => simp [intOf]
end Go.Proofs.Ytcaikaflpmaocaa

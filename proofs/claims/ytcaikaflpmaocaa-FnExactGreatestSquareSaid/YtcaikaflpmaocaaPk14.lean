/-
  Parts of the proof, in their order: FreeI, GreatI, LawGreatestSquare.
-/
import Derived.Test.YtcaikaflpmaocaaPk11
import Derived.Test.YtcaikaflpmaocaaPk13
import Derived.Test.YtcaikaflpmaocaaPk12
import Derived.Test.YtcaikaflpmaocaaPk4
import Derived.Deep.RegionHeld3
namespace Go.Proofs.Ytcaikaflpmaocaa
open Go Go.RowKit Go.Proofs Go.Proofs.YtcaikaflpmaocaaW.PrintWords Go.Proofs.YtcaikaflpmaocaaW.PrintLast Go.Proofs.YtcaikaflpmaocaaW.PrintMore Go.Proofs.Ytcaikaflpmaocaa.Q
set_option linter.unusedVariables false
set_option linter.unusedSimpArgs false
def freei_T1 : Bool × List (List Nat × List Nat) := (true, [([], []), ([], []), ([], []), ([1, 2], [1, 2]), ([], []), ([0, 3, 4, 3], [0, 3, 4]), ([5, 5, 0, 1, 2, 3, 4, 5], [5])])
def freei_B1 : List Nat := [0, 0, 0, 6, 0, 31, 63]
theorem freei_tab1 : rtab .any (opsOf Try.f48 1) = freei_T1 := by kernel_rfl
theorem freei_bits1 : waitsOk freei_T1.2 freei_B1 = true := by kernel_rfl
theorem freePlan_any (h wd : Nat) (h1 : 1 ≤ h) (h5 : h ≤ 5) (w1 : 1 ≤ wd) (w5 : wd ≤ 5) (w : World) : Calls Try.prog 39 #[.int .i64 h, .int .i64 wd] w fun e w' => ∃ A1 c1, e = .returned (.slice A1 h c1) ∧ RR w' A1 (freeP h wd) ∧ Below w.heap.size w w' := by
  have hf := implFree_small (a := (h : Int)) (b := (wd : Int)) ⟨by omega, by omega⟩ ⟨by omega, by omega⟩
  rw [Int.toNat_natCast, Int.toNat_natCast] at hf
  refine (impl_freePlan.calls 60 _ _ _ w hf).mono ?_
  rintro e w' ⟨v0, rfl, hS, hB⟩
  obtain ⟨A, c, rfl⟩ := Kd.S_slice hS
  have hr := rr_of_C (Kd.S_reads' hS).2.2
  exact ⟨A, c, by rw [List.length_replicate], hr, hB⟩
def FRE (w : World) (F : Nat) (C : Int) (cn : Nat) (A : Option Addr) (ts : List T4) (n c h wd : Nat) : Prop := ∃ (A1 : Option Addr) (c1 : Nat) (A2 : Option Addr) (c2 : Nat), FIL w F C cn A ts n c A1 (freeP h wd) h c1 A2 openB 4 c2 ∧ RR w A1 (freeP h wd)
theorem nameF {P : Program} {c : Code} {Q : Exit → Act → World → Prop} {a : Act} {w : World} {C1 : Array Value} {E1 : TypeId}
    (h : ∀ W, BK W w.heap.size C1 E1 → Below w.heap.size w W → c.wp P Q a W) : c.wp P Q a (w.alloc (.cells C1 E1)) := h _ (BK.new _ _ _) (below_alloc (Below.refl _ _) _)
set_option maxHeartbeats 4000000 in
set_option maxRecDepth 100000 in
theorem free_any (C : Int) (cn : Nat) (A : Option Addr) (ts : List T4) (n c h wd : Nat) (w : World) (hC : C = (cn : Int)) (hcn : 0 < cn) (c6 : cn ≤ 6) (hn : n = ts.length) (hA : RT w A ts) (hl : n ≤ 1000) (h1 : 1 ≤ h) (h5 : h ≤ 5) (w1 : 1 ≤ wd) (w5 : wd ≤ 5) (hcol : ∀ t ∈ ts.map toS, Col cn t) :
    Calls Try.prog 48 #[.agg #[.int .i64 C, .slice A n c], .int .i64 h, .int .i64 wd] w fun e w' => ∃ F : Nat, e = .returned (.pointer (some ⟨F, 0, none⟩)) ∧ Below w.heap.size w w' ∧ FRE w' F C cn A ts n c h wd := by
  have HC := Lib.hid hC; have HN := Lib.hid hn
  clear hC hn
  go_enter Try.func48, Try.ntmps48
  go_upto_region 1 with fail
  refine nameF ?_
  intro W1 b1 hb0
  have hD := (Below.refl W1.heap.size W1).drew
  refine start_ (n := 7) (S := fun w' => w'.cell? ⟨w.heap.size, 0, none⟩ = some (.int .i64 C) ∧ w'.cell? ⟨w.heap.size, 1, none⟩ = some (.slice A n c)) (ds := [5]) #[false, false, false, false, false, false, false] (by kernel_rfl) rfl rfl ⟨cell_to hD (b1.cell rfl), cell_to hD (b1.cell rfl)⟩ (fun hHeld => ?_)
  refine with_tabW freei_tab1 freei_bits1 (fun HT_ HW_ => ?_)
  generalize W1.drew = w0 at hD hHeld ⊢
  refine pure_ (i := 1) (N := some 8) (v := ?_) (a' := ?_) #[false, true, false, false, false, false, false] rfl rfl (any_of HT_.out (by kernel_rfl)) (fun _ _ _ h => h) (Or.inl ⟨by rfl, ?_⟩) ?_ ?_
  rotate_left
  · intro w'
    go_simp
    with_reducible rfl
  rotate_left
  · simp only [Act.put, List.setIfInBounds_toArray, List.set_cons_zero, List.set_cons_succ, i64_w, i32_w]
    rfl
  refine pure_ (i := 2) (N := some 9) (v := ?_) (a' := ?_) #[false, true, true, false, false, false, false] rfl rfl (any_of HT_.out (by kernel_rfl)) (fun _ _ _ h => h) (Or.inl ⟨by rfl, ?_⟩) ?_ ?_
  rotate_left
  · intro w'
    go_simp
    with_reducible rfl
  rotate_left
  · simp only [Act.put, List.setIfInBounds_toArray, List.set_cons_zero, List.set_cons_succ, i64_w, i32_w]
    rfl
  refine take_ (i := 0) (N := some 7) (v := ?_) (a' := ?_) #[true, true, true, false, false, false, false] rfl rfl (take_ofW HT_.out HW_.out (by kernel_rfl)) (fun _ _ _ h => h) (Or.inl ⟨by rfl, ?_⟩) hHeld ?_ ?_
  rotate_left
  · rintro w' ⟨s0, s1⟩
    go_simp
    with_reducible rfl
  rotate_left
  · simp only [Act.put, List.setIfInBounds_toArray, List.set_cons_zero, List.set_cons_succ, i64_w, i32_w]
    rfl
  refine join_ (σ := Option Addr × Nat × Nat × Nat) 2 #[true, true, true, true, true, false, false] (fun s_ => [(10, .slice s_.1 h s_.2.1), (11, .slice (some ⟨s_.2.2.1, 0, none⟩) 4 s_.2.2.2)]) (fun s_ w' => w'.cell? ⟨w.heap.size, 0, none⟩ = some (.int .i64 C) ∧ w'.cell? ⟨w.heap.size, 1, none⟩ = some (.slice A n c) ∧ RR w' s_.1 (freeP h wd) ∧ RR w' (some ⟨s_.2.2.1, 0, none⟩) openB ∧ Below w0.heap.size w0 w') ?_ ?_
  rotate_left
  · intro hCont
    refine two_ (i := 3) (j := 4) (Ni := some 10) (Nj := some 11) #[true, true, true, true, false, false, false] #[true, true, true, false, true, false, false] rfl rfl rfl rfl (two_of HT_.out (by kernel_rfl)) (by decide) (by decide) (fun K hK => ?_) (fun K hK => ?_)
    · skip
      refine goes_ Try.func39 (by kernel_rfl) rfl #[.int .i64 h, .int .i64 wd] (by rfl) rfl rfl (by simp only [List.map_toArray, List.map_cons, List.map_nil]; rfl) ?_
      with_reducible refine (freePlan_any h wd h1 h5 w1 w5 _).mono ?_
      rintro e w3 ⟨A1, c1, rfl, hR1, hb3⟩
      refine ⟨_, rfl, ?_⟩
      refine hK.out _ _ ⟨cell_to hb3 hHeld.1, cell_to hb3 hHeld.2⟩ (fun hHeld => ?_)
      clear hK K
      refine norm_ (a' := ?_) ?_ ?_
      rotate_left
      · show Act.put _ (some 10) _ = _
        simp only [Act.put, List.setIfInBounds_toArray, List.set_cons_zero, List.set_cons_succ, i64_w, i32_w]
        rfl
      refine one_ (i := 4) (N := some 11) #[true, true, true, true, true, false, false] rfl rfl (one_of HT_.out (by kernel_rfl)) (by decide) (fun K hK => ?_)
      refine Kd.R_make_step (Kd.slice 2 (Kd.int .i64)) (w0 := w3) w3.heap.size 56 (by rfl) (N := 11) rfl 22 _ _ rfl (4 : Int) rfl rfl Try.underlying22 (.slice none 0 0) 24 info56 rfl (by decide) (by omega) [] (ok := fun _ => True) (okp := fun _ => True) ⟨_, rfl, Kd.R_nil _ _ _ _ _⟩ (fun _ hk => hk) trivial (by omega) (by omega) (Below.refl _ _) (Nat.le_refl _) ?_
      intro nv4 w11 hnw hbm hgm hnewm
      obtain ⟨g4, c4, hnv⟩ := repR_form (m := 4) hnw (by decide) (by omega)
      subst hnv
      have hR4 : RR w11 (some ⟨g4, 0, none⟩) openB := rr_of_C (Kd.R_reads' hnw).2.2
      refine hK.out _ _ ⟨cell_to hbm hHeld.1, cell_to hbm hHeld.2⟩ (fun hHeld => ?_)
      clear hK K
      refine norm_ (a' := ?_) ?_ ?_
      rotate_left
      · show Act.put _ (some 11) _ = _
        simp only [Act.put, List.setIfInBounds_toArray, List.set_cons_zero, List.set_cons_succ, i64_w, i32_w]
        rfl
      exact norm_ (by first | (simp only [putAll, Act.put, List.setIfInBounds_toArray, List.set_cons_zero, List.set_cons_succ]; done) | (simp only [putAll, Act.put, List.setIfInBounds_toArray, List.set_cons_zero, List.set_cons_succ]; rfl)) (hCont (A1, c1, g4, c4) _ ⟨hHeld.1, hHeld.2, hR1.below hbm, hR4, below_to hb3 hbm⟩)
    · skip
      refine Kd.R_make_step (Kd.slice 2 (Kd.int .i64)) (w0 := w0) w0.heap.size 56 (by rfl) (N := 11) rfl 22 _ _ rfl (4 : Int) rfl rfl Try.underlying22 (.slice none 0 0) 24 info56 rfl (by decide) (by omega) [] (ok := fun _ => True) (okp := fun _ => True) ⟨_, rfl, Kd.R_nil _ _ _ _ _⟩ (fun _ hk => hk) trivial (by omega) (by omega) (Below.refl _ _) (Nat.le_refl _) ?_
      intro nv4 w11 hnw hbm hgm hnewm
      obtain ⟨g4, c4, hnv⟩ := repR_form (m := 4) hnw (by decide) (by omega)
      subst hnv
      have hR4 : RR w11 (some ⟨g4, 0, none⟩) openB := rr_of_C (Kd.R_reads' hnw).2.2
      refine hK.out _ _ ⟨cell_to hbm hHeld.1, cell_to hbm hHeld.2⟩ (fun hHeld => ?_)
      clear hK K
      refine norm_ (a' := ?_) ?_ ?_
      rotate_left
      · show Act.put _ (some 11) _ = _
        simp only [Act.put, List.setIfInBounds_toArray, List.set_cons_zero, List.set_cons_succ, i64_w, i32_w]
        rfl
      refine one_ (i := 3) (N := some 10) #[true, true, true, true, true, false, false] rfl rfl (one_of HT_.out (by kernel_rfl)) (by decide) (fun K hK => ?_)
      refine goes_ Try.func39 (by kernel_rfl) rfl #[.int .i64 h, .int .i64 wd] (by rfl) rfl rfl (by simp only [List.map_toArray, List.map_cons, List.map_nil]; rfl) ?_
      with_reducible refine (freePlan_any h wd h1 h5 w1 w5 _).mono ?_
      rintro e w3 ⟨A1, c1, rfl, hR1, hb3⟩
      refine ⟨_, rfl, ?_⟩
      refine hK.out _ _ ⟨cell_to hb3 hHeld.1, cell_to hb3 hHeld.2⟩ (fun hHeld => ?_)
      clear hK K
      refine norm_ (a' := ?_) ?_ ?_
      rotate_left
      · show Act.put _ (some 10) _ = _
        simp only [Act.put, List.setIfInBounds_toArray, List.set_cons_zero, List.set_cons_succ, i64_w, i32_w]
        rfl
      exact norm_ (by first | (simp only [putAll, Act.put, List.setIfInBounds_toArray, List.set_cons_zero, List.set_cons_succ]; done) | (simp only [putAll, Act.put, List.setIfInBounds_toArray, List.set_cons_zero, List.set_cons_succ]; rfl)) (hCont (A1, c1, g4, c4) _ ⟨hHeld.1, hHeld.2, hR1, hR4.below hb3, below_to hbm hb3⟩)
  rintro ⟨A1, c1, g4, c4⟩ w4 ⟨hq1, hq2, hR1, hR4, hb4⟩
  have hHeld : w4.cell? ⟨w.heap.size, 0, none⟩ = some (.int .i64 C) ∧ w4.cell? ⟨w.heap.size, 1, none⟩ = some (.slice A n c) := ⟨hq1, hq2⟩
  refine norm_ (a' := ?_) ?_ ?_
  rotate_left
  · simp only [putAll, Act.put, List.setIfInBounds_toArray, List.set_cons_zero, List.set_cons_succ]
    rfl
  refine last_ (i := 5) (N := some 12) #[true, true, true, true, true, true, false] rfl rfl (one_of HT_.out (by kernel_rfl)) (by decide) (fun K hK => ?_)
  refine goes_ Try.func60 (by kernel_rfl) rfl #[.agg #[.int .i64 C, .slice A n c], .slice A1 h c1, .slice (some ⟨g4, 0, none⟩) 4 c4] (by rfl) rfl rfl (by simp only [List.map_toArray, List.map_cons, List.map_nil]; rfl) ?_
  with_reducible refine (newFiller_any C cn A ts n c A1 (freeP h wd) h c1 (some ⟨g4, 0, none⟩) openB 4 c4 w4 HC.out hcn c6 HN.out (hA.below (below_to (below_to hb0 hD) hb4)) hl (by simp [freeP]) hR1 rfl hR4 (shape_free h1 h5 w1 w5) hcol).mono ?_
  rintro e w5_ ⟨FF, rfl, hb5, hF5, hfil⟩
  refine ⟨_, rfl, ?_⟩
  refine hK.out _ _ ?_
  clear hK K
  refine norm_ (a' := ?_) ?_ ?_
  rotate_left
  · show Act.put _ (some 12) _ = _
    simp only [Act.put, List.setIfInBounds_toArray, List.set_cons_zero, List.set_cons_succ, i64_w, i32_w]
    rfl
  refine pure_ (i := 6) (N := some 6) (v := ?_) (a' := ?_) #[true, true, true, true, true, true, true] rfl rfl (any_of HT_.out (by kernel_rfl)) (fun _ _ _ h => h) (Or.inl ⟨by rfl, ?_⟩) ?_ ?_
  rotate_left
  · intro w'
    go_simp
    with_reducible rfl
  rotate_left
  · simp only [Act.put, List.setIfInBounds_toArray, List.set_cons_zero, List.set_cons_succ, i64_w, i32_w]
    rfl
  refine done_ (done_of HT_.out (by kernel_rfl)) ?_
  go_wp2_with fail
  go_ret
  exact ⟨FF, rfl, below_to (below_to (below_to hb0 hD) hb4) hb5, A1, c1, _, _, hfil, hR1.below hb5⟩
end Go.Proofs.Ytcaikaflpmaocaa
namespace Go.Proofs.Ytcaikaflpmaocaa
open Go Go.RowKit Go.Proofs Go.Proofs.YtcaikaflpmaocaaW.PrintWords Go.Proofs.YtcaikaflpmaocaaW.PrintLast Go.Proofs.YtcaikaflpmaocaaW.PrintMore Go.Proofs.Ytcaikaflpmaocaa.Q
set_option linter.unusedVariables false
set_option linter.unusedSimpArgs false
theorem on_eq (c : Nat) (plan bs : List (List Int)) (l : List STile) (hc : 0 < c) (hw : 1 ≤ rowLen plan 0) (hcol : ∀ t ∈ l, Col c t) : onw (stepI c plan bs l) l.length (places plan) 0 0 = numS c plan bs l := by
  unfold numS onS stepS stepI
  rw [Nat.sub_zero]
  exact (onw_like c (rowLen plan 0) l (fitP plan bs l) hc (by omega) hcol (places plan) 0 0 0 ⟨rfl, fun _ => rfl⟩).symm
theorem alv_first (T : Nx) (n sz P : Nat) (hsz : 0 < sz) : alvAt T n sz P 0 0 = decide (0 < onw T n P 0 0) := by
  have e : ik (fwd T n sz 0) 0 = 1 := by
    show (unit sz 0).getD 0 0 = 1
    rw [unit, getD_set _ _ _ _ (by simpa using hsz), if_pos rfl]
  unfold alvAt onB
  rw [e, Nat.sub_zero]
  rfl
theorem FRE.alive {w : World} {F : Nat} {C : Int} {cn : Nat} {A : Option Addr} {ts : List T4} {n c h wd : Nat} (hf : FRE w F C cn A ts n c h wd) (hcn : 0 < cn) (h1 : 1 ≤ h) (w1 : 1 ≤ wd) (hcol : ∀ t ∈ ts.map toS, Col cn t) :
    ∃ (ga P1 ca gr m cr : Nat), w.cell? ⟨F, 6, none⟩ = some (.slice (some ⟨ga, 0, none⟩) P1 ca) ∧ (0 : Int) < P1 ∧ w.cell? ⟨ga, 0, none⟩ = some (.slice (some ⟨gr, 0, none⟩) m cr) ∧ (0 : Int) < m ∧ w.cell? ⟨gr, 0, none⟩ = some (.bool (decide (0 < sq (ts.map toS) cn h wd))) ∧ F < w.heap.size ∧ ga < w.heap.size ∧ gr < w.heap.size := by
  obtain ⟨A1, c1, A2, c2, hfil, -⟩ := hf
  obtain ⟨Ap, cp, gc, cc, ga, ca, -, -, -, k6, -, -, hrb⟩ := hfil
  have hsz : 0 < size cn (freeP h wd) := Nat.pow_pos hcn
  have e1 : (alvL (stepI cn (freeP h wd) openB (ts.map toS)) (ts.map toS).length (size cn (freeP h wd)) (places (freeP h wd)) 0).getD 0 [] = alvRow (stepI cn (freeP h wd) openB (ts.map toS)) (ts.map toS).length (size cn (freeP h wd)) (places (freeP h wd)) 0 := alvL_get _ _ _ _ _ _ (Nat.zero_le _) (Nat.le_refl _)
  obtain ⟨gr, cr, l1, l2, z1, z2⟩ := hrb 0 0 (by rw [alvL_len]; omega) (by rw [e1, alvRow_len]; exact hsz)
  have hw : rowLen (freeP h wd) 0 = wd := rowLen_free (by omega)
  rw [e1, alvRow_len] at z1
  rw [e1, alvRow_get _ _ _ _ _ _ hsz, alv_first _ _ _ _ hsz, on_eq cn (freeP h wd) openB (ts.map toS) hcn (by rw [hw]; exact w1) hcol] at z2
  have lF := World.block_lt_of_cell? w _ k6
  exact ⟨ga, _, ca, gr, _, cr, k6, by omega, z1, by omega, z2, lF, l1, l2⟩
theorem greatGo_stop (l : List STile) (c d n : Nat) (h : ¬ 0 < sq l c (n + 1) (n + 1)) : greatGo l c d n = n := by
  cases d with
  | zero => rfl
  | succ d => rw [greatGo, if_neg h]
set_option maxHeartbeats 4000000 in
set_option maxRecDepth 100000 in
theorem implGreatestSquare_any (C : Int) (A : Option Addr) (ts : List T4) (n c : Nat) (w : World) (hn : n = ts.length) (hA : RT w A ts) (hnc : n ≤ c) (hl : n ≤ 35184372088832) :
    Calls Try.prog 18 #[.agg #[.int .i64 C, .slice A n c]] w fun e w' => e = .returned (pairI (greatR C ts)) ∧ Below w.heap.size w w' := by
  have HN := Lib.hid hn; have HA := Lib.hid hA
  clear hn hA
  go_enter Try.func18, Try.ntmps18
  go_upto_region 1 with fail
  refine nameF ?_
  intro W1 b1 hb0
  have z0 : W1.cell? ⟨w.heap.size, 0, none⟩ = some (.int .i64 C) := b1.cell rfl
  have z1 : W1.cell? ⟨w.heap.size, 1, none⟩ = some (.slice A n c) := b1.cell rfl
  have lb := b1.lt
  have HB1 := Lib.hid b1; have HB0 := Lib.hid hb0
  clear b1 hb0
  go_wp2_with fail
  refine (IsSet_any C A ts n c W1 HN.out (HA.out.below HB0.out) hl).mono ?_
  rintro e W2 ⟨rfl, hb2⟩
  have b2 := (hb2.block _ lb).trans HB1.out
  have HB2 := Lib.hid b2; have HE2 := Lib.hid (below_to HB0.out hb2)
  clear b2 hb2 z0 z1 lb
  cases hs : isS C ts with
  | false =>
    have HS := Lib.hid hs; clear hs
    go_wp2_with fail
    go_ret2
    exact ⟨congrArg Ending.returned (by rw [greatR, HS.out]; rfl), HE2.out⟩
  | true =>
    have hs2 : isS C ((ts.map toS).map toT) = true := by rw [map_toTS]; exact hs
    obtain ⟨hC, hl16, hcol⟩ := isS_cols hs2
    have HS := Lib.hid hs; have HCOL := Lib.hid hcol; have HC := Lib.hid hC
    have HL := Lib.hid (show n ≤ 1000 by rw [HN.out]; simpa using Nat.le_trans hl16 (by omega))
    clear hs hs2 hcol hC hl16
    go_wp2_with fail
    go_loopw [4] (fun i wr => ∃ k : Nat, k ≤ 5 ∧ i = .int .i64 k ∧ Below w.heap.size w wr ∧ BK wr w.heap.size #[.int .i64 C, .slice A n c] 36 ∧ greatGo (ts.map toS) C.toNat (5 - k) k = greatGo (ts.map toS) C.toNat 5 0) (fun i _ => 5 - (intOf i).toNat)
    case atStart => exact ⟨0, by omega, rfl, HE2.out, HB2.out, rfl⟩
    case round =>
      obtain ⟨k, hk, rfl, hB, bk, hg⟩ := hrel
      have y0 : wr.cell? ⟨w.heap.size, 0, none⟩ = some (.int .i64 C) := bk.cell rfl
      have y1 : wr.cell? ⟨w.heap.size, 1, none⟩ = some (.slice A n c) := bk.cell rfl
      have lb := bk.lt
      have HB := Lib.hid hB; have HBK := Lib.hid bk; have HG := Lib.hid hg
      clear hB bk hg
      by_cases hlt : k < 5
      · have i1 : (k : Int) < 5 := by omega
        go_wp2_with fail
        refine (free_any C C.toNat A ts n c (k + 1) (k + 1) wr (by have := HC.out; omega) (by have := HC.out; omega) (by have := HC.out; omega) HN.out (HA.out.below HB.out) HL.out (by omega) (by omega) (by omega) (by omega) HCOL.out).mono ?_
        rintro e W9 ⟨F, rfl, hb9, hfre⟩
        obtain ⟨ga, P1, ca, gr, m, cr, q1, q2, q3, q4, q5, q6, q7, q8⟩ := hfre.alive (by have := HC.out; omega) (by omega) (by omega) HCOL.out
        have HB9 := Lib.hid (below_to HB.out hb9); have HBK9 := Lib.hid ((hb9.block _ lb).trans HBK.out)
        have HK := Lib.hid hlt
        clear y0 y1 lb hb9 hfre
        by_cases hq : 0 < sq (ts.map toS) C.toNat (k + 1) (k + 1)
        · rw [decide_eq_true hq] at q5
          have HQ := Lib.hid hq; clear hq
          go_wp2_with fail
          go_roundw
          case rel => exact ⟨k + 1, by have := HK.out; omega, by go_num, HB9.out, HBK9.out, by
            rw [← HG.out, show 5 - k = (5 - (k + 1)) + 1 by have := HK.out; omega, greatGo, if_pos HQ.out]⟩
          case measure => simp [intOf]; have := HK.out; omega
        · rw [decide_eq_false hq] at q5
          have HQ := Lib.hid hq; clear hq
          go_wp2_with fail
          go_ret2
          exact ⟨congrArg Ending.returned (by rw [greatR, HS.out, if_pos rfl, ← HG.out, greatGo_stop _ _ _ _ (Int.not_lt.2 HQ.out)]; rfl), HB9.out⟩
      · have i1 : ¬ (k : Int) < 5 := by omega
        have e : k = 5 := by omega
        subst e
        go_wp2_with fail
        go_ret2
        exact ⟨congrArg Ending.returned (by rw [greatR, HS.out, if_pos rfl, ← HG.out]; rfl), HB.out⟩
theorem specGreatestSquare_any (C : Int) (A : Option Addr) (ts : List T4) (n c : Nat) (w : World) (hn : n = ts.length) (hA : RT w A ts) (hnc : n ≤ c) (hl : n ≤ 35184372088832) :
    Calls Try.prog 16 #[.agg #[.int .i64 C, .slice A n c]] w fun e w' => e = .returned (pairI (greatR C ts)) ∧ Below w.heap.size w w' := by
  subst hn
  obtain ⟨k, hk⟩ := (specGreat_ev C (ts.map toS) (by simpa using hl)).rounds
  rw [map_toTS] at hk
  have h := spec_GreatestSquare.calls k C A c (ts.map toS) (greatR C ts).1 (greatR C ts).2 w (C_of_rt hA (by omega)) (by simpa using hnc) hk
  rw [List.length_map] at h
  exact h
end Go.Proofs.Ytcaikaflpmaocaa
namespace Go.Proofs.Ytcaikaflpmaocaa
open Go Go.RowKit Go.Proofs
set_option linter.unusedVariables false
set_option linter.unusedSimpArgs false
set_option maxHeartbeats 16000000 in
set_option maxRecDepth 100000 in
theorem lawGreatestSquare_any (w : World) (C0 : Int) (A0 : Option Addr) (ts0 : List T4) (n0 c0 : Nat) (hn0 : n0 = ts0.length) (hA0 : RT w A0 ts0) (hnc0 : n0 ≤ c0) (hl0 : n0 ≤ 35184372088832) (hC0 : -9223372036854775808 ≤ C0 ∧ C0 ≤ 9223372036854775807) :
    Calls Try.prog 4 #[.agg #[.int .i64 C0, .slice A0 n0 c0]] w fun e w' => e = .returned (.bool true) ∧ Below w.heap.size w w' := by
  subst hn0
  have HA0 := Lib.hid hA0; clear hA0
  by_cases hbig0 : (1048576 : Int) < ((ts0.length : Nat) : Int)
  · go_enter Try.func4, Try.ntmps4
    go_wp2_with fail
    refine namec1 ?_
    intro w1 b0 hz hB
    have tw1 : w.heap.size + 1 ≤ w1.heap.size := by omega
    clear hz
    have sw1 : w.heap.size ≤ w1.heap.size := hB.size
    have hE := Lib.hid (hB)
    clear hB
    refine (szSet_any C0 A0 ts0.length c0 (1048576) w1 (by omega) (by omega) (by omega)).mono ?_
    rintro e w2 ⟨rfl, hB⟩
    rw [if_pos (show (1048576 : Int) < (ts0.length : Nat) by omega)]
    replace b0 := b0.below hB b0.lt
    have sw2 : w1.heap.size ≤ w2.heap.size := hB.size
    replace hE := Lib.hid (below_to hE.out hB)
    clear hB
    go_wp2_with fail
    go_ret
    exact ⟨rfl, hE.out⟩
  · replace hbig0 : ((ts0.length : Nat) : Int) ≤ 1048576 := by omega
    obtain ⟨r_, hr_⟩ : ∃ r, greatR C0 ts0 = r := ⟨_, rfl⟩
    obtain ⟨r1, r2⟩ := r_
    have HR := Lib.hid hr_; clear hr_
    go_enter Try.func4, Try.ntmps4
    go_wp2_with fail
    refine namec1 ?_
    intro w1 b0 hz hB
    have tw1 : w.heap.size + 1 ≤ w1.heap.size := by omega
    clear hz
    have sw1 : w.heap.size ≤ w1.heap.size := hB.size
    have hE := Lib.hid (hB)
    clear hB
    refine (szSet_any C0 A0 ts0.length c0 (1048576) w1 (by omega) (by omega) (by omega)).mono ?_
    rintro e w2 ⟨rfl, hB⟩
    rw [if_neg (show ¬ (1048576 : Int) < (ts0.length : Nat) by omega)]
    replace b0 := b0.below hB b0.lt
    have sw2 : w1.heap.size ≤ w2.heap.size := hB.size
    replace hE := Lib.hid (below_to hE.out hB)
    clear hB
    have l0 := b0.lt
    have c0_0 : w2.cell? ⟨w.heap.size, 0, none⟩ = some (.int .i64 C0) := b0.cell rfl
    have c0_1 : w2.cell? ⟨w.heap.size, 1, none⟩ = some (.slice A0 ts0.length c0) := b0.cell rfl
    go_wp2_with fail
    clear l0 c0_0 c0_1
    refine (toSet_any C0 A0 ts0 ts0.length c0 w2 rfl (HA0.out.below hE.out) (by omega)).mono ?_
    rintro e w3 ⟨v_, rfl, hO, hB⟩
    obtain ⟨A1_, c1_, rfl, -, -⟩ := hO.reads
    have O1 := Lib.hid (OW.of hO)
    clear hO
    replace b0 := b0.below hB b0.lt
    have sw3 : w2.heap.size ≤ w3.heap.size := hB.size
    replace hE := Lib.hid (below_to hE.out hB)
    clear hB
    have l0 := b0.lt
    have c0_0 : w3.cell? ⟨w.heap.size, 0, none⟩ = some (.int .i64 C0) := b0.cell rfl
    have c0_1 : w3.cell? ⟨w.heap.size, 1, none⟩ = some (.slice A0 ts0.length c0) := b0.cell rfl
    go_wp2_with fail
    clear l0 c0_0 c0_1
    refine (specGreatestSquare_any C0 A1_ ts0 ts0.length c1_ w3 rfl (rt_of O1.out rfl) (le_of O1.out) (by omega)).mono ?_
    rintro e w4 ⟨rfl, hB⟩
    rw [HR.out]
    simp only [pairI]
    replace b0 := b0.below hB b0.lt
    replace O1 := Lib.hid (O1.out.to hB)
    have sw4 : w3.heap.size ≤ w4.heap.size := hB.size
    replace hE := Lib.hid (below_to hE.out hB)
    clear hB
    have l0 := b0.lt
    have c0_0 : w4.cell? ⟨w.heap.size, 0, none⟩ = some (.int .i64 C0) := b0.cell rfl
    have c0_1 : w4.cell? ⟨w.heap.size, 1, none⟩ = some (.slice A0 ts0.length c0) := b0.cell rfl
    go_wp2_with fail
    clear l0 c0_0 c0_1
    refine (toSet_any C0 A0 ts0 ts0.length c0 w4 rfl (HA0.out.below hE.out) (by omega)).mono ?_
    rintro e w5 ⟨v_, rfl, hO, hB⟩
    obtain ⟨A2_, c2_, rfl, -, -⟩ := hO.reads
    have O2 := Lib.hid (OW.of hO)
    clear hO
    replace b0 := b0.below hB b0.lt
    replace O1 := Lib.hid (O1.out.to hB)
    have sw5 : w4.heap.size ≤ w5.heap.size := hB.size
    replace hE := Lib.hid (below_to hE.out hB)
    clear hB
    have l0 := b0.lt
    have c0_0 : w5.cell? ⟨w.heap.size, 0, none⟩ = some (.int .i64 C0) := b0.cell rfl
    have c0_1 : w5.cell? ⟨w.heap.size, 1, none⟩ = some (.slice A0 ts0.length c0) := b0.cell rfl
    go_wp2_with fail
    clear l0 c0_0 c0_1
    refine namec1 ?_
    intro w6 b1 hz hB
    have tw6 : w5.heap.size + 1 ≤ w6.heap.size := by omega
    clear hz
    replace b0 := b0.below hB b0.lt
    replace O1 := Lib.hid (O1.out.to hB)
    replace O2 := Lib.hid (O2.out.to hB)
    have sw6 : w5.heap.size ≤ w6.heap.size := hB.size
    replace hE := Lib.hid (below_to hE.out hB)
    clear hB
    refine (implGreatestSquare_any C0 A2_ ts0 ts0.length c2_ w6 rfl (rt_of O2.out rfl) (le_of O2.out) (by omega)).mono ?_
    rintro e w7 ⟨rfl, hB⟩
    rw [HR.out]
    simp only [pairI]
    replace b0 := b0.below hB b0.lt
    replace b1 := b1.below hB b1.lt
    replace O1 := Lib.hid (O1.out.to hB)
    replace O2 := Lib.hid (O2.out.to hB)
    have sw7 : w6.heap.size ≤ w7.heap.size := hB.size
    replace hE := Lib.hid (below_to hE.out hB)
    clear hB
    have l0 := b0.lt
    have c0_0 : w7.cell? ⟨w.heap.size, 0, none⟩ = some (.int .i64 C0) := b0.cell rfl
    have c0_1 : w7.cell? ⟨w.heap.size, 1, none⟩ = some (.slice A0 ts0.length c0) := b0.cell rfl
    have l1 := b1.lt
    have c1_0 : w7.cell? ⟨w5.heap.size, 0, none⟩ = some (.int .i64 C0) := b1.cell rfl
    have c1_1 : w7.cell? ⟨w5.heap.size, 1, none⟩ = some (.slice A2_ ts0.length c2_) := b1.cell rfl
    go_wp2_with fail
    clear l0 c0_0 c0_1 l1 c1_0 c1_1
    have hD : Below w7.heap.size w7 w7.drew := (Below.refl _ _).drew
    replace b0 := b0.below hD b0.lt
    replace b1 := b1.below hD b1.lt
    replace O1 := Lib.hid (O1.out.to hD)
    replace O2 := Lib.hid (O2.out.to hD)
    replace hE := Lib.hid (below_to hE.out hD)
    clear hD
    have d1_w7 : w7.heap.size ≤ w7.drew.heap.size := Nat.le_refl _
    have d2_w7 : w7.drew.heap.size ≤ w7.heap.size := Nat.le_refl _
    go_region_held3 (fun w_ => w_.cell? ⟨w.heap.size, 0, none⟩ = some (.int .i64 C0) ∧ w_.cell? ⟨w.heap.size, 1, none⟩ = some (.slice A0 ts0.length c0) ∧ w_.cell? ⟨w5.heap.size, 0, none⟩ = some (.int .i64 C0) ∧ w_.cell? ⟨w5.heap.size, 1, none⟩ = some (.slice A2_ ts0.length c2_)) (first | exact ⟨b0.cell rfl, b0.cell rfl, b1.cell rfl, b1.cell rfl⟩)
      (first
        | (go_at_call 17; refine (toSet_any C0 A0 ts0 ts0.length c0 w7.drew rfl (HA0.out.below hE.out) (by omega)).mono ?_; rintro e w8 ⟨v_, rfl, hO, hB⟩; obtain ⟨A3_, c3_, rfl, -, -⟩ := hO.reads; have O3 := Lib.hid (OW.of hO); clear hO; replace b0 := b0.below hB b0.lt; replace b1 := b1.below hB b1.lt; replace O1 := Lib.hid (O1.out.to hB); replace O2 := Lib.hid (O2.out.to hB); have sw8 : w7.drew.heap.size ≤ w8.heap.size := hB.size; replace hE := Lib.hid (below_to hE.out hB); clear hB)
        | (go_at_call 19; refine (eqSet_any C0 C0 A2_ A3_ ts0 ts0 ts0.length ts0.length c2_ c3_ w8 rfl rfl (rt_of O2.out rfl) (rt_of O3.out rfl) (by omega) (by omega)).mono ?_; rintro e w9 ⟨rfl, hB⟩; simp only [decide_true, Bool.and_self]; replace b0 := b0.below hB b0.lt; replace b1 := b1.below hB b1.lt; replace O1 := Lib.hid (O1.out.to hB); replace O2 := Lib.hid (O2.out.to hB); replace O3 := Lib.hid (O3.out.to hB); have sw9 : w8.heap.size ≤ w9.heap.size := hB.size; replace hE := Lib.hid (below_to hE.out hB); clear hB))
    go_wp2_with fail
    go_ret
    exact ⟨rfl, hE.out⟩
end Go.Proofs.Ytcaikaflpmaocaa

/-
  Parts of the proof, in their order: FreeI, GreatI, TableI, LawSizeTable.
-/
import Derived.Test.YtcaikaflpmaocaaPk15
import Derived.Test.YtcaikaflpmaocaaPk17
import Derived.Test.YtcaikaflpmaocaaPk16
import Derived.Test.YtcaikaflpmaocaaPk8
import Derived.Deep.RegionHeld3
namespace Go.Proofs.Ytcaikaflpmaocaa
open Go Go.RowKit Go.Proofs Go.Proofs.YtcaikaflpmaocaaW.PrintWords Go.Proofs.YtcaikaflpmaocaaW.PrintLast Go.Proofs.YtcaikaflpmaocaaW.PrintMore Go.Proofs.Ytcaikaflpmaocaa.Q
set_option linter.unusedVariables false
set_option linter.unusedSimpArgs false
def freei_T1 : Bool × List (List Nat × List Nat) := (true, [([], []), ([], []), ([], []), ([1, 2], [1, 2]), ([], []), ([0, 3, 4, 3], [0, 3, 4]), ([5, 5, 0, 1, 2, 3, 4, 5], [5])])
def freei_B1 : List Nat := [0, 0, 0, 6, 0, 31, 63]
theorem freei_tab1 : rtab .any (opsOf Try.f48 1) = freei_T1 := by kernel_rfl
theorem freei_bits1 : waitsOk freei_T1.2 freei_B1 = true := by kernel_rfl
theorem freePlan_any (h wd : Nat) (h1 : 1 ≤ h) (h5 : h ≤ 5) (w1 : 1 ≤ wd) (w5 : wd ≤ 5) (w : World) : Calls Try.prog 39 #[.int .i64 h, .int .i64 wd] w fun e w' => ∃ A1 c1, e = .returned (.slice A1 h c1) ∧ RR w' A1 (freeP h wd) ∧ Below w.heap.size w w' := by
  have hf := implFree_small (a := (h : Int)) (b := (wd : Int)) ⟨by omega, by omega⟩ ⟨by omega, by omega⟩
  rw [Int.toNat_natCast, Int.toNat_natCast] at hf
  refine (impl_freePlan.calls 60 _ _ _ w hf).mono ?_
  rintro e w' ⟨v0, rfl, hS, hB⟩
  obtain ⟨A, c, rfl⟩ := Kd.S_slice hS
  have hr := rr_of_C (Kd.S_reads' hS).2.2
  exact ⟨A, c, by rw [List.length_replicate], hr, hB⟩
def FRE (w : World) (F : Nat) (C : Int) (cn : Nat) (A : Option Addr) (ts : List T4) (n c h wd : Nat) : Prop := ∃ (A1 : Option Addr) (c1 : Nat) (A2 : Option Addr) (c2 : Nat), FIL w F C cn A ts n c A1 (freeP h wd) h c1 A2 openB 4 c2 ∧ RR w A1 (freeP h wd)
theorem nameF {P : Program} {c : Code} {Q : Exit → Act → World → Prop} {a : Act} {w : World} {C1 : Array Value} {E1 : TypeId}
    (h : ∀ W, BK W w.heap.size C1 E1 → Below w.heap.size w W → c.wp P Q a W) : c.wp P Q a (w.alloc (.cells C1 E1)) := h _ (BK.new _ _ _) (below_alloc (Below.refl _ _) _)
set_option maxHeartbeats 4000000 in
set_option maxRecDepth 100000 in
theorem free_any (C : Int) (cn : Nat) (A : Option Addr) (ts : List T4) (n c h wd : Nat) (w : World) (hC : C = (cn : Int)) (hcn : 0 < cn) (c6 : cn ≤ 6) (hn : n = ts.length) (hA : RT w A ts) (hl : n ≤ 1000) (h1 : 1 ≤ h) (h5 : h ≤ 5) (w1 : 1 ≤ wd) (w5 : wd ≤ 5) (hcol : ∀ t ∈ ts.map toS, Col cn t) :
    Calls Try.prog 48 #[.agg #[.int .i64 C, .slice A n c], .int .i64 h, .int .i64 wd] w fun e w' => ∃ F : Nat, e = .returned (.pointer (some ⟨F, 0, none⟩)) ∧ Below w.heap.size w w' ∧ FRE w' F C cn A ts n c h wd := by
  have HC := Lib.hid hC; have HN := Lib.hid hn
  clear hC hn
  go_enter Try.func48, Try.ntmps48
  go_upto_region 1 with fail
  refine nameF ?_
  intro W1 b1 hb0
  have hD := (Below.refl W1.heap.size W1).drew
  refine start_ (n := 7) (S := fun w' => w'.cell? ⟨w.heap.size, 0, none⟩ = some (.int .i64 C) ∧ w'.cell? ⟨w.heap.size, 1, none⟩ = some (.slice A n c)) (ds := [5]) #[false, false, false, false, false, false, false] (by kernel_rfl) rfl rfl ⟨cell_to hD (b1.cell rfl), cell_to hD (b1.cell rfl)⟩ (fun hHeld => ?_)
  refine with_tabW freei_tab1 freei_bits1 (fun HT_ HW_ => ?_)
  generalize W1.drew = w0 at hD hHeld ⊢
  refine pure_ (i := 1) (N := some 8) (v := ?_) (a' := ?_) #[false, true, false, false, false, false, false] rfl rfl (any_of HT_.out (by kernel_rfl)) (fun _ _ _ h => h) (Or.inl ⟨by rfl, ?_⟩) ?_ ?_
  rotate_left
  · intro w'
    go_simp
    with_reducible rfl
  rotate_left
  · simp only [Act.put, List.setIfInBounds_toArray, List.set_cons_zero, List.set_cons_succ, i64_w, i32_w]
    rfl
  refine pure_ (i := 2) (N := some 9) (v := ?_) (a' := ?_) #[false, true, true, false, false, false, false] rfl rfl (any_of HT_.out (by kernel_rfl)) (fun _ _ _ h => h) (Or.inl ⟨by rfl, ?_⟩) ?_ ?_
  rotate_left
  · intro w'
    go_simp
    with_reducible rfl
  rotate_left
  · simp only [Act.put, List.setIfInBounds_toArray, List.set_cons_zero, List.set_cons_succ, i64_w, i32_w]
    rfl
  refine take_ (i := 0) (N := some 7) (v := ?_) (a' := ?_) #[true, true, true, false, false, false, false] rfl rfl (take_ofW HT_.out HW_.out (by kernel_rfl)) (fun _ _ _ h => h) (Or.inl ⟨by rfl, ?_⟩) hHeld ?_ ?_
  rotate_left
  · rintro w' ⟨s0, s1⟩
    go_simp
    with_reducible rfl
  rotate_left
  · simp only [Act.put, List.setIfInBounds_toArray, List.set_cons_zero, List.set_cons_succ, i64_w, i32_w]
    rfl
  refine join_ (σ := Option Addr × Nat × Nat × Nat) 2 #[true, true, true, true, true, false, false] (fun s_ => [(10, .slice s_.1 h s_.2.1), (11, .slice (some ⟨s_.2.2.1, 0, none⟩) 4 s_.2.2.2)]) (fun s_ w' => w'.cell? ⟨w.heap.size, 0, none⟩ = some (.int .i64 C) ∧ w'.cell? ⟨w.heap.size, 1, none⟩ = some (.slice A n c) ∧ RR w' s_.1 (freeP h wd) ∧ RR w' (some ⟨s_.2.2.1, 0, none⟩) openB ∧ Below w0.heap.size w0 w') ?_ ?_
  rotate_left
  · intro hCont
    refine two_ (i := 3) (j := 4) (Ni := some 10) (Nj := some 11) #[true, true, true, true, false, false, false] #[true, true, true, false, true, false, false] rfl rfl rfl rfl (two_of HT_.out (by kernel_rfl)) (by decide) (by decide) (fun K hK => ?_) (fun K hK => ?_)
    · skip
      refine goes_ Try.func39 (by kernel_rfl) rfl #[.int .i64 h, .int .i64 wd] (by rfl) rfl rfl (by simp only [List.map_toArray, List.map_cons, List.map_nil]; rfl) ?_
      with_reducible refine (freePlan_any h wd h1 h5 w1 w5 _).mono ?_
      rintro e w3 ⟨A1, c1, rfl, hR1, hb3⟩
      refine ⟨_, rfl, ?_⟩
      refine hK.out _ _ ⟨cell_to hb3 hHeld.1, cell_to hb3 hHeld.2⟩ (fun hHeld => ?_)
      clear hK K
      refine norm_ (a' := ?_) ?_ ?_
      rotate_left
      · show Act.put _ (some 10) _ = _
        simp only [Act.put, List.setIfInBounds_toArray, List.set_cons_zero, List.set_cons_succ, i64_w, i32_w]
        rfl
      refine one_ (i := 4) (N := some 11) #[true, true, true, true, true, false, false] rfl rfl (one_of HT_.out (by kernel_rfl)) (by decide) (fun K hK => ?_)
      refine Kd.R_make_step (Kd.slice 2 (Kd.int .i64)) (w0 := w3) w3.heap.size 56 (by rfl) (N := 11) rfl 22 _ _ rfl (4 : Int) rfl rfl Try.underlying22 (.slice none 0 0) 24 info56 rfl (by decide) (by omega) [] (ok := fun _ => True) (okp := fun _ => True) ⟨_, rfl, Kd.R_nil _ _ _ _ _⟩ (fun _ hk => hk) trivial (by omega) (by omega) (Below.refl _ _) (Nat.le_refl _) ?_
      intro nv4 w11 hnw hbm hgm hnewm
      obtain ⟨g4, c4, hnv⟩ := repR_form (m := 4) hnw (by decide) (by omega)
      subst hnv
      have hR4 : RR w11 (some ⟨g4, 0, none⟩) openB := rr_of_C (Kd.R_reads' hnw).2.2
      refine hK.out _ _ ⟨cell_to hbm hHeld.1, cell_to hbm hHeld.2⟩ (fun hHeld => ?_)
      clear hK K
      refine norm_ (a' := ?_) ?_ ?_
      rotate_left
      · show Act.put _ (some 11) _ = _
        simp only [Act.put, List.setIfInBounds_toArray, List.set_cons_zero, List.set_cons_succ, i64_w, i32_w]
        rfl
      exact norm_ (by first | (simp only [putAll, Act.put, List.setIfInBounds_toArray, List.set_cons_zero, List.set_cons_succ]; done) | (simp only [putAll, Act.put, List.setIfInBounds_toArray, List.set_cons_zero, List.set_cons_succ]; rfl)) (hCont (A1, c1, g4, c4) _ ⟨hHeld.1, hHeld.2, hR1.below hbm, hR4, below_to hb3 hbm⟩)
    · skip
      refine Kd.R_make_step (Kd.slice 2 (Kd.int .i64)) (w0 := w0) w0.heap.size 56 (by rfl) (N := 11) rfl 22 _ _ rfl (4 : Int) rfl rfl Try.underlying22 (.slice none 0 0) 24 info56 rfl (by decide) (by omega) [] (ok := fun _ => True) (okp := fun _ => True) ⟨_, rfl, Kd.R_nil _ _ _ _ _⟩ (fun _ hk => hk) trivial (by omega) (by omega) (Below.refl _ _) (Nat.le_refl _) ?_
      intro nv4 w11 hnw hbm hgm hnewm
      obtain ⟨g4, c4, hnv⟩ := repR_form (m := 4) hnw (by decide) (by omega)
      subst hnv
      have hR4 : RR w11 (some ⟨g4, 0, none⟩) openB := rr_of_C (Kd.R_reads' hnw).2.2
      refine hK.out _ _ ⟨cell_to hbm hHeld.1, cell_to hbm hHeld.2⟩ (fun hHeld => ?_)
      clear hK K
      refine norm_ (a' := ?_) ?_ ?_
      rotate_left
      · show Act.put _ (some 11) _ = _
        simp only [Act.put, List.setIfInBounds_toArray, List.set_cons_zero, List.set_cons_succ, i64_w, i32_w]
        rfl
      refine one_ (i := 3) (N := some 10) #[true, true, true, true, true, false, false] rfl rfl (one_of HT_.out (by kernel_rfl)) (by decide) (fun K hK => ?_)
      refine goes_ Try.func39 (by kernel_rfl) rfl #[.int .i64 h, .int .i64 wd] (by rfl) rfl rfl (by simp only [List.map_toArray, List.map_cons, List.map_nil]; rfl) ?_
      with_reducible refine (freePlan_any h wd h1 h5 w1 w5 _).mono ?_
      rintro e w3 ⟨A1, c1, rfl, hR1, hb3⟩
      refine ⟨_, rfl, ?_⟩
      refine hK.out _ _ ⟨cell_to hb3 hHeld.1, cell_to hb3 hHeld.2⟩ (fun hHeld => ?_)
      clear hK K
      refine norm_ (a' := ?_) ?_ ?_
      rotate_left
      · show Act.put _ (some 10) _ = _
        simp only [Act.put, List.setIfInBounds_toArray, List.set_cons_zero, List.set_cons_succ, i64_w, i32_w]
        rfl
      exact norm_ (by first | (simp only [putAll, Act.put, List.setIfInBounds_toArray, List.set_cons_zero, List.set_cons_succ]; done) | (simp only [putAll, Act.put, List.setIfInBounds_toArray, List.set_cons_zero, List.set_cons_succ]; rfl)) (hCont (A1, c1, g4, c4) _ ⟨hHeld.1, hHeld.2, hR1, hR4.below hb3, below_to hbm hb3⟩)
  rintro ⟨A1, c1, g4, c4⟩ w4 ⟨hq1, hq2, hR1, hR4, hb4⟩
  have hHeld : w4.cell? ⟨w.heap.size, 0, none⟩ = some (.int .i64 C) ∧ w4.cell? ⟨w.heap.size, 1, none⟩ = some (.slice A n c) := ⟨hq1, hq2⟩
  refine norm_ (a' := ?_) ?_ ?_
  rotate_left
  · simp only [putAll, Act.put, List.setIfInBounds_toArray, List.set_cons_zero, List.set_cons_succ]
    rfl
  refine last_ (i := 5) (N := some 12) #[true, true, true, true, true, true, false] rfl rfl (one_of HT_.out (by kernel_rfl)) (by decide) (fun K hK => ?_)
  refine goes_ Try.func60 (by kernel_rfl) rfl #[.agg #[.int .i64 C, .slice A n c], .slice A1 h c1, .slice (some ⟨g4, 0, none⟩) 4 c4] (by rfl) rfl rfl (by simp only [List.map_toArray, List.map_cons, List.map_nil]; rfl) ?_
  with_reducible refine (newFiller_any C cn A ts n c A1 (freeP h wd) h c1 (some ⟨g4, 0, none⟩) openB 4 c4 w4 HC.out hcn c6 HN.out (hA.below (below_to (below_to hb0 hD) hb4)) hl (by simp [freeP]) hR1 rfl hR4 (shape_free h1 h5 w1 w5) hcol).mono ?_
  rintro e w5_ ⟨FF, rfl, hb5, hF5, hfil⟩
  refine ⟨_, rfl, ?_⟩
  refine hK.out _ _ ?_
  clear hK K
  refine norm_ (a' := ?_) ?_ ?_
  rotate_left
  · show Act.put _ (some 12) _ = _
    simp only [Act.put, List.setIfInBounds_toArray, List.set_cons_zero, List.set_cons_succ, i64_w, i32_w]
    rfl
  refine pure_ (i := 6) (N := some 6) (v := ?_) (a' := ?_) #[true, true, true, true, true, true, true] rfl rfl (any_of HT_.out (by kernel_rfl)) (fun _ _ _ h => h) (Or.inl ⟨by rfl, ?_⟩) ?_ ?_
  rotate_left
  · intro w'
    go_simp
    with_reducible rfl
  rotate_left
  · simp only [Act.put, List.setIfInBounds_toArray, List.set_cons_zero, List.set_cons_succ, i64_w, i32_w]
    rfl
  refine done_ (done_of HT_.out (by kernel_rfl)) ?_
  go_wp2_with fail
  go_ret
  exact ⟨FF, rfl, below_to (below_to (below_to hb0 hD) hb4) hb5, A1, c1, _, _, hfil, hR1.below hb5⟩
end Go.Proofs.Ytcaikaflpmaocaa
namespace Go.Proofs.Ytcaikaflpmaocaa
open Go Go.RowKit Go.Proofs Go.Proofs.YtcaikaflpmaocaaW.PrintWords Go.Proofs.YtcaikaflpmaocaaW.PrintLast Go.Proofs.YtcaikaflpmaocaaW.PrintMore Go.Proofs.Ytcaikaflpmaocaa.Q
set_option linter.unusedVariables false
set_option linter.unusedSimpArgs false
theorem on_eq (c : Nat) (plan bs : List (List Int)) (l : List STile) (hc : 0 < c) (hw : 1 ≤ rowLen plan 0) (hcol : ∀ t ∈ l, Col c t) : onw (stepI c plan bs l) l.length (places plan) 0 0 = numS c plan bs l := by
  unfold numS onS stepS stepI
  rw [Nat.sub_zero]
  exact (onw_like c (rowLen plan 0) l (fitP plan bs l) hc (by omega) hcol (places plan) 0 0 0 ⟨rfl, fun _ => rfl⟩).symm
theorem alv_first (T : Nx) (n sz P : Nat) (hsz : 0 < sz) : alvAt T n sz P 0 0 = decide (0 < onw T n P 0 0) := by
  have e : ik (fwd T n sz 0) 0 = 1 := by
    show (unit sz 0).getD 0 0 = 1
    rw [unit, getD_set _ _ _ _ (by simpa using hsz), if_pos rfl]
  unfold alvAt onB
  rw [e, Nat.sub_zero]
  rfl
theorem FRE.alive {w : World} {F : Nat} {C : Int} {cn : Nat} {A : Option Addr} {ts : List T4} {n c h wd : Nat} (hf : FRE w F C cn A ts n c h wd) (hcn : 0 < cn) (h1 : 1 ≤ h) (w1 : 1 ≤ wd) (hcol : ∀ t ∈ ts.map toS, Col cn t) :
    ∃ (ga P1 ca gr m cr : Nat), w.cell? ⟨F, 6, none⟩ = some (.slice (some ⟨ga, 0, none⟩) P1 ca) ∧ (0 : Int) < P1 ∧ w.cell? ⟨ga, 0, none⟩ = some (.slice (some ⟨gr, 0, none⟩) m cr) ∧ (0 : Int) < m ∧ w.cell? ⟨gr, 0, none⟩ = some (.bool (decide (0 < sq (ts.map toS) cn h wd))) ∧ F < w.heap.size ∧ ga < w.heap.size ∧ gr < w.heap.size := by
  obtain ⟨A1, c1, A2, c2, hfil, -⟩ := hf
  obtain ⟨Ap, cp, gc, cc, ga, ca, -, -, -, k6, -, -, hrb⟩ := hfil
  have hsz : 0 < size cn (freeP h wd) := Nat.pow_pos hcn
  have e1 : (alvL (stepI cn (freeP h wd) openB (ts.map toS)) (ts.map toS).length (size cn (freeP h wd)) (places (freeP h wd)) 0).getD 0 [] = alvRow (stepI cn (freeP h wd) openB (ts.map toS)) (ts.map toS).length (size cn (freeP h wd)) (places (freeP h wd)) 0 := alvL_get _ _ _ _ _ _ (Nat.zero_le _) (Nat.le_refl _)
  obtain ⟨gr, cr, l1, l2, z1, z2⟩ := hrb 0 0 (by rw [alvL_len]; omega) (by rw [e1, alvRow_len]; exact hsz)
  have hw : rowLen (freeP h wd) 0 = wd := rowLen_free (by omega)
  rw [e1, alvRow_len] at z1
  rw [e1, alvRow_get _ _ _ _ _ _ hsz, alv_first _ _ _ _ hsz, on_eq cn (freeP h wd) openB (ts.map toS) hcn (by rw [hw]; exact w1) hcol] at z2
  have lF := World.block_lt_of_cell? w _ k6
  exact ⟨ga, _, ca, gr, _, cr, k6, by omega, z1, by omega, z2, lF, l1, l2⟩
end Go.Proofs.Ytcaikaflpmaocaa
namespace Go.Proofs.Ytcaikaflpmaocaa
open Go Go.RowKit Go.Proofs Go.Proofs.YtcaikaflpmaocaaW.PrintWords Go.Proofs.YtcaikaflpmaocaaW.PrintLast Go.Proofs.YtcaikaflpmaocaaW.PrintMore Go.Proofs.Ytcaikaflpmaocaa.Q
set_option linter.unusedVariables false
set_option linter.unusedSimpArgs false
def rowTo (l : List STile) (c h d : Nat) : List Int := (List.range d).map fun w => bit (sq l c (h + 1) (w + 1))
def tabTo (l : List STile) (c h : Nat) : List (List Int) := (List.range h).map fun k => rowTo l c k 3
theorem rowTo_succ (l : List STile) (c h d : Nat) : rowTo l c h (d + 1) = rowTo l c h d ++ [bit (sq l c (h + 1) (d + 1))] := by simp [rowTo, List.range_succ]
theorem tabTo_succ (l : List STile) (c h : Nat) : tabTo l c (h + 1) = tabTo l c h ++ [rowTo l c h 3] := by simp [tabTo, List.range_succ]
def TabPost (w w' : World) (C : Int) (ts : List T4) (e : Ending) : Prop := ∃ v xs code, tableR C ts = (xs, code) ∧ e = .returned (.tuple #[v, .int .i64 code]) ∧ OWS w' w.heap.size w'.heap.size v xs (fun i => icells (rowAt xs i)) ∧ Below w.heap.size w w'
set_option maxHeartbeats 4000000 in
set_option maxRecDepth 100000 in
theorem implTable0 (C : Int) (A : Option Addr) (ts : List T4) (n c : Nat) (w : World) (hn : n = ts.length) (hA : RT w A ts) (hnc : n ≤ c) (hl : n ≤ 35184372088832) :
    Calls Try.prog 23 #[.agg #[.int .i64 C, .slice A n c]] w fun e w' => TabPost w w' C ts e := by
  have HN := Lib.hid hn; have HA := Lib.hid hA
  clear hn hA
  go_enter Try.func23, Try.ntmps23
  go_upto_region 1 with fail
  refine nameF ?_
  intro W0 b1 hb0
  have z0 : W0.cell? ⟨w.heap.size, 0, none⟩ = some (.int .i64 C) := b1.cell rfl
  have z1 : W0.cell? ⟨w.heap.size, 1, none⟩ = some (.slice A n c) := b1.cell rfl
  have lb := b1.lt
  have HB1 := Lib.hid b1; have HB0 := Lib.hid hb0
  clear b1 hb0
  go_wp2_with fail
  refine (IsSet_any C A ts n c W0 HN.out (HA.out.below HB0.out) hl).mono ?_
  rintro e W1 ⟨rfl, hb2⟩
  have b2 := (hb2.block _ lb).trans HB1.out
  have HB2 := Lib.hid b2; have HE2 := Lib.hid (below_to HB0.out hb2)
  have HLB := Lib.hid (BK.lt b2)
  clear b2 hb2 z0 z1 lb
  cases hs : isS C ts with
  | false =>
    have HS := Lib.hid hs; clear hs
    go_wp2_with fail
    go_ret2
    exact ⟨_, _, _, by rw [tableR, HS.out]; rfl, rfl, ows_of_S (Kd.S_nil (Kd.slice 2 (Kd.int .i64)) _ _ _ (fun _ => True)), HE2.out⟩
  | true =>
    have hs2 : isS C ((ts.map toS).map toT) = true := by rw [map_toTS]; exact hs
    obtain ⟨hC, hl16, hcol⟩ := isS_cols hs2
    have HS := Lib.hid hs; have HCOL := Lib.hid hcol; have HC := Lib.hid hC
    have HL := Lib.hid (show n ≤ 1000 by rw [HN.out]; simpa using Nat.le_trans hl16 (by omega))
    clear hs hs2 hcol hC hl16
    go_wp2_with (first | ((with_reducible refine gate_dst (N := 12) rfl ?_); refine Kd.S_lit (Kd.slice 2 (Kd.int .i64)) W1.heap.size 56 ?hg (N := 12) ?hd (xs := ([] : List (List Int))) (inner := []) (ok := fun _ => True) (okp := fun _ => True) ?hr ?hp (fun _ hk => hk) trivial (Below.refl _ _) (Nat.le_refl _) (by simp) ?_; (case hd => rfl); (case hg => rfl); (case hr => first | (go_simp; done) | (go_simp; rfl)); (case hp => exact (Reps.none _ _)); intro v12 w3 ho hb hg_ hnew_; have HO := Lib.hid ho; have HBB := Lib.hid hb; clear ho hb hg_ hnew_))
    go_loopw [4, 5] (fun v4 v5 wr => ∃ h : Nat, h ≤ 3 ∧ v5 = .int .i64 ((h + 1 : Nat) : Int) ∧ Kd.S (Kd.slice 2 (Kd.int .i64)) 56 wr W1.heap.size (fun _ => True) v4 (tabTo (ts.map toS) C.toNat h) ∧ Below W1.heap.size W1 wr) (fun _ v5 _ => 4 - (intOf v5).toNat)
    case atStart => exact ⟨0, by omega, rfl, HO.out, HBB.out⟩
    case round =>
      obtain ⟨h, hh, rfl, hS, hB⟩ := hrel
      have HS4 := Lib.hid hS; have HB4 := Lib.hid hB; have HH := Lib.hid hh
      clear hS hB
      by_cases hlt : h < 3
      · have i1 : ((h + 1 : Nat) : Int) ≤ 3 := by omega
        have HLT := Lib.hid hlt
        go_wp2_with (first | ((with_reducible refine gate_dst (N := 17) rfl ?_); refine Kd.R_lit (Kd.int .i64) wr.heap.size 2 ?hg (N := 17) ?hd (xs := ([] : List Int)) (inner := []) (ok := fun _ => True) (okp := fun _ => True) ?hr ?hp (fun _ hk => hk) trivial (Below.refl _ _) (Nat.le_refl _) (by simp) ?_; (case hd => rfl); (case hg => rfl); (case hr => first | (go_simp; done) | (go_simp; rfl)); (case hp => exact (Reps.none _ _)); intro v17 w6 ho hb hg_ hnew_; have HO6 := Lib.hid (Kd.R_lower ho HB4.out.size); have HS6 := Lib.hid (Kd.S_mono (Kd.S_elder' HS4.out (Kd.R_base ho) hb) (fun _ hk => hk.2)); have HB6 := Lib.hid (below_to HB4.out hb); clear ho hb hg_ hnew_))
        go_loopw [6, 7] (fun v6 v7 wr => ∃ d : Nat, d ≤ 3 ∧ v7 = .int .i64 ((d + 1 : Nat) : Int) ∧ Kd.R (Kd.int .i64) 2 wr W1.heap.size (fun _ => True) v6 (rowTo (ts.map toS) C.toNat h d) ∧ Kd.S (Kd.slice 2 (Kd.int .i64)) 56 wr W1.heap.size (fun k_ => some k_ ≠ (v6 : Value).ownBlock) u4 (tabTo (ts.map toS) C.toNat h) ∧ Below W1.heap.size W1 wr) (fun _ v7 _ => 4 - (intOf v7).toNat)
        case atStart => exact ⟨0, by omega, rfl, HO6.out, HS6.out, HB6.out⟩
        case round =>
          obtain ⟨d, hd, rfl, hR, hS, hB⟩ := hrel
          by_cases hld : d < 3
          · have i2 : ((d + 1 : Nat) : Int) ≤ 3 := by omega
            have HD := Lib.hid hld
            have y0 : wr.cell? ⟨w.heap.size, 0, none⟩ = some (.int .i64 C) := cell_to hB (BK.cell HB2.out rfl)
            have y1 : wr.cell? ⟨w.heap.size, 1, none⟩ = some (.slice A n c) := cell_to hB (BK.cell HB2.out rfl)
            have lb : w.heap.size < wr.heap.size := by have := HLB.out; have := hB.size; omega
            have HR := Lib.hid hR; have HSS := Lib.hid hS; have HB := Lib.hid hB
            clear hR hS hB
            go_wp2_with fail
            refine (free_any C C.toNat A ts n c (h + 1) (d + 1) wr (by have := HC.out; omega) (by have := HC.out; omega) (by have := HC.out; omega) HN.out (HA.out.below (HE2.out.trans (HB.out.mono HE2.out.size))) HL.out (by omega) (by omega) (by omega) (by omega) HCOL.out).mono ?_
            rintro e W9 ⟨F, rfl, hb9, hfre⟩
            obtain ⟨ga, P1, ca, gr, m, cr, q1, q2, q3, q4, q5, q6, q7, q8⟩ := hfre.alive (by have := HC.out; omega) (by omega) (by omega) HCOL.out
            have HB9 := Lib.hid (below_to HB.out hb9); have HR9 := Lib.hid (Kd.R_below HR.out hb9); have HS9 := Lib.hid (Kd.S_below HSS.out hb9)
            clear y0 y1 lb hb9 hfre HR HSS
            by_cases hq : 0 < sq (ts.map toS) C.toNat (h + 1) (d + 1)
            · rw [decide_eq_true hq] at q5
              have HQ := Lib.hid (show bit (sq (ts.map toS) C.toNat (h + 1) (d + 1)) = 1 by rw [bit, if_pos hq]); clear hq
              go_wp2_with (first | ((with_reducible refine gate_builtin (b := .append) (xs := #[.tmp 33, .tmp 35]) rfl ?_); at_builtin; refine Kd.R_append (Kd.int .i64) (w0 := W1) W1.heap.size rfl (.tmp 33) (.tmp 35) 56 2 (.int .i64 0) 8 rfl Try.underlying56 info2 rfl (by decide) (by omega) u6 (rowTo (ts.map toS) C.toNat h d) (1) [.int .i64 (1)] (fun _ => True) (fun _ => False) rfl rfl ?aP (fun _ hk => hk.elim) ?aF ?aO ?aB ?aS ?aL ?_; (case aP => exact rfl); (case aF => exact fun _ _ => trivial); (case aO => exact HR9.out); (case aB => exact HB9.out); (case aS => exact HB9.out.size); (case aL => have := HD.out; simp [rowTo]; omega); intro v1 w10 ho hb hg hat; have HO := Lib.hid ho; have HBA := Lib.hid hb; have HSA := Lib.hid (Kd.S_after (ok := fun _ => True) (Kd.S_mono HS9.out (fun _ hk => ⟨trivial, hk⟩)) hg hat); clear ho hb hg hat))
              go_roundw
              case rel => exact ⟨d + 1, by have := HD.out; omega, by go_num, by rw [rowTo_succ, HQ.out]; exact HO.out, Kd.S_mono HSA.out (fun _ hk => hk.2), HBA.out⟩
              case measure => simp [intOf]; have := HD.out; omega
            · rw [decide_eq_false hq] at q5
              have HQ := Lib.hid (show bit (sq (ts.map toS) C.toNat (h + 1) (d + 1)) = 0 by rw [bit, if_neg hq]); clear hq
              go_wp2_with (first | ((with_reducible refine gate_builtin (b := .append) (xs := #[.tmp 33, .tmp 35]) rfl ?_); at_builtin; refine Kd.R_append (Kd.int .i64) (w0 := W1) W1.heap.size rfl (.tmp 33) (.tmp 35) 56 2 (.int .i64 0) 8 rfl Try.underlying56 info2 rfl (by decide) (by omega) u6 (rowTo (ts.map toS) C.toNat h d) (0) [.int .i64 (0)] (fun _ => True) (fun _ => False) rfl rfl ?aP (fun _ hk => hk.elim) ?aF ?aO ?aB ?aS ?aL ?_; (case aP => exact rfl); (case aF => exact fun _ _ => trivial); (case aO => exact HR9.out); (case aB => exact HB9.out); (case aS => exact HB9.out.size); (case aL => have := HD.out; simp [rowTo]; omega); intro v1 w10 ho hb hg hat; have HO := Lib.hid ho; have HBA := Lib.hid hb; have HSA := Lib.hid (Kd.S_after (ok := fun _ => True) (Kd.S_mono HS9.out (fun _ hk => ⟨trivial, hk⟩)) hg hat); clear ho hb hg hat))
              go_roundw
              case rel => exact ⟨d + 1, by have := HD.out; omega, by go_num, by rw [rowTo_succ, HQ.out]; exact HO.out, Kd.S_mono HSA.out (fun _ hk => hk.2), HBA.out⟩
              case measure => simp [intOf]; have := HD.out; omega
          · have i2 : ¬ ((d + 1 : Nat) : Int) ≤ 3 := by omega
            obtain rfl : d = 3 := by omega
            obtain ⟨Ar, cr, hu⟩ := Kd.R_slice hR
            subst hu
            have HR := Lib.hid hR; have HSS := Lib.hid hS; have HB := Lib.hid hB
            clear hR hS hB
            have hlen : (rowTo (ts.map toS) C.toNat h 3).length = 3 := by simp [rowTo]
            rw [hlen] at HR HSS ⊢
            clear hlen
            go_wp2_with (first | ((with_reducible refine gate_builtin (b := .append) (xs := #[.tmp 37, .tmp 39]) rfl ?_); at_builtin; refine Kd.S_append (Kd.slice 2 (Kd.int .i64)) (w0 := W1) W1.heap.size rfl (.tmp 37) (.tmp 39) 22 56 (.slice none 0 0) 24 rfl Try.underlying22 info56 rfl (by decide) (by omega) u4 (tabTo (ts.map toS) C.toNat h) (rowTo (ts.map toS) C.toNat h 3) [.slice Ar 3 cr] (fun _ => True) (fun k_ => some k_ = (Value.slice Ar 3 cr).ownBlock) rfl rfl ?aP ?aK ?aF ?aO ?aB ?aS ?aL ?_; (case aP => exact Kd.M_row (Kd.R_tight rfl HR.out)); (case aK => exact fun k hk => ⟨trivial, fun e => (Kd.S_R HSS.out).1 k e.symm hk⟩); (case aF => exact fun _ _ => trivial); (case aO => exact Kd.S_mono HSS.out (fun k hk => ⟨trivial, hk⟩)); (case aB => exact HB.out); (case aS => exact HB.out.size); (case aL => have := HLT.out; simp [tabTo]; omega); intro v1 w10 ho hb hg hat; have HO := Lib.hid ho; have HBA := Lib.hid hb; clear ho hb hg hat))
            go_roundw
            case rel => exact ⟨h + 1, by have := HLT.out; omega, by go_num, by rw [tabTo_succ]; exact HO.out, HBA.out⟩
            case measure => simp [intOf]; have := HLT.out; omega
      · have i1 : ¬ ((h + 1 : Nat) : Int) ≤ 3 := by omega
        obtain rfl : h = 3 := by omega
        go_wp2_with fail
        go_ret2
        exact ⟨_, _, _, by rw [tableR, HS.out]; rfl, rfl, ows_of_S (Kd.S_lower HS4.out HE2.out.size), HE2.out.trans (HB4.out.mono HE2.out.size)⟩
theorem implSizeTable_any (C : Int) (A : Option Addr) (ts : List T4) (n c : Nat) (w : World) (hn : n = ts.length) (hA : RT w A ts) (hnc : n ≤ c) (hl : n ≤ 35184372088832) :
    Calls Try.prog 23 #[.agg #[.int .i64 C, .slice A n c]] w fun e w' => ∃ v xs code, tableR C ts = (xs, code) ∧ e = .returned (.tuple #[v, .int .i64 code]) ∧ OWS w' w.heap.size w'.heap.size v xs (fun i => icells (rowAt xs i)) ∧ Below w.heap.size w w' :=
  implTable0 C A ts n c w hn hA hnc hl
theorem specSizeTable_any (C : Int) (A : Option Addr) (ts : List T4) (n c : Nat) (w : World) (hn : n = ts.length) (hA : RT w A ts) (hnc : n ≤ c) (hl : n ≤ 35184372088832) :
    Calls Try.prog 22 #[.agg #[.int .i64 C, .slice A n c]] w fun e w' => ∃ v xs code, tableR C ts = (xs, code) ∧ e = .returned (.tuple #[v, .int .i64 code]) ∧ OWS w' w.heap.size w'.heap.size v xs (fun i => icells (rowAt xs i)) ∧ Below w.heap.size w w' := by
  subst hn
  obtain ⟨k, hk⟩ := (specTable_ev C (ts.map toS) (by simpa using hl)).rounds
  rw [map_toTS] at hk
  have h := spec_SizeTable.calls k C A c (ts.map toS) (tableR C ts).1 (tableR C ts).2 w (C_of_rt hA (by omega)) (by simpa using hnc) hk
  rw [List.length_map] at h
  exact h.mono fun e w' ⟨v, he, hR, hB⟩ => ⟨v, _, _, rfl, he, ows_of_S hR, hB⟩
theorem tableR_len (C : Int) (ts : List T4) : (tableR C ts).1.length ≤ 1000000 ∧ rowsz0 (tableR C ts).1 ≤ 40000000 := by
  unfold tableR
  split
  · refine ⟨by simp [tableL], ?_⟩
    simp [rowsz0, tableL, tot, rowLen, rowAt, List.range_succ]
  · exact ⟨by simp, by simp [rowsz0, tot]⟩
end Go.Proofs.Ytcaikaflpmaocaa
namespace Go.Proofs.Ytcaikaflpmaocaa
open Go Go.RowKit Go.Proofs
set_option linter.unusedVariables false
set_option linter.unusedSimpArgs false
set_option maxHeartbeats 16000000 in
set_option maxRecDepth 100000 in
theorem lawSizeTable_any (w : World) (C0 : Int) (A0 : Option Addr) (ts0 : List T4) (n0 c0 : Nat) (hn0 : n0 = ts0.length) (hA0 : RT w A0 ts0) (hnc0 : n0 ≤ c0) (hl0 : n0 ≤ 35184372088832) (hC0 : -9223372036854775808 ≤ C0 ∧ C0 ≤ 9223372036854775807) :
    Calls Try.prog 6 #[.agg #[.int .i64 C0, .slice A0 n0 c0]] w fun e w' => e = .returned (.bool true) ∧ Below w.heap.size w w' := by
  subst hn0
  have HA0 := Lib.hid hA0; clear hA0
  by_cases hbig0 : (1048576 : Int) < ((ts0.length : Nat) : Int)
  · go_enter Try.func6, Try.ntmps6
    go_wp2_with fail
    refine namec1 ?_
    intro w1 b0 hz hB
    have tw1 : w.heap.size + 1 ≤ w1.heap.size := by omega
    clear hz
    have sw1 : w.heap.size ≤ w1.heap.size := hB.size
    have hE := Lib.hid (hB)
    clear hB
    refine (szSet_any C0 A0 ts0.length c0 (1048576) w1 (by omega) (by omega) (by omega)).mono ?_
    rintro e w2 ⟨rfl, hB⟩
    rw [if_pos (show (1048576 : Int) < (ts0.length : Nat) by omega)]
    replace b0 := b0.below hB b0.lt
    have sw2 : w1.heap.size ≤ w2.heap.size := hB.size
    replace hE := Lib.hid (below_to hE.out hB)
    clear hB
    go_wp2_with fail
    go_ret
    exact ⟨rfl, hE.out⟩
  · replace hbig0 : ((ts0.length : Nat) : Int) ≤ 1048576 := by omega
    obtain ⟨r_, hr_⟩ : ∃ r, tableR C0 ts0 = r := ⟨_, rfl⟩
    obtain ⟨r1, r2⟩ := r_
    have hb1 : r1.length ≤ 1000000 ∧ rowsz0 r1 ≤ 40000000 := by have h_ := tableR_len C0 ts0; rw [hr_] at h_; exact h_
    have HR := Lib.hid hr_; clear hr_
    go_enter Try.func6, Try.ntmps6
    go_wp2_with fail
    refine namec1 ?_
    intro w1 b0 hz hB
    have tw1 : w.heap.size + 1 ≤ w1.heap.size := by omega
    clear hz
    have sw1 : w.heap.size ≤ w1.heap.size := hB.size
    have hE := Lib.hid (hB)
    clear hB
    refine (szSet_any C0 A0 ts0.length c0 (1048576) w1 (by omega) (by omega) (by omega)).mono ?_
    rintro e w2 ⟨rfl, hB⟩
    rw [if_neg (show ¬ (1048576 : Int) < (ts0.length : Nat) by omega)]
    replace b0 := b0.below hB b0.lt
    have sw2 : w1.heap.size ≤ w2.heap.size := hB.size
    replace hE := Lib.hid (below_to hE.out hB)
    clear hB
    have l0 := b0.lt
    have c0_0 : w2.cell? ⟨w.heap.size, 0, none⟩ = some (.int .i64 C0) := b0.cell rfl
    have c0_1 : w2.cell? ⟨w.heap.size, 1, none⟩ = some (.slice A0 ts0.length c0) := b0.cell rfl
    go_wp2_with fail
    clear l0 c0_0 c0_1
    refine (toSet_any C0 A0 ts0 ts0.length c0 w2 rfl (HA0.out.below hE.out) (by omega)).mono ?_
    rintro e w3 ⟨v_, rfl, hO, hB⟩
    obtain ⟨A1_, c1_, rfl, -, -⟩ := hO.reads
    have O1 := Lib.hid (OW.of hO)
    clear hO
    replace b0 := b0.below hB b0.lt
    have sw3 : w2.heap.size ≤ w3.heap.size := hB.size
    replace hE := Lib.hid (below_to hE.out hB)
    clear hB
    have l0 := b0.lt
    have c0_0 : w3.cell? ⟨w.heap.size, 0, none⟩ = some (.int .i64 C0) := b0.cell rfl
    have c0_1 : w3.cell? ⟨w.heap.size, 1, none⟩ = some (.slice A0 ts0.length c0) := b0.cell rfl
    go_wp2_with fail
    clear l0 c0_0 c0_1
    refine (specSizeTable_any C0 A1_ ts0 ts0.length c1_ w3 rfl (rt_of O1.out rfl) (le_of O1.out) (by omega)).mono ?_
    rintro e w4 ⟨v0_, x0_, x1_, hR_, rfl, hO0, hB⟩
    obtain ⟨rfl, rfl⟩ : r1 = x0_ ∧ r2 = x1_ := (by have h_ := HR.out.symm.trans hR_; simpa using h_)
    clear hR_
    obtain ⟨A2_, c2_, rfl⟩ := hO0.form0
    have O2 := Lib.hid hO0
    clear hO0
    replace b0 := b0.below hB b0.lt
    replace O1 := Lib.hid (O1.out.to hB)
    have sw4 : w3.heap.size ≤ w4.heap.size := hB.size
    replace hE := Lib.hid (below_to hE.out hB)
    clear hB
    have l0 := b0.lt
    have c0_0 : w4.cell? ⟨w.heap.size, 0, none⟩ = some (.int .i64 C0) := b0.cell rfl
    have c0_1 : w4.cell? ⟨w.heap.size, 1, none⟩ = some (.slice A0 ts0.length c0) := b0.cell rfl
    go_wp2_with fail
    clear l0 c0_0 c0_1
    refine (toSet_any C0 A0 ts0 ts0.length c0 w4 rfl (HA0.out.below hE.out) (by omega)).mono ?_
    rintro e w5 ⟨v_, rfl, hO, hB⟩
    obtain ⟨A3_, c3_, rfl, -, -⟩ := hO.reads
    have O3 := Lib.hid (OW.of hO)
    clear hO
    replace b0 := b0.below hB b0.lt
    replace O1 := Lib.hid (O1.out.to hB)
    replace O2 := Lib.hid (O2.out.to hB)
    have sw5 : w4.heap.size ≤ w5.heap.size := hB.size
    replace hE := Lib.hid (below_to hE.out hB)
    clear hB
    have l0 := b0.lt
    have c0_0 : w5.cell? ⟨w.heap.size, 0, none⟩ = some (.int .i64 C0) := b0.cell rfl
    have c0_1 : w5.cell? ⟨w.heap.size, 1, none⟩ = some (.slice A0 ts0.length c0) := b0.cell rfl
    go_wp2_with fail
    clear l0 c0_0 c0_1
    refine namec1 ?_
    intro w6 b1 hz hB
    have tw6 : w5.heap.size + 1 ≤ w6.heap.size := by omega
    clear hz
    replace b0 := b0.below hB b0.lt
    replace O1 := Lib.hid (O1.out.to hB)
    replace O2 := Lib.hid (O2.out.to hB)
    replace O3 := Lib.hid (O3.out.to hB)
    have sw6 : w5.heap.size ≤ w6.heap.size := hB.size
    replace hE := Lib.hid (below_to hE.out hB)
    clear hB
    refine (implSizeTable_any C0 A3_ ts0 ts0.length c3_ w6 rfl (rt_of O3.out rfl) (le_of O3.out) (by omega)).mono ?_
    rintro e w7 ⟨v0_, x0_, x1_, hR_, rfl, hO0, hB⟩
    obtain ⟨rfl, rfl⟩ : r1 = x0_ ∧ r2 = x1_ := (by have h_ := HR.out.symm.trans hR_; simpa using h_)
    clear hR_
    obtain ⟨A4_, c4_, rfl⟩ := hO0.form0
    have O4 := Lib.hid hO0
    clear hO0
    replace b0 := b0.below hB b0.lt
    replace b1 := b1.below hB b1.lt
    replace O1 := Lib.hid (O1.out.to hB)
    replace O2 := Lib.hid (O2.out.to hB)
    replace O3 := Lib.hid (O3.out.to hB)
    have sw7 : w6.heap.size ≤ w7.heap.size := hB.size
    replace hE := Lib.hid (below_to hE.out hB)
    clear hB
    have l0 := b0.lt
    have c0_0 : w7.cell? ⟨w.heap.size, 0, none⟩ = some (.int .i64 C0) := b0.cell rfl
    have c0_1 : w7.cell? ⟨w.heap.size, 1, none⟩ = some (.slice A0 ts0.length c0) := b0.cell rfl
    have l1 := b1.lt
    have c1_0 : w7.cell? ⟨w5.heap.size, 0, none⟩ = some (.int .i64 C0) := b1.cell rfl
    have c1_1 : w7.cell? ⟨w5.heap.size, 1, none⟩ = some (.slice A3_ ts0.length c3_) := b1.cell rfl
    go_wp2_with fail
    clear l0 c0_0 c0_1 l1 c1_0 c1_1
    refine (eqInt64SS_any A4_ A2_ r1 r1 r1.length r1.length c4_ c2_ w7 rfl rfl (rr_of O4.out rfl) (rr_of O2.out rfl) (by omega) (by omega)).mono ?_
    rintro e w8 ⟨rfl, hB⟩
    simp only [decide_true, Bool.and_self]
    replace b0 := b0.below hB b0.lt
    replace b1 := b1.below hB b1.lt
    replace O1 := Lib.hid (O1.out.to hB)
    replace O2 := Lib.hid (O2.out.to hB)
    replace O3 := Lib.hid (O3.out.to hB)
    replace O4 := Lib.hid (O4.out.to hB)
    have sw8 : w7.heap.size ≤ w8.heap.size := hB.size
    replace hE := Lib.hid (below_to hE.out hB)
    clear hB
    have l0 := b0.lt
    have c0_0 : w8.cell? ⟨w.heap.size, 0, none⟩ = some (.int .i64 C0) := b0.cell rfl
    have c0_1 : w8.cell? ⟨w.heap.size, 1, none⟩ = some (.slice A0 ts0.length c0) := b0.cell rfl
    have l1 := b1.lt
    have c1_0 : w8.cell? ⟨w5.heap.size, 0, none⟩ = some (.int .i64 C0) := b1.cell rfl
    have c1_1 : w8.cell? ⟨w5.heap.size, 1, none⟩ = some (.slice A3_ ts0.length c3_) := b1.cell rfl
    go_wp2_with fail
    clear l0 c0_0 c0_1 l1 c1_0 c1_1
    have hD : Below w8.heap.size w8 w8.drew := (Below.refl _ _).drew
    replace b0 := b0.below hD b0.lt
    replace b1 := b1.below hD b1.lt
    replace O1 := Lib.hid (O1.out.to hD)
    replace O2 := Lib.hid (O2.out.to hD)
    replace O3 := Lib.hid (O3.out.to hD)
    replace O4 := Lib.hid (O4.out.to hD)
    replace hE := Lib.hid (below_to hE.out hD)
    clear hD
    have d1_w8 : w8.heap.size ≤ w8.drew.heap.size := Nat.le_refl _
    have d2_w8 : w8.drew.heap.size ≤ w8.heap.size := Nat.le_refl _
    go_region_held3 (fun w_ => w_.cell? ⟨w.heap.size, 0, none⟩ = some (.int .i64 C0) ∧ w_.cell? ⟨w.heap.size, 1, none⟩ = some (.slice A0 ts0.length c0) ∧ w_.cell? ⟨w5.heap.size, 0, none⟩ = some (.int .i64 C0) ∧ w_.cell? ⟨w5.heap.size, 1, none⟩ = some (.slice A3_ ts0.length c3_)) (first | exact ⟨b0.cell rfl, b0.cell rfl, b1.cell rfl, b1.cell rfl⟩)
      (first
        | (go_at_call 17; refine (toSet_any C0 A0 ts0 ts0.length c0 w8.drew rfl (HA0.out.below hE.out) (by omega)).mono ?_; rintro e w9 ⟨v_, rfl, hO, hB⟩; obtain ⟨A5_, c5_, rfl, -, -⟩ := hO.reads; have O5 := Lib.hid (OW.of hO); clear hO; replace b0 := b0.below hB b0.lt; replace b1 := b1.below hB b1.lt; replace O1 := Lib.hid (O1.out.to hB); replace O2 := Lib.hid (O2.out.to hB); replace O3 := Lib.hid (O3.out.to hB); replace O4 := Lib.hid (O4.out.to hB); have sw9 : w8.drew.heap.size ≤ w9.heap.size := hB.size; replace hE := Lib.hid (below_to hE.out hB); clear hB)
        | (go_at_call 19; refine (eqSet_any C0 C0 A3_ A5_ ts0 ts0 ts0.length ts0.length c3_ c5_ w9 rfl rfl (rt_of O3.out rfl) (rt_of O5.out rfl) (by omega) (by omega)).mono ?_; rintro e w10 ⟨rfl, hB⟩; simp only [decide_true, Bool.and_self]; replace b0 := b0.below hB b0.lt; replace b1 := b1.below hB b1.lt; replace O1 := Lib.hid (O1.out.to hB); replace O2 := Lib.hid (O2.out.to hB); replace O3 := Lib.hid (O3.out.to hB); replace O4 := Lib.hid (O4.out.to hB); replace O5 := Lib.hid (O5.out.to hB); have sw10 : w9.heap.size ≤ w10.heap.size := hB.size; replace hE := Lib.hid (below_to hE.out hB); clear hB))
    have l0 := b0.lt
    have c0_0 : w10.cell? ⟨w.heap.size, 0, none⟩ = some (.int .i64 C0) := b0.cell rfl
    have c0_1 : w10.cell? ⟨w.heap.size, 1, none⟩ = some (.slice A0 ts0.length c0) := b0.cell rfl
    have l1 := b1.lt
    have c1_0 : w10.cell? ⟨w5.heap.size, 0, none⟩ = some (.int .i64 C0) := b1.cell rfl
    have c1_1 : w10.cell? ⟨w5.heap.size, 1, none⟩ = some (.slice A3_ ts0.length c3_) := b1.cell rfl
    go_wp2_with fail
    clear l0 c0_0 c0_1 l1 c1_0 c1_1
    obtain ⟨m_O3, hm_O3⟩ : ∃ m, m = ts0.length * 4 := ⟨_, rfl⟩
    have bm_O3 : m_O3 ≤ 40000000 := by omega
    have Hm_O3 := Lib.hid hm_O3; clear hm_O3
    refine (markSet_m w4.heap.size w5.heap.size C0 (.slice A3_ ts0.length c3_) ts0.length m_O3 (tcells ts0) (1) w10 Hm_O3.out O3.out (by omega) (by omega) (by omega)).mono ?_
    rintro e w11 ⟨rfl, hO, hK⟩
    clear O3
    have O3 := Lib.hid hO
    clear hO
    replace b0 := b0.only hK (by omega)
    replace b1 := b1.only hK (by omega)
    replace O1 := Lib.hid (O1.out.only hK (by omega))
    replace O2 := Lib.hid (O2.out.only hK (by omega))
    replace O4 := Lib.hid (O4.out.only hK (by omega))
    replace O5 := Lib.hid (O5.out.only hK (by omega))
    have sw11 : w10.heap.size ≤ w11.heap.size := hK.size
    replace hE := Lib.hid (below_only hE.out hK (by omega))
    clear hK
    have l0 := b0.lt
    have c0_0 : w11.cell? ⟨w.heap.size, 0, none⟩ = some (.int .i64 C0) := b0.cell rfl
    have c0_1 : w11.cell? ⟨w.heap.size, 1, none⟩ = some (.slice A0 ts0.length c0) := b0.cell rfl
    have l1 := b1.lt
    have c1_0 : w11.cell? ⟨w5.heap.size, 0, none⟩ = some (.int .i64 C0) := b1.cell rfl
    have c1_1 : w11.cell? ⟨w5.heap.size, 1, none⟩ = some (.slice A3_ ts0.length c3_) := b1.cell rfl
    go_wp2_with fail
    clear l0 c0_0 c0_1 l1 c1_0 c1_1
    refine (eqInt64SS_any A4_ A2_ r1 r1 r1.length r1.length c4_ c2_ w11 rfl rfl (rr_of O4.out rfl) (rr_of O2.out rfl) (by omega) (by omega)).mono ?_
    rintro e w12 ⟨rfl, hB⟩
    simp only [decide_true, Bool.and_self]
    replace b0 := b0.below hB b0.lt
    replace b1 := b1.below hB b1.lt
    replace O1 := Lib.hid (O1.out.to hB)
    replace O2 := Lib.hid (O2.out.to hB)
    replace O3 := Lib.hid (O3.out.to hB)
    replace O4 := Lib.hid (O4.out.to hB)
    replace O5 := Lib.hid (O5.out.to hB)
    have sw12 : w11.heap.size ≤ w12.heap.size := hB.size
    replace hE := Lib.hid (below_to hE.out hB)
    clear hB
    have l0 := b0.lt
    have c0_0 : w12.cell? ⟨w.heap.size, 0, none⟩ = some (.int .i64 C0) := b0.cell rfl
    have c0_1 : w12.cell? ⟨w.heap.size, 1, none⟩ = some (.slice A0 ts0.length c0) := b0.cell rfl
    have l1 := b1.lt
    have c1_0 : w12.cell? ⟨w5.heap.size, 0, none⟩ = some (.int .i64 C0) := b1.cell rfl
    have c1_1 : w12.cell? ⟨w5.heap.size, 1, none⟩ = some (.slice A3_ ts0.length c3_) := b1.cell rfl
    go_wp2_with fail
    clear l0 c0_0 c0_1 l1 c1_0 c1_1
    obtain ⟨m_O4, hm_O4⟩ : ∃ m, m = rowsz0 r1 := ⟨_, rfl⟩
    have bm_O4 : m_O4 ≤ 40000000 := by have := hb1; omega
    have Hm_O4 := Lib.hid hm_O4; clear hm_O4
    refine (markInt64SS_m w6.heap.size w7.heap.size r1 m_O4 (1) w12 Hm_O4.out O4.out (by omega) (by omega) (by omega)).mono ?_
    rintro e w13 ⟨rfl, hO, hK⟩
    clear O4
    have O4 := Lib.hid hO
    clear hO
    replace b0 := b0.only hK (by omega)
    replace b1 := b1.only hK (by omega)
    replace O1 := Lib.hid (O1.out.only hK (by omega))
    replace O2 := Lib.hid (O2.out.only hK (by omega))
    replace O3 := Lib.hid (O3.out.only hK (by omega))
    replace O5 := Lib.hid (O5.out.only hK (by omega))
    have sw13 : w12.heap.size ≤ w13.heap.size := hK.size
    replace hE := Lib.hid (below_only hE.out hK (by omega))
    clear hK
    have l0 := b0.lt
    have c0_0 : w13.cell? ⟨w.heap.size, 0, none⟩ = some (.int .i64 C0) := b0.cell rfl
    have c0_1 : w13.cell? ⟨w.heap.size, 1, none⟩ = some (.slice A0 ts0.length c0) := b0.cell rfl
    have l1 := b1.lt
    have c1_0 : w13.cell? ⟨w5.heap.size, 0, none⟩ = some (.int .i64 C0) := b1.cell rfl
    have c1_1 : w13.cell? ⟨w5.heap.size, 1, none⟩ = some (.slice A3_ ts0.length c3_) := b1.cell rfl
    go_wp2_with fail
    clear l0 c0_0 c0_1 l1 c1_0 c1_1
    refine (heldInt64SS_m w6.heap.size w7.heap.size r1 m_O4 (1) w13 Hm_O4.out O4.out (by omega) (by omega) (by omega)).mono ?_
    rintro e w14 ⟨rfl, hB⟩
    replace b0 := b0.below hB b0.lt
    replace b1 := b1.below hB b1.lt
    replace O1 := Lib.hid (O1.out.to hB)
    replace O2 := Lib.hid (O2.out.to hB)
    replace O3 := Lib.hid (O3.out.to hB)
    replace O4 := Lib.hid (O4.out.to hB)
    replace O5 := Lib.hid (O5.out.to hB)
    have sw14 : w13.heap.size ≤ w14.heap.size := hB.size
    replace hE := Lib.hid (below_to hE.out hB)
    clear hB
    have l0 := b0.lt
    have c0_0 : w14.cell? ⟨w.heap.size, 0, none⟩ = some (.int .i64 C0) := b0.cell rfl
    have c0_1 : w14.cell? ⟨w.heap.size, 1, none⟩ = some (.slice A0 ts0.length c0) := b0.cell rfl
    have l1 := b1.lt
    have c1_0 : w14.cell? ⟨w5.heap.size, 0, none⟩ = some (.int .i64 C0) := b1.cell rfl
    have c1_1 : w14.cell? ⟨w5.heap.size, 1, none⟩ = some (.slice A3_ ts0.length c3_) := b1.cell rfl
    go_wp2_with fail
    clear l0 c0_0 c0_1 l1 c1_0 c1_1
    refine (toSet_any C0 A0 ts0 ts0.length c0 w14 rfl (HA0.out.below hE.out) (by omega)).mono ?_
    rintro e w15 ⟨v_, rfl, hO, hB⟩
    obtain ⟨A6_, c6_, rfl, -, -⟩ := hO.reads
    have O6 := Lib.hid (OW.of hO)
    clear hO
    replace b0 := b0.below hB b0.lt
    replace b1 := b1.below hB b1.lt
    replace O1 := Lib.hid (O1.out.to hB)
    replace O2 := Lib.hid (O2.out.to hB)
    replace O3 := Lib.hid (O3.out.to hB)
    replace O4 := Lib.hid (O4.out.to hB)
    replace O5 := Lib.hid (O5.out.to hB)
    have sw15 : w14.heap.size ≤ w15.heap.size := hB.size
    replace hE := Lib.hid (below_to hE.out hB)
    clear hB
    have l0 := b0.lt
    have c0_0 : w15.cell? ⟨w.heap.size, 0, none⟩ = some (.int .i64 C0) := b0.cell rfl
    have c0_1 : w15.cell? ⟨w.heap.size, 1, none⟩ = some (.slice A0 ts0.length c0) := b0.cell rfl
    have l1 := b1.lt
    have c1_0 : w15.cell? ⟨w5.heap.size, 0, none⟩ = some (.int .i64 C0) := b1.cell rfl
    have c1_1 : w15.cell? ⟨w5.heap.size, 1, none⟩ = some (.slice A3_ ts0.length c3_) := b1.cell rfl
    go_wp2_with fail
    clear l0 c0_0 c0_1 l1 c1_0 c1_1
    refine (implSizeTable_any C0 A6_ ts0 ts0.length c6_ w15 rfl (rt_of O6.out rfl) (le_of O6.out) (by omega)).mono ?_
    rintro e w16 ⟨v0_, x0_, x1_, hR_, rfl, hO0, hB⟩
    obtain ⟨rfl, rfl⟩ : r1 = x0_ ∧ r2 = x1_ := (by have h_ := HR.out.symm.trans hR_; simpa using h_)
    clear hR_
    obtain ⟨A7_, c7_, rfl⟩ := hO0.form0
    have O7 := Lib.hid hO0
    clear hO0
    replace b0 := b0.below hB b0.lt
    replace b1 := b1.below hB b1.lt
    replace O1 := Lib.hid (O1.out.to hB)
    replace O2 := Lib.hid (O2.out.to hB)
    replace O3 := Lib.hid (O3.out.to hB)
    replace O4 := Lib.hid (O4.out.to hB)
    replace O5 := Lib.hid (O5.out.to hB)
    replace O6 := Lib.hid (O6.out.to hB)
    have sw16 : w15.heap.size ≤ w16.heap.size := hB.size
    replace hE := Lib.hid (below_to hE.out hB)
    clear hB
    have l0 := b0.lt
    have c0_0 : w16.cell? ⟨w.heap.size, 0, none⟩ = some (.int .i64 C0) := b0.cell rfl
    have c0_1 : w16.cell? ⟨w.heap.size, 1, none⟩ = some (.slice A0 ts0.length c0) := b0.cell rfl
    have l1 := b1.lt
    have c1_0 : w16.cell? ⟨w5.heap.size, 0, none⟩ = some (.int .i64 C0) := b1.cell rfl
    have c1_1 : w16.cell? ⟨w5.heap.size, 1, none⟩ = some (.slice A3_ ts0.length c3_) := b1.cell rfl
    go_wp2_with fail
    clear l0 c0_0 c0_1 l1 c1_0 c1_1
    refine (eqInt64SS_any A7_ A2_ r1 r1 r1.length r1.length c7_ c2_ w16 rfl rfl (rr_of O7.out rfl) (rr_of O2.out rfl) (by omega) (by omega)).mono ?_
    rintro e w17 ⟨rfl, hB⟩
    simp only [decide_true, Bool.and_self]
    replace b0 := b0.below hB b0.lt
    replace b1 := b1.below hB b1.lt
    replace O1 := Lib.hid (O1.out.to hB)
    replace O2 := Lib.hid (O2.out.to hB)
    replace O3 := Lib.hid (O3.out.to hB)
    replace O4 := Lib.hid (O4.out.to hB)
    replace O5 := Lib.hid (O5.out.to hB)
    replace O6 := Lib.hid (O6.out.to hB)
    replace O7 := Lib.hid (O7.out.to hB)
    have sw17 : w16.heap.size ≤ w17.heap.size := hB.size
    replace hE := Lib.hid (below_to hE.out hB)
    clear hB
    have l0 := b0.lt
    have c0_0 : w17.cell? ⟨w.heap.size, 0, none⟩ = some (.int .i64 C0) := b0.cell rfl
    have c0_1 : w17.cell? ⟨w.heap.size, 1, none⟩ = some (.slice A0 ts0.length c0) := b0.cell rfl
    have l1 := b1.lt
    have c1_0 : w17.cell? ⟨w5.heap.size, 0, none⟩ = some (.int .i64 C0) := b1.cell rfl
    have c1_1 : w17.cell? ⟨w5.heap.size, 1, none⟩ = some (.slice A3_ ts0.length c3_) := b1.cell rfl
    go_wp2_with fail
    clear l0 c0_0 c0_1 l1 c1_0 c1_1
    refine (heldInt64SS_m w6.heap.size w7.heap.size r1 m_O4 (1) w17 Hm_O4.out O4.out (by omega) (by omega) (by omega)).mono ?_
    rintro e w18 ⟨rfl, hB⟩
    replace b0 := b0.below hB b0.lt
    replace b1 := b1.below hB b1.lt
    replace O1 := Lib.hid (O1.out.to hB)
    replace O2 := Lib.hid (O2.out.to hB)
    replace O3 := Lib.hid (O3.out.to hB)
    replace O4 := Lib.hid (O4.out.to hB)
    replace O5 := Lib.hid (O5.out.to hB)
    replace O6 := Lib.hid (O6.out.to hB)
    replace O7 := Lib.hid (O7.out.to hB)
    have sw18 : w17.heap.size ≤ w18.heap.size := hB.size
    replace hE := Lib.hid (below_to hE.out hB)
    clear hB
    go_wp2_with fail
    go_ret
    exact ⟨rfl, hE.out⟩
end Go.Proofs.Ytcaikaflpmaocaa

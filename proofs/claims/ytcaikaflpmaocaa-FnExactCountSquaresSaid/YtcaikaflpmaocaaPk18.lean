/-
  Parts of the proof, in their order: FreeI, SquaresI, LawCountSquares.
-/
import Derived.Test.YtcaikaflpmaocaaPk15
import Derived.Test.YtcaikaflpmaocaaPk17
import Derived.Test.YtcaikaflpmaocaaPk16
import Derived.Test.YtcaikaflpmaocaaPk8
import Derived.Test.YtcaikaflpmaocaaPk4
import Derived.Deep.RegionHeld3
namespace Go.Proofs.Ytcaikaflpmaocaa
open Go Go.RowKit Go.Proofs Go.Proofs.YtcaikaflpmaocaaW.PrintWords Go.Proofs.YtcaikaflpmaocaaW.PrintLast Go.Proofs.YtcaikaflpmaocaaW.PrintMore Go.Proofs.Ytcaikaflpmaocaa.Q
set_option linter.unusedVariables false
set_option linter.unusedSimpArgs false
def freei_T1 : Bool × List (List Nat × List Nat) := (true, [([], []), ([], []), ([], []), ([1, 2], [1, 2]), ([], []), ([0, 3, 4, 3], [0, 3, 4]), ([5, 5, 0, 1, 2, 3, 4, 5], [5])])
def freei_B1 : List Nat := [0, 0, 0, 6, 0, 31, 63]
theorem freei_tab1 : rtab .any (opsOf Try.f48 1) = freei_T1 := by kernel_rfl
theorem freei_bits1 : waitsOk freei_T1.2 freei_B1 = true := by kernel_rfl
theorem freePlan_any (h wd : Nat) (h1 : 1 ≤ h) (h5 : h ≤ 5) (w1 : 1 ≤ wd) (w5 : wd ≤ 5) (w : World) : Calls Try.prog 39 #[.int .i64 h, .int .i64 wd] w fun e w' => ∃ A1 c1, e = .returned (.slice A1 h c1) ∧ RR w' A1 (freeP h wd) ∧ Below w.heap.size w w' := by
  have hf := implFree_small (a := (h : Int)) (b := (wd : Int)) ⟨by omega, by omega⟩ ⟨by omega, by omega⟩
  rw [Int.toNat_natCast, Int.toNat_natCast] at hf
  refine (impl_freePlan.calls 60 _ _ _ w hf).mono ?_
  rintro e w' ⟨v0, rfl, hS, hB⟩
  obtain ⟨A, c, rfl⟩ := Kd.S_slice hS
  have hr := rr_of_C (Kd.S_reads' hS).2.2
  exact ⟨A, c, by rw [List.length_replicate], hr, hB⟩
def FRE (w : World) (F : Nat) (C : Int) (cn : Nat) (A : Option Addr) (ts : List T4) (n c h wd : Nat) : Prop := ∃ (A1 : Option Addr) (c1 : Nat) (A2 : Option Addr) (c2 : Nat), FIL w F C cn A ts n c A1 (freeP h wd) h c1 A2 openB 4 c2 ∧ RR w A1 (freeP h wd)
theorem nameF {P : Program} {c : Code} {Q : Exit → Act → World → Prop} {a : Act} {w : World} {C1 : Array Value} {E1 : TypeId}
    (h : ∀ W, BK W w.heap.size C1 E1 → Below w.heap.size w W → c.wp P Q a W) : c.wp P Q a (w.alloc (.cells C1 E1)) := h _ (BK.new _ _ _) (below_alloc (Below.refl _ _) _)
set_option maxHeartbeats 4000000 in
set_option maxRecDepth 100000 in
theorem free_any (C : Int) (cn : Nat) (A : Option Addr) (ts : List T4) (n c h wd : Nat) (w : World) (hC : C = (cn : Int)) (hcn : 0 < cn) (c6 : cn ≤ 6) (hn : n = ts.length) (hA : RT w A ts) (hl : n ≤ 1000) (h1 : 1 ≤ h) (h5 : h ≤ 5) (w1 : 1 ≤ wd) (w5 : wd ≤ 5) (hcol : ∀ t ∈ ts.map toS, Col cn t) :
    Calls Try.prog 48 #[.agg #[.int .i64 C, .slice A n c], .int .i64 h, .int .i64 wd] w fun e w' => ∃ F : Nat, e = .returned (.pointer (some ⟨F, 0, none⟩)) ∧ Below w.heap.size w w' ∧ FRE w' F C cn A ts n c h wd := by
  have HC := Lib.hid hC; have HN := Lib.hid hn
  clear hC hn
  go_enter Try.func48, Try.ntmps48
  go_upto_region 1 with fail
  refine nameF ?_
  intro W1 b1 hb0
  have hD := (Below.refl W1.heap.size W1).drew
  refine start_ (n := 7) (S := fun w' => w'.cell? ⟨w.heap.size, 0, none⟩ = some (.int .i64 C) ∧ w'.cell? ⟨w.heap.size, 1, none⟩ = some (.slice A n c)) (ds := [5]) #[false, false, false, false, false, false, false] (by kernel_rfl) rfl rfl ⟨cell_to hD (b1.cell rfl), cell_to hD (b1.cell rfl)⟩ (fun hHeld => ?_)
  refine with_tabW freei_tab1 freei_bits1 (fun HT_ HW_ => ?_)
  generalize W1.drew = w0 at hD hHeld ⊢
  refine pure_ (i := 1) (N := some 8) (v := ?_) (a' := ?_) #[false, true, false, false, false, false, false] rfl rfl (any_of HT_.out (by kernel_rfl)) (fun _ _ _ h => h) (Or.inl ⟨by rfl, ?_⟩) ?_ ?_
  rotate_left
  · intro w'
    go_simp
    with_reducible rfl
  rotate_left
  · simp only [Act.put, List.setIfInBounds_toArray, List.set_cons_zero, List.set_cons_succ, i64_w, i32_w]
    rfl
  refine pure_ (i := 2) (N := some 9) (v := ?_) (a' := ?_) #[false, true, true, false, false, false, false] rfl rfl (any_of HT_.out (by kernel_rfl)) (fun _ _ _ h => h) (Or.inl ⟨by rfl, ?_⟩) ?_ ?_
  rotate_left
  · intro w'
    go_simp
    with_reducible rfl
  rotate_left
  · simp only [Act.put, List.setIfInBounds_toArray, List.set_cons_zero, List.set_cons_succ, i64_w, i32_w]
    rfl
  refine take_ (i := 0) (N := some 7) (v := ?_) (a' := ?_) #[true, true, true, false, false, false, false] rfl rfl (take_ofW HT_.out HW_.out (by kernel_rfl)) (fun _ _ _ h => h) (Or.inl ⟨by rfl, ?_⟩) hHeld ?_ ?_
  rotate_left
  · rintro w' ⟨s0, s1⟩
    go_simp
    with_reducible rfl
  rotate_left
  · simp only [Act.put, List.setIfInBounds_toArray, List.set_cons_zero, List.set_cons_succ, i64_w, i32_w]
    rfl
  refine join_ (σ := Option Addr × Nat × Nat × Nat) 2 #[true, true, true, true, true, false, false] (fun s_ => [(10, .slice s_.1 h s_.2.1), (11, .slice (some ⟨s_.2.2.1, 0, none⟩) 4 s_.2.2.2)]) (fun s_ w' => w'.cell? ⟨w.heap.size, 0, none⟩ = some (.int .i64 C) ∧ w'.cell? ⟨w.heap.size, 1, none⟩ = some (.slice A n c) ∧ RR w' s_.1 (freeP h wd) ∧ RR w' (some ⟨s_.2.2.1, 0, none⟩) openB ∧ Below w0.heap.size w0 w') ?_ ?_
  rotate_left
  · intro hCont
    refine two_ (i := 3) (j := 4) (Ni := some 10) (Nj := some 11) #[true, true, true, true, false, false, false] #[true, true, true, false, true, false, false] rfl rfl rfl rfl (two_of HT_.out (by kernel_rfl)) (by decide) (by decide) (fun K hK => ?_) (fun K hK => ?_)
    · skip
      refine goes_ Try.func39 (by kernel_rfl) rfl #[.int .i64 h, .int .i64 wd] (by rfl) rfl rfl (by simp only [List.map_toArray, List.map_cons, List.map_nil]; rfl) ?_
      with_reducible refine (freePlan_any h wd h1 h5 w1 w5 _).mono ?_
      rintro e w3 ⟨A1, c1, rfl, hR1, hb3⟩
      refine ⟨_, rfl, ?_⟩
      refine hK.out _ _ ⟨cell_to hb3 hHeld.1, cell_to hb3 hHeld.2⟩ (fun hHeld => ?_)
      clear hK K
      refine norm_ (a' := ?_) ?_ ?_
      rotate_left
      · show Act.put _ (some 10) _ = _
        simp only [Act.put, List.setIfInBounds_toArray, List.set_cons_zero, List.set_cons_succ, i64_w, i32_w]
        rfl
      refine one_ (i := 4) (N := some 11) #[true, true, true, true, true, false, false] rfl rfl (one_of HT_.out (by kernel_rfl)) (by decide) (fun K hK => ?_)
      refine Kd.R_make_step (Kd.slice 2 (Kd.int .i64)) (w0 := w3) w3.heap.size 56 (by rfl) (N := 11) rfl 22 _ _ rfl (4 : Int) rfl rfl Try.underlying22 (.slice none 0 0) 24 info56 rfl (by decide) (by omega) [] (ok := fun _ => True) (okp := fun _ => True) ⟨_, rfl, Kd.R_nil _ _ _ _ _⟩ (fun _ hk => hk) trivial (by omega) (by omega) (Below.refl _ _) (Nat.le_refl _) ?_
      intro nv4 w11 hnw hbm hgm hnewm
      obtain ⟨g4, c4, hnv⟩ := repR_form (m := 4) hnw (by decide) (by omega)
      subst hnv
      have hR4 : RR w11 (some ⟨g4, 0, none⟩) openB := rr_of_C (Kd.R_reads' hnw).2.2
      refine hK.out _ _ ⟨cell_to hbm hHeld.1, cell_to hbm hHeld.2⟩ (fun hHeld => ?_)
      clear hK K
      refine norm_ (a' := ?_) ?_ ?_
      rotate_left
      · show Act.put _ (some 11) _ = _
        simp only [Act.put, List.setIfInBounds_toArray, List.set_cons_zero, List.set_cons_succ, i64_w, i32_w]
        rfl
      exact norm_ (by first | (simp only [putAll, Act.put, List.setIfInBounds_toArray, List.set_cons_zero, List.set_cons_succ]; done) | (simp only [putAll, Act.put, List.setIfInBounds_toArray, List.set_cons_zero, List.set_cons_succ]; rfl)) (hCont (A1, c1, g4, c4) _ ⟨hHeld.1, hHeld.2, hR1.below hbm, hR4, below_to hb3 hbm⟩)
    · skip
      refine Kd.R_make_step (Kd.slice 2 (Kd.int .i64)) (w0 := w0) w0.heap.size 56 (by rfl) (N := 11) rfl 22 _ _ rfl (4 : Int) rfl rfl Try.underlying22 (.slice none 0 0) 24 info56 rfl (by decide) (by omega) [] (ok := fun _ => True) (okp := fun _ => True) ⟨_, rfl, Kd.R_nil _ _ _ _ _⟩ (fun _ hk => hk) trivial (by omega) (by omega) (Below.refl _ _) (Nat.le_refl _) ?_
      intro nv4 w11 hnw hbm hgm hnewm
      obtain ⟨g4, c4, hnv⟩ := repR_form (m := 4) hnw (by decide) (by omega)
      subst hnv
      have hR4 : RR w11 (some ⟨g4, 0, none⟩) openB := rr_of_C (Kd.R_reads' hnw).2.2
      refine hK.out _ _ ⟨cell_to hbm hHeld.1, cell_to hbm hHeld.2⟩ (fun hHeld => ?_)
      clear hK K
      refine norm_ (a' := ?_) ?_ ?_
      rotate_left
      · show Act.put _ (some 11) _ = _
        simp only [Act.put, List.setIfInBounds_toArray, List.set_cons_zero, List.set_cons_succ, i64_w, i32_w]
        rfl
      refine one_ (i := 3) (N := some 10) #[true, true, true, true, true, false, false] rfl rfl (one_of HT_.out (by kernel_rfl)) (by decide) (fun K hK => ?_)
      refine goes_ Try.func39 (by kernel_rfl) rfl #[.int .i64 h, .int .i64 wd] (by rfl) rfl rfl (by simp only [List.map_toArray, List.map_cons, List.map_nil]; rfl) ?_
      with_reducible refine (freePlan_any h wd h1 h5 w1 w5 _).mono ?_
      rintro e w3 ⟨A1, c1, rfl, hR1, hb3⟩
      refine ⟨_, rfl, ?_⟩
      refine hK.out _ _ ⟨cell_to hb3 hHeld.1, cell_to hb3 hHeld.2⟩ (fun hHeld => ?_)
      clear hK K
      refine norm_ (a' := ?_) ?_ ?_
      rotate_left
      · show Act.put _ (some 10) _ = _
        simp only [Act.put, List.setIfInBounds_toArray, List.set_cons_zero, List.set_cons_succ, i64_w, i32_w]
        rfl
      exact norm_ (by first | (simp only [putAll, Act.put, List.setIfInBounds_toArray, List.set_cons_zero, List.set_cons_succ]; done) | (simp only [putAll, Act.put, List.setIfInBounds_toArray, List.set_cons_zero, List.set_cons_succ]; rfl)) (hCont (A1, c1, g4, c4) _ ⟨hHeld.1, hHeld.2, hR1, hR4.below hb3, below_to hbm hb3⟩)
  rintro ⟨A1, c1, g4, c4⟩ w4 ⟨hq1, hq2, hR1, hR4, hb4⟩
  have hHeld : w4.cell? ⟨w.heap.size, 0, none⟩ = some (.int .i64 C) ∧ w4.cell? ⟨w.heap.size, 1, none⟩ = some (.slice A n c) := ⟨hq1, hq2⟩
  refine norm_ (a' := ?_) ?_ ?_
  rotate_left
  · simp only [putAll, Act.put, List.setIfInBounds_toArray, List.set_cons_zero, List.set_cons_succ]
    rfl
  refine last_ (i := 5) (N := some 12) #[true, true, true, true, true, true, false] rfl rfl (one_of HT_.out (by kernel_rfl)) (by decide) (fun K hK => ?_)
  refine goes_ Try.func60 (by kernel_rfl) rfl #[.agg #[.int .i64 C, .slice A n c], .slice A1 h c1, .slice (some ⟨g4, 0, none⟩) 4 c4] (by rfl) rfl rfl (by simp only [List.map_toArray, List.map_cons, List.map_nil]; rfl) ?_
  with_reducible refine (newFiller_any C cn A ts n c A1 (freeP h wd) h c1 (some ⟨g4, 0, none⟩) openB 4 c4 w4 HC.out hcn c6 HN.out (hA.below (below_to (below_to hb0 hD) hb4)) hl (by simp [freeP]) hR1 rfl hR4 (shape_free h1 h5 w1 w5) hcol).mono ?_
  rintro e w5_ ⟨FF, rfl, hb5, hF5, hfil⟩
  refine ⟨_, rfl, ?_⟩
  refine hK.out _ _ ?_
  clear hK K
  refine norm_ (a' := ?_) ?_ ?_
  rotate_left
  · show Act.put _ (some 12) _ = _
    simp only [Act.put, List.setIfInBounds_toArray, List.set_cons_zero, List.set_cons_succ, i64_w, i32_w]
    rfl
  refine pure_ (i := 6) (N := some 6) (v := ?_) (a' := ?_) #[true, true, true, true, true, true, true] rfl rfl (any_of HT_.out (by kernel_rfl)) (fun _ _ _ h => h) (Or.inl ⟨by rfl, ?_⟩) ?_ ?_
  rotate_left
  · intro w'
    go_simp
    with_reducible rfl
  rotate_left
  · simp only [Act.put, List.setIfInBounds_toArray, List.set_cons_zero, List.set_cons_succ, i64_w, i32_w]
    rfl
  refine done_ (done_of HT_.out (by kernel_rfl)) ?_
  go_wp2_with fail
  go_ret
  exact ⟨FF, rfl, below_to (below_to (below_to hb0 hD) hb4) hb5, A1, c1, _, _, hfil, hR1.below hb5⟩
end Go.Proofs.Ytcaikaflpmaocaa
namespace Go.Proofs.Ytcaikaflpmaocaa
open Go Go.RowKit Go.Proofs Go.Proofs.YtcaikaflpmaocaaW.PrintWords Go.Proofs.YtcaikaflpmaocaaW.PrintLast Go.Proofs.YtcaikaflpmaocaaW.PrintMore Go.Proofs.Ytcaikaflpmaocaa.Q
set_option linter.unusedVariables false
set_option linter.unusedSimpArgs false
def codeSq (C : Int) (ts : List T4) (x : Int) : Int := if isS C ts = true then if inB x 1 4 = true then 0 else 2 else 1
theorem within14 (x : Int) : impl_within.f x 1 4 = some (inB x 1 4) := by
  unfold impl_within.f inB
  by_cases h1 : x ≥ 1
  · rw [if_pos h1]; simp [h1]
  · rw [if_neg h1]; simp [h1]
theorem codeSq_f (C : Int) (l : List STile) (x : Int) (hl : l.length ≤ 35184372088832) : impl_setCode_at_impl_CountSquares_1.f C l x = some (codeSq C (l.map toT) x) := by
  have hin : inLim l.length = true := by simpa [inLim] using hl
  unfold impl_setCode_at_impl_CountSquares_1.f impl_IsSet.f codeSq impl_CountSquares_1.f
  rw [if_pos hin, within14]
  cases isS C (l.map toT)
  · rfl
  · cases inB x 1 4 <;> rfl
theorem name2s {P : Program} {c : Code} {Q : Exit → Act → World → Prop} {a : Act} {w : World} {C1 C2 : Array Value} {E1 E2 : TypeId}
    (h : ∀ W, BK W w.heap.size C1 E1 → BK W (w.heap.size + 1) C2 E2 → Below w.heap.size w W → c.wp P Q a W) : c.wp P Q a ((w.alloc (.cells C1 E1)).alloc (.cells C2 E2)) :=
  h _ ((BK.new _ _ _).alloc _) (by simpa using BK.new (w.alloc (.cells C1 E1)) C2 E2) (below_alloc (below_alloc (Below.refl _ _) _) _)
set_option maxHeartbeats 4000000 in
set_option maxRecDepth 100000 in
theorem implCountSquares_any (C : Int) (A : Option Addr) (ts : List T4) (n c : Nat) (x : Int) (w : World) (hn : n = ts.length) (hA : RT w A ts) (hnc : n ≤ c) (hl : n ≤ 35184372088832) :
    Calls Try.prog 21 #[.agg #[.int .i64 C, .slice A n c], .int .i64 x] w fun e w' => e = .returned (pairI (squaresR C ts x)) ∧ Below w.heap.size w w' := by
  have HN := Lib.hid hn; have HA := Lib.hid hA
  clear hn hA
  go_enter Try.func21, Try.ntmps21
  go_upto_region 1 with fail
  refine name2s ?_
  intro W1 b1 b2 hb0
  have z0 : W1.cell? ⟨w.heap.size, 0, none⟩ = some (.int .i64 C) := b1.cell rfl
  have z1 : W1.cell? ⟨w.heap.size, 1, none⟩ = some (.slice A n c) := b1.cell rfl
  have l1 := b1.lt; have l2 := b2.lt
  have HB1 := Lib.hid b1; have HB2 := Lib.hid b2; have HB0 := Lib.hid hb0
  clear b1 b2 hb0
  go_wp2_with fail
  have hcalls := impl_setCode_at_impl_CountSquares_1.calls C A c (ts.map toS) (w.heap.size + 1) x _ W1 (C_of_rt (HA.out.below HB0.out) (by rw [← HN.out]; omega)) (by rw [List.length_map, ← HN.out]; exact hnc) HB2.out (codeSq_f C (ts.map toS) x (by rw [List.length_map, ← HN.out]; exact hl))
  rw [List.length_map, ← HN.out, map_toTS] at hcalls
  refine hcalls.mono ?_
  clear hcalls
  rintro e W2 ⟨rfl, hb2⟩
  have b1 := (hb2.block _ l1).trans HB1.out
  have b2 := (hb2.block _ l2).trans HB2.out
  have l1' := BK.lt b1; have l2' := BK.lt b2
  have y0 : W2.cell? ⟨w.heap.size, 0, none⟩ = some (.int .i64 C) := BK.cell b1 rfl
  have y1 : W2.cell? ⟨w.heap.size, 1, none⟩ = some (.slice A n c) := BK.cell b1 rfl
  have y2 : W2.cell? ⟨w.heap.size + 1, 0, none⟩ = some (.int .i64 x) := BK.cell b2 rfl
  have HE2 := Lib.hid (below_to HB0.out hb2)
  clear b1 b2 hb2 z0 z1 l1 l2
  cases hs : isS C ts with
  | false =>
    have HS := Lib.hid hs
    have e : codeSq C ts x = 1 := by rw [codeSq, hs]; rfl
    rw [e]
    clear hs e
    go_wp2_with fail
    go_ret2
    exact ⟨congrArg Ending.returned (by rw [squaresR, HS.out]; rfl), HE2.out⟩
  | true =>
    cases hb : inB x 1 4 with
    | false =>
      have HS := Lib.hid hs; have HBX := Lib.hid hb
      have e : codeSq C ts x = 2 := by rw [codeSq, hs, hb]; rfl
      rw [e]
      clear hs hb e
      go_wp2_with fail
      go_ret2
      exact ⟨congrArg Ending.returned (by rw [squaresR, HS.out, HBX.out]; rfl), HE2.out⟩
    | true =>
      have hs2 : isS C ((ts.map toS).map toT) = true := by rw [map_toTS]; exact hs
      obtain ⟨hC, hl16, hcol⟩ := isS_cols hs2
      obtain ⟨x1, x4⟩ := inB_iff.1 hb
      have e : codeSq C ts x = 0 := by rw [codeSq, hs, hb]; rfl
      rw [e]
      have HS := Lib.hid hs; have HCOL := Lib.hid hcol; have HC := Lib.hid hC; have HBX := Lib.hid hb
      have HL := Lib.hid (show n ≤ 1000 by rw [HN.out]; simpa using Nat.le_trans hl16 (by omega))
      obtain ⟨m, hm⟩ : ∃ m : Nat, x = (m : Int) := ⟨x.toNat, by omega⟩
      subst hm
      have HX := Lib.hid (show 1 ≤ m ∧ m ≤ 4 by omega)
      clear hs hs2 hcol hC hl16 hb x1 x4 e
      go_wp2_with fail
      refine (free_any C C.toNat A ts n c m m W2 (by have := HC.out; omega) (by have := HC.out; omega) (by have := HC.out; omega) HN.out (HA.out.below HE2.out) HL.out (by have := HX.out; omega) (by have := HX.out; omega) (by have := HX.out; omega) (by have := HX.out; omega) HCOL.out).mono ?_
      rintro e W9 ⟨F, rfl, hb9, A1, c1, A2, c2, hfil, hR⟩
      have HB9 := Lib.hid (below_to HE2.out hb9); have HFIL := Lib.hid hfil; have HR := Lib.hid hR
      clear hb9 hfil hR y0 y1 y2 l1' l2'
      go_wp2_with fail
      refine (fil_count HFIL.out HR.out (by simp [freeP]) (shape_free (by have := HX.out; omega) (by have := HX.out; omega) (by have := HX.out; omega) (by have := HX.out; omega)) (by have := HC.out; omega) (by have := HC.out; omega) HCOL.out).mono ?_
      rintro e W10 ⟨rfl, hb10⟩
      have HB10 := Lib.hid (below_to HB9.out hb10)
      clear hb10
      go_wp2_with fail
      refine (counted_any _ W10).mono ?_
      rintro e W11 ⟨rfl, hb11⟩
      have HB11 := Lib.hid (below_to HB10.out hb11)
      clear hb11
      have e : squaresR C ts (m : Int) = toldI (numS C.toNat (freeP m m) openB (ts.map toS)) := by rw [squaresR, HS.out, HBX.out, if_pos rfl, if_pos rfl, Int.toNat_natCast]; rfl
      have HE := Lib.hid e; clear e
      simp only [pairI]
      go_wp2_with fail
      go_ret2
      exact ⟨congrArg Ending.returned (by rw [HE.out]; rfl), HB11.out⟩
theorem specCountSquares_any (C : Int) (A : Option Addr) (ts : List T4) (n c : Nat) (x : Int) (w : World) (hn : n = ts.length) (hA : RT w A ts) (hnc : n ≤ c) (hl : n ≤ 35184372088832) :
    Calls Try.prog 20 #[.agg #[.int .i64 C, .slice A n c], .int .i64 x] w fun e w' => e = .returned (pairI (squaresR C ts x)) ∧ Below w.heap.size w w' := by
  subst hn
  obtain ⟨k, hk⟩ := (specSquares_ev C (ts.map toS) x (by simpa using hl)).rounds
  rw [map_toTS] at hk
  have h := spec_CountSquares.calls k C A c (ts.map toS) x (squaresR C ts x).1 (squaresR C ts x).2 w (C_of_rt hA (by omega)) (by simpa using hnc) hk
  rw [List.length_map] at h
  exact h
end Go.Proofs.Ytcaikaflpmaocaa
namespace Go.Proofs.Ytcaikaflpmaocaa
open Go Go.RowKit Go.Proofs
set_option linter.unusedVariables false
set_option linter.unusedSimpArgs false
set_option maxHeartbeats 16000000 in
set_option maxRecDepth 100000 in
theorem lawCountSquares_any (w : World) (C0 : Int) (A0 : Option Addr) (ts0 : List T4) (n0 c0 : Nat) (hn0 : n0 = ts0.length) (hA0 : RT w A0 ts0) (hnc0 : n0 ≤ c0) (hl0 : n0 ≤ 35184372088832) (hC0 : -9223372036854775808 ≤ C0 ∧ C0 ≤ 9223372036854775807) (x1 : Int) (hx1 : -9223372036854775808 ≤ x1 ∧ x1 ≤ 9223372036854775807) :
    Calls Try.prog 5 #[.agg #[.int .i64 C0, .slice A0 n0 c0], .int .i64 x1] w fun e w' => e = .returned (.bool true) ∧ Below w.heap.size w w' := by
  subst hn0
  have HA0 := Lib.hid hA0; clear hA0
  by_cases hbig0 : (1048576 : Int) < ((ts0.length : Nat) : Int)
  · go_enter Try.func5, Try.ntmps5
    go_wp2_with fail
    refine namec1 ?_
    intro w1 b0 hz hB
    have tw1 : w.heap.size + 1 ≤ w1.heap.size := by omega
    clear hz
    have sw1 : w.heap.size ≤ w1.heap.size := hB.size
    have hE := Lib.hid (hB)
    clear hB
    refine (szSet_any C0 A0 ts0.length c0 (1048576) w1 (by omega) (by omega) (by omega)).mono ?_
    rintro e w2 ⟨rfl, hB⟩
    rw [if_pos (show (1048576 : Int) < (ts0.length : Nat) by omega)]
    replace b0 := b0.below hB b0.lt
    have sw2 : w1.heap.size ≤ w2.heap.size := hB.size
    replace hE := Lib.hid (below_to hE.out hB)
    clear hB
    go_wp2_with fail
    go_ret
    exact ⟨rfl, hE.out⟩
  · replace hbig0 : ((ts0.length : Nat) : Int) ≤ 1048576 := by omega
    obtain ⟨r_, hr_⟩ : ∃ r, squaresR C0 ts0 x1 = r := ⟨_, rfl⟩
    obtain ⟨r1, r2⟩ := r_
    have HR := Lib.hid hr_; clear hr_
    go_enter Try.func5, Try.ntmps5
    go_wp2_with fail
    refine namec1 ?_
    intro w1 b0 hz hB
    have tw1 : w.heap.size + 1 ≤ w1.heap.size := by omega
    clear hz
    have sw1 : w.heap.size ≤ w1.heap.size := hB.size
    have hE := Lib.hid (hB)
    clear hB
    refine (szSet_any C0 A0 ts0.length c0 (1048576) w1 (by omega) (by omega) (by omega)).mono ?_
    rintro e w2 ⟨rfl, hB⟩
    rw [if_neg (show ¬ (1048576 : Int) < (ts0.length : Nat) by omega)]
    replace b0 := b0.below hB b0.lt
    have sw2 : w1.heap.size ≤ w2.heap.size := hB.size
    replace hE := Lib.hid (below_to hE.out hB)
    clear hB
    have l0 := b0.lt
    have c0_0 : w2.cell? ⟨w.heap.size, 0, none⟩ = some (.int .i64 C0) := b0.cell rfl
    have c0_1 : w2.cell? ⟨w.heap.size, 1, none⟩ = some (.slice A0 ts0.length c0) := b0.cell rfl
    go_wp2_with fail
    clear l0 c0_0 c0_1
    refine (toSet_any C0 A0 ts0 ts0.length c0 w2 rfl (HA0.out.below hE.out) (by omega)).mono ?_
    rintro e w3 ⟨v_, rfl, hO, hB⟩
    obtain ⟨A1_, c1_, rfl, -, -⟩ := hO.reads
    have O1 := Lib.hid (OW.of hO)
    clear hO
    replace b0 := b0.below hB b0.lt
    have sw3 : w2.heap.size ≤ w3.heap.size := hB.size
    replace hE := Lib.hid (below_to hE.out hB)
    clear hB
    have l0 := b0.lt
    have c0_0 : w3.cell? ⟨w.heap.size, 0, none⟩ = some (.int .i64 C0) := b0.cell rfl
    have c0_1 : w3.cell? ⟨w.heap.size, 1, none⟩ = some (.slice A0 ts0.length c0) := b0.cell rfl
    go_wp2_with fail
    clear l0 c0_0 c0_1
    refine (specCountSquares_any C0 A1_ ts0 ts0.length c1_ (x1) w3 rfl (rt_of O1.out rfl) (le_of O1.out) (by omega) ).mono ?_
    rintro e w4 ⟨rfl, hB⟩
    rw [HR.out]
    simp only [pairI]
    replace b0 := b0.below hB b0.lt
    replace O1 := Lib.hid (O1.out.to hB)
    have sw4 : w3.heap.size ≤ w4.heap.size := hB.size
    replace hE := Lib.hid (below_to hE.out hB)
    clear hB
    have l0 := b0.lt
    have c0_0 : w4.cell? ⟨w.heap.size, 0, none⟩ = some (.int .i64 C0) := b0.cell rfl
    have c0_1 : w4.cell? ⟨w.heap.size, 1, none⟩ = some (.slice A0 ts0.length c0) := b0.cell rfl
    go_wp2_with fail
    clear l0 c0_0 c0_1
    refine (toSet_any C0 A0 ts0 ts0.length c0 w4 rfl (HA0.out.below hE.out) (by omega)).mono ?_
    rintro e w5 ⟨v_, rfl, hO, hB⟩
    obtain ⟨A2_, c2_, rfl, -, -⟩ := hO.reads
    have O2 := Lib.hid (OW.of hO)
    clear hO
    replace b0 := b0.below hB b0.lt
    replace O1 := Lib.hid (O1.out.to hB)
    have sw5 : w4.heap.size ≤ w5.heap.size := hB.size
    replace hE := Lib.hid (below_to hE.out hB)
    clear hB
    have l0 := b0.lt
    have c0_0 : w5.cell? ⟨w.heap.size, 0, none⟩ = some (.int .i64 C0) := b0.cell rfl
    have c0_1 : w5.cell? ⟨w.heap.size, 1, none⟩ = some (.slice A0 ts0.length c0) := b0.cell rfl
    go_wp2_with fail
    clear l0 c0_0 c0_1
    refine namec1 ?_
    intro w6 b1 hz hB
    have tw6 : w5.heap.size + 1 ≤ w6.heap.size := by omega
    clear hz
    replace b0 := b0.below hB b0.lt
    replace O1 := Lib.hid (O1.out.to hB)
    replace O2 := Lib.hid (O2.out.to hB)
    have sw6 : w5.heap.size ≤ w6.heap.size := hB.size
    replace hE := Lib.hid (below_to hE.out hB)
    clear hB
    refine (implCountSquares_any C0 A2_ ts0 ts0.length c2_ (x1) w6 rfl (rt_of O2.out rfl) (le_of O2.out) (by omega) ).mono ?_
    rintro e w7 ⟨rfl, hB⟩
    rw [HR.out]
    simp only [pairI]
    replace b0 := b0.below hB b0.lt
    replace b1 := b1.below hB b1.lt
    replace O1 := Lib.hid (O1.out.to hB)
    replace O2 := Lib.hid (O2.out.to hB)
    have sw7 : w6.heap.size ≤ w7.heap.size := hB.size
    replace hE := Lib.hid (below_to hE.out hB)
    clear hB
    have l0 := b0.lt
    have c0_0 : w7.cell? ⟨w.heap.size, 0, none⟩ = some (.int .i64 C0) := b0.cell rfl
    have c0_1 : w7.cell? ⟨w.heap.size, 1, none⟩ = some (.slice A0 ts0.length c0) := b0.cell rfl
    have l1 := b1.lt
    have c1_0 : w7.cell? ⟨w5.heap.size, 0, none⟩ = some (.int .i64 C0) := b1.cell rfl
    have c1_1 : w7.cell? ⟨w5.heap.size, 1, none⟩ = some (.slice A2_ ts0.length c2_) := b1.cell rfl
    go_wp2_with fail
    clear l0 c0_0 c0_1 l1 c1_0 c1_1
    have hD : Below w7.heap.size w7 w7.drew := (Below.refl _ _).drew
    replace b0 := b0.below hD b0.lt
    replace b1 := b1.below hD b1.lt
    replace O1 := Lib.hid (O1.out.to hD)
    replace O2 := Lib.hid (O2.out.to hD)
    replace hE := Lib.hid (below_to hE.out hD)
    clear hD
    have d1_w7 : w7.heap.size ≤ w7.drew.heap.size := Nat.le_refl _
    have d2_w7 : w7.drew.heap.size ≤ w7.heap.size := Nat.le_refl _
    go_region_held3 (fun w_ => w_.cell? ⟨w.heap.size, 0, none⟩ = some (.int .i64 C0) ∧ w_.cell? ⟨w.heap.size, 1, none⟩ = some (.slice A0 ts0.length c0) ∧ w_.cell? ⟨w5.heap.size, 0, none⟩ = some (.int .i64 C0) ∧ w_.cell? ⟨w5.heap.size, 1, none⟩ = some (.slice A2_ ts0.length c2_)) (first | exact ⟨b0.cell rfl, b0.cell rfl, b1.cell rfl, b1.cell rfl⟩)
      (first
        | (go_at_call 17; refine (toSet_any C0 A0 ts0 ts0.length c0 w7.drew rfl (HA0.out.below hE.out) (by omega)).mono ?_; rintro e w8 ⟨v_, rfl, hO, hB⟩; obtain ⟨A3_, c3_, rfl, -, -⟩ := hO.reads; have O3 := Lib.hid (OW.of hO); clear hO; replace b0 := b0.below hB b0.lt; replace b1 := b1.below hB b1.lt; replace O1 := Lib.hid (O1.out.to hB); replace O2 := Lib.hid (O2.out.to hB); have sw8 : w7.drew.heap.size ≤ w8.heap.size := hB.size; replace hE := Lib.hid (below_to hE.out hB); clear hB)
        | (go_at_call 19; refine (eqSet_any C0 C0 A2_ A3_ ts0 ts0 ts0.length ts0.length c2_ c3_ w8 rfl rfl (rt_of O2.out rfl) (rt_of O3.out rfl) (by omega) (by omega)).mono ?_; rintro e w9 ⟨rfl, hB⟩; simp only [decide_true, Bool.and_self]; replace b0 := b0.below hB b0.lt; replace b1 := b1.below hB b1.lt; replace O1 := Lib.hid (O1.out.to hB); replace O2 := Lib.hid (O2.out.to hB); replace O3 := Lib.hid (O3.out.to hB); have sw9 : w8.heap.size ≤ w9.heap.size := hB.size; replace hE := Lib.hid (below_to hE.out hB); clear hB))
    go_wp2_with fail
    go_ret
    exact ⟨rfl, hE.out⟩
end Go.Proofs.Ytcaikaflpmaocaa

/-
  Parts of the proof, in their order: SetOf0, SetOf1, Limited.
-/
import Derived.Test.YtnjmgmdpkogocaaPk14
import Derived.Test.YtnjmgmdpkogocaaPk15
namespace Go.Proofs.Ytnjmgmdpkogocaa
open Go Go.RowKit Go.Proofs
set_option linter.unusedVariables false
set_option linter.unusedSimpArgs false
set_option maxHeartbeats 400000 in
theorem CompactNil_any (w : World) : Calls Try.prog 111 #[.slice none 0 0] w fun e w' => e = .returned (.slice none 0 0) ∧ w' = w := by
  go_enter Try.func111, Try.ntmps111
  go_wp2
  go_ret
  exact ⟨rfl, rfl⟩
set_option maxHeartbeats 400000 in
theorem ValuesT_any (A : Option Addr) (len cap : Nat) (w : World) : Calls Try.prog 109 #[.slice A len cap] w fun e w' => e = .returned (.func (.func 119) #[] #[.pointer (some ⟨w.heap.size, 0, none⟩)]) ∧ w' = w.alloc (.cells #[.slice A len cap] 24) := by
  go_enter Try.func109, Try.ntmps109
  go_wp2
  go_ret
  exact ⟨rfl, rfl⟩
open Go.Sort Go.Shelf in
theorem SortNilT_any (w : World) : Calls Try.prog 118 #[.slice none 0 0, .func (.func 110) #[] #[]] w fun e w' => e = .returned (.tuple #[]) ∧ w' = w := by
  have hcon := AnyF.slices_SortFunc_none sortLaid none 0 (.func (.func 110) #[] #[]) w
  exact hcon
set_option maxHeartbeats 1000000 in
set_option maxRecDepth 100000 in
theorem SortedT_any (Bs len cap : Nat) (A : Option Addr) (ts : List T4) (w : World) (hlen : len = ts.length) (hl : len ≤ 1000000) (hA : RT w A ts) (hBs : Bs < w.heap.size) (hc : w.cell? ⟨Bs, 0, none⟩ = some (.slice A len cap)) :
    Calls Try.prog 108 #[.func (.func 119) #[] #[.pointer (some ⟨Bs, 0, none⟩)], .func (.func 110) #[] #[]] w fun e w' => ∃ v, e = .returned v ∧ OT w' w.heap.size 45 v (msortT ts) ∧ (v = .slice none 0 0 ↔ ts = []) ∧ Below w.heap.size w w' := by
  have hcol := CollectT_any Bs len cap A ts w hlen hl hA hBs hc
  have HCOL := Lib.hid hcol; have HL := Lib.hid hlen; clear hcol hA hc hlen
  cases ts with
  | nil =>
    go_enter Try.func108, Try.ntmps108
    go_wp2_with fail
    refine HCOL.out.mono ?_
    rintro e w1 ⟨v, rfl, hO, hv, hB1⟩
    obtain rfl : v = .slice none 0 0 := by simpa using hv
    have HB := Lib.hid hB1; clear hO hv hB1
    go_wp2_with fail
    refine (SortNilT_any w1).mono ?_
    rintro e w2 ⟨rfl, rfl⟩
    go_wp2_with fail
    go_ret
    have hm : msortT [] = [] := by simp [msortT]
    refine ⟨.slice none 0 0, rfl, ?_, by simp, HB.out⟩
    rw [hm]
    exact w2.ownsRow_nil _ _ _
  | cons t ts =>
    go_enter Try.func108, Try.ntmps108
    go_wp2_with fail
    refine HCOL.out.mono ?_
    rintro e w1 ⟨v, rfl, hO, hv, hB1⟩
    obtain ⟨g, c, rfl, hg, hle⟩ := own_some hO (fun e => by have := hv.1 e; cases this)
    generalize hq : (t :: ts).length = q at hO
    have HO := Lib.hid hO; have HB := Lib.hid hB1; have HQ := Lib.hid hq; clear hO hv hB1 hle
    go_wp2_with fail
    refine (SortFuncT_any g q c w.heap.size (t :: ts) w1 HO.out HQ.out.symm (by have := HL.out; have := HQ.out; omega)).mono ?_
    rintro e w2 ⟨rfl, hO3, hK⟩
    have HO3 := Lib.hid hO3; have HK := Lib.hid hK; clear hO3 hK
    go_wp2_with fail
    go_ret
    exact ⟨_, rfl, HO3.out, by simp, below_only HB.out HK.out hg⟩
end Go.Proofs.Ytnjmgmdpkogocaa
namespace Go.Proofs.Ytnjmgmdpkogocaa
open Go Go.RowKit Go.Proofs
set_option linter.unusedVariables false
set_option linter.unusedSimpArgs false
theorem CompactV_any (v : Value) (base : Nat) (us : List T4) (w : World) (hO : OT w base 45 v us) (hl : us.length ≤ 1000000) :
    Calls Try.prog 111 #[v] w fun e w' => ∃ A1 m c2 g, e = .returned (.slice A1 m c2) ∧ m = (dedT us).length ∧ OT w' base 45 (.slice A1 m c2) (dedT us) ∧ base ≤ g ∧ Only g (g + 1) w w' := by
  by_cases hv : v = .slice none 0 0
  · subst hv
    have h0 : us = [] := by
      rcases hO.2 with ⟨-, h⟩ | ⟨g, cap, cur, he, -⟩
      · exact List.eq_nil_of_length_eq_zero h
      · injection he with e1 _ _; cases e1
    subst h0
    refine (CompactNil_any w).mono ?_
    rintro e w' ⟨rfl, rfl⟩
    exact ⟨none, 0, 0, base, rfl, rfl, w'.ownsRow_nil _ _ _, Nat.le_refl _, Only.refl _ _ _⟩
  · obtain ⟨g, c, rfl, hg, hle⟩ := own_some hO hv
    refine (CompactT_any g us.length c base us w hO rfl hl).mono ?_
    rintro e w' ⟨m, rfl, hm, hO2, hK⟩
    exact ⟨_, m, c, g, rfl, hm, hO2, hg, hK⟩
set_option maxHeartbeats 4000000 in
set_option maxRecDepth 100000 in
theorem setOf_any (C : Int) (A : Option Addr) (ts : List T4) (n c : Nat) (w : World) (hn : n = ts.length) (hA : RT w A ts) (hl : n ≤ 1000000) :
    Calls Try.prog 93 #[.int .i64 C, .slice A n c] w fun e w' => ∃ A1 m c2, e = .returned (.tuple #[.agg #[.int .i64 C, .slice A1 m c2], .bool (decide (C ≤ 6) && decide (m ≤ 16))]) ∧ m = (sortT ts).length ∧ OW w' w.heap.size w'.heap.size 45 4 (.slice A1 m c2) m (tcells (sortT ts)) ∧ Below w.heap.size w w' := by
  have HA := Lib.hid hA; have HN := Lib.hid hn; clear hA hn
  go_enter Try.func93, Try.ntmps93
  go_wp2_with fail
  refine namec1 ?_
  intro W1 b1 hz1 hB1
  refine (ValuesT_any A n c W1).mono ?_
  rintro e w2 ⟨rfl, rfl⟩
  have HB1 := Lib.hid hB1; have HZ1 := Lib.hid hz1; clear hB1 hz1
  go_wp2_with fail
  refine namec1 ?_
  intro W2 b2 hz2 hB2
  have b1' := b1.below hB2 b1.lt
  have HB2 := Lib.hid (below_to HB1.out hB2); have HZ2 := Lib.hid hz2; clear hB2 hz2 b1
  refine (SortedT_any W1.heap.size n c A ts W2 HN.out hl (HA.out.below HB2.out) b2.lt (b2.cell rfl)).mono ?_
  rintro e w3 ⟨v, rfl, hO3, hv3, hB3⟩
  have b1w := b1'.below hB3 b1'.lt
  have HO3 := Lib.hid hO3; have HB3 := Lib.hid (below_to HB2.out hB3); have HS3 := Lib.hid hB3.size; clear hO3 hv3 hB3 b1' b2
  go_wp2_with fail
  refine (CompactV_any v W2.heap.size (msortT ts) w3 HO3.out (by rw [msortT_len]; have := HN.out; omega)).mono ?_
  rintro e w4 ⟨A1, m, c2, g, rfl, hm, hO4, hg, hK4⟩
  rw [ded_msort] at hm hO4
  have b1x := b1w.only hK4 (.inl (by have := HZ1.out; have := HZ2.out; omega))
  have HO4 := Lib.hid hO4; have HB4 := Lib.hid (below_only HB3.out hK4 (by have := HZ1.out; have := HZ2.out; omega)); have HM := Lib.hid hm
  clear hm hO4 hg hK4 b1w
  go_wp2_with fail
  refine name1 ?_
  intro W5 b5 hz5 hB5
  have q1 := b1x.below hB5 b1x.lt
  have HZ5 := Lib.hid (show w.heap.size + 1 ≤ w4.heap.size by have := b1x.lt; omega)
  have HO5 := Lib.hid (HO4.out.to hB5); have HB5 := Lib.hid (below_to HB4.out hB5); clear hB5 hz5 b1x
  have hD := (Below.refl W5.heap.size W5).drew
  have q1d := q1.below hD q1.lt; have b5d := b5.below hD b5.lt
  have HOD := Lib.hid (HO5.out.to hD); have HBD := Lib.hid (below_to HB5.out hD)
  have y0 := q1.cell (k := 0) (v := .int .i64 0) rfl; have y1 := q1.cell (k := 1) (v := .slice none 0 0) rfl
  have g0 := q1.frozen 0; have g1 := q1.frozen 1; have h0 := q1.lt; have h5 := b5.lt
  have z0 := q1d.cell (k := 0) (v := .int .i64 0) rfl; have z1 := q1d.cell (k := 1) (v := .slice none 0 0) rfl
  have f0 := q1d.frozen 0; have f1 := q1d.frozen 1; have l0 := q1d.lt; have l5 := b5d.lt
  have hbx : BK ((W5.setCell ⟨w.heap.size, 0, none⟩ (.int .i64 C)).setCell ⟨w.heap.size, 1, none⟩ (.slice A1 m c2)) w.heap.size #[.int .i64 C, .slice A1 m c2] 26 ∧ BK ((W5.setCell ⟨w.heap.size, 0, none⟩ (.int .i64 C)).setCell ⟨w.heap.size, 1, none⟩ (.slice A1 m c2)) w4.heap.size #[.int .i64 C, .slice A1 m c2] 26 :=
    ⟨(q1.set 0 _).set 1 _, (b5.set_ne (by have := HZ5.out; omega) 0 _).set_ne (by have := HZ5.out; omega) 1 _⟩
  have BX := Lib.hid hbx; clear hbx
  have hfin : ∀ bb : Bool, bb = (decide (C ≤ 6) && decide (m ≤ 16)) → ∃ A1' m' c2', Ending.returned (.tuple #[.agg #[.int .i64 C, .slice A1 m c2], .bool bb]) = .returned (.tuple #[.agg #[.int .i64 C, .slice A1' m' c2'], .bool (decide (C ≤ 6) && decide (m' ≤ 16))]) ∧ m' = (sortT ts).length ∧ OW ((W5.setCell ⟨w.heap.size, 0, none⟩ (.int .i64 C)).setCell ⟨w.heap.size, 1, none⟩ (.slice A1 m c2)).drew w.heap.size ((W5.setCell ⟨w.heap.size, 0, none⟩ (.int .i64 C)).setCell ⟨w.heap.size, 1, none⟩ (.slice A1 m c2)).drew.heap.size 45 4 (.slice A1' m' c2') m' (tcells (sortT ts)) ∧ Below w.heap.size w ((W5.setCell ⟨w.heap.size, 0, none⟩ (.int .i64 C)).setCell ⟨w.heap.size, 1, none⟩ (.slice A1 m c2)).drew := by
    intro bb hbb
    subst hbb
    have hK : Only w.heap.size (w.heap.size + 1) W5 ((W5.setCell ⟨w.heap.size, 0, none⟩ (.int .i64 C)).setCell ⟨w.heap.size, 1, none⟩ (.slice A1 m c2)) :=
      ((Only.refl _ _ _).setCell (Nat.le_refl _) (by omega) _ _).setCell (Nat.le_refl _) (by omega) _ _
    have hlo : w.heap.size + 1 ≤ W2.heap.size := by have := HZ1.out; have := HZ2.out; omega
    have hq : OW W5 W2.heap.size W5.heap.size 45 4 (.slice A1 m c2) m (tcells (sortT ts)) := by
      have h := HO5.out
      unfold OT at h
      rw [← HM.out] at h
      exact OW.of h
    have hO2 := (hq.only hK (.inr hlo)).to (Below.refl _ _).drew
    exact ⟨A1, m, c2, rfl, HM.out, ⟨own_base hO2.own (by omega), fun b hb => Nat.lt_of_lt_of_le (hO2.up b hb) hK.size, Nat.le_refl _⟩, (below_only HB5.out hK (Nat.le_refl _)).drew⟩
  have FIN := Lib.hid hfin; clear hfin
  by_cases hC : C ≤ 6
  · by_cases hm16 : m ≤ 16
    · have m1 : (m : Int) ≤ 16 := by omega
      go_wp2_with fail
      go_region_held3 (fun w_ => w_.cell? ⟨w4.heap.size, 0, none⟩ = some (.int .i64 C) ∧ w_.cell? ⟨w4.heap.size, 1, none⟩ = some (.slice A1 m c2))
        (first | exact ⟨b5d.cell rfl, b5d.cell rfl⟩ | exact ⟨(BX.out.2.below (Below.refl _ _).drew BX.out.2.lt).cell rfl, (BX.out.2.below (Below.refl _ _).drew BX.out.2.lt).cell rfl⟩ | fail) (first | fail)
      go_wp2_with fail
      have hbk : BK ((W5.setCell ⟨w.heap.size, 0, none⟩ (.int .i64 C)).setCell ⟨w.heap.size, 1, none⟩ (.slice A1 m c2)).drew w.heap.size #[.int .i64 C, .slice A1 m c2] 26 := BX.out.1.below (Below.refl _ _).drew BX.out.1.lt
      ((try simp only [Exit.inBlock, Exit.then]); refine bodyPost_ret (results_ctm rfl _ _ _ _ _ _ rfl hbk Try.underlying26 rfl isz26) rfl ?_)
      exact FIN.out _ (by simp [hC, hm16] <;> omega)
    · have m1 : ¬ (m : Int) ≤ 16 := by omega
      go_wp2_with fail
      go_region_held3 (fun w_ => w_.cell? ⟨w4.heap.size, 0, none⟩ = some (.int .i64 C) ∧ w_.cell? ⟨w4.heap.size, 1, none⟩ = some (.slice A1 m c2))
        (first | exact ⟨b5d.cell rfl, b5d.cell rfl⟩ | exact ⟨(BX.out.2.below (Below.refl _ _).drew BX.out.2.lt).cell rfl, (BX.out.2.below (Below.refl _ _).drew BX.out.2.lt).cell rfl⟩ | fail) (first | fail)
      go_wp2_with fail
      have hbk : BK ((W5.setCell ⟨w.heap.size, 0, none⟩ (.int .i64 C)).setCell ⟨w.heap.size, 1, none⟩ (.slice A1 m c2)).drew w.heap.size #[.int .i64 C, .slice A1 m c2] 26 := BX.out.1.below (Below.refl _ _).drew BX.out.1.lt
      ((try simp only [Exit.inBlock, Exit.then]); refine bodyPost_ret (results_ctm rfl _ _ _ _ _ _ rfl hbk Try.underlying26 rfl isz26) rfl ?_)
      exact FIN.out _ (by simp [hC, hm16] <;> omega)
  · have hC2 : ¬ C ≤ 6 := hC
    go_wp2_with fail
    have hdec : decide (C ≤ 6) = false := by simpa using hC
    have e0 := b5.cell (k := 0) (v := .int .i64 C) rfl; have e1 := b5.cell (k := 1) (v := .slice A1 m c2) rfl
    have e0d := b5d.cell (k := 0) (v := .int .i64 C) rfl; have e1d := b5d.cell (k := 1) (v := .slice A1 m c2) rfl
    have e0s := BX.out.2.cell (k := 0) (v := .int .i64 C) rfl; have e1s := BX.out.2.cell (k := 1) (v := .slice A1 m c2) rfl
    have hbk : BK ((W5.setCell ⟨w.heap.size, 0, none⟩ (.int .i64 C)).setCell ⟨w.heap.size, 1, none⟩ (.slice A1 m c2)).drew w.heap.size #[.int .i64 C, .slice A1 m c2] 26 := BX.out.1.below (Below.refl _ _).drew BX.out.1.lt
    have HBK := Lib.hid hbk; clear hbk
    first | (go_region_with (fail)) | fail
    all_goals clear hdec e0 e1 e0d e1d e0s e1s
    all_goals go_wp2_with fail
    all_goals
      have hbk := HBK.out
      ((try simp only [Exit.inBlock, Exit.then]); refine bodyPost_ret (results_ctm rfl _ _ _ _ _ _ rfl hbk Try.underlying26 rfl isz26) rfl ?_)
      exact FIN.out _ (by rw [decide_eq_false (show ¬ C ≤ 6 by omega)]; rfl)
end Go.Proofs.Ytnjmgmdpkogocaa
namespace Go.Proofs.Ytnjmgmdpkogocaa
open Go Go.RowKit Go.Proofs
set_option linter.unusedVariables false
set_option linter.unusedSimpArgs false
def limR (C : Int) (ts : List T4) : (Int × List T4) × Int := if (decide (C ≤ 6) && decide ((sortT ts).length ≤ 16)) = true then ((C, sortT ts), 0) else ((0, []), 3)
theorem limR_len (C : Int) (ts : List T4) : (limR C ts).1.2.length ≤ 1048576 := by
  unfold limR
  split
  · rename_i h
    simp only [Bool.and_eq_true, decide_eq_true_eq] at h
    simp only; omega
  · simp
set_option maxHeartbeats 4000000 in
set_option maxRecDepth 100000 in
theorem limited_any (C : Int) (A : Option Addr) (ts : List T4) (n c : Nat) (w : World) (hn : n = ts.length) (hA : RT w A ts) (hl : n ≤ 1000000) :
    Calls Try.prog 57 #[.int .i64 C, .slice A n c] w fun e w' => ∃ v xc xs code, limR C ts = ((xc, xs), code) ∧ e = .returned (.tuple #[.agg #[.int .i64 xc, v], .int .i64 code]) ∧ OW w' w.heap.size w'.heap.size 45 4 v xs.length (tcells xs) ∧ Below w.heap.size w w' := by
  have HA := Lib.hid hA; have HN := Lib.hid hn; clear hA hn
  go_enter Try.func57, Try.ntmps57
  go_wp2_with fail
  refine namec1 ?_
  intro W1 b1 hz1 hB1
  refine (setOf_any C A ts n c W1 HN.out (HA.out.below hB1) hl).mono ?_
  rintro e w1 ⟨A1, m, c2, rfl, hm, hO, hB2⟩
  have b1' := b1.below hB2 b1.lt
  have HZ := Lib.hid (show w.heap.size + 1 ≤ W1.heap.size by omega)
  have HB := Lib.hid (below_to hB1 hB2); have HO := Lib.hid hO; have HM := Lib.hid hm
  clear hB1 hB2 hz1 b1 hO hm
  have z0 := b1'.cell (k := 0) (v := .int .i64 0) rfl; have z1 := b1'.cell (k := 1) (v := .slice none 0 0) rfl
  have f0 := b1'.frozen 0; have f1 := b1'.frozen 1; have l0 := b1'.lt
  cases hb : (decide (C ≤ 6) && decide (m ≤ 16))
  · have HR := Lib.hid (show limR C ts = ((0, []), 3) by unfold limR; rw [← HM.out, hb]; rfl)
    clear hb
    go_wp2_with fail
    have hbk : BK (((w1.setCell ⟨w.heap.size, 0, none⟩ (.int .i64 0)).setCell ⟨w.heap.size, 1, none⟩ (.slice none 0 0)).alloc (.cells #[.int .i64 C, .slice A1 m c2] 26)) w.heap.size #[.int .i64 0, .slice none 0 0] 26 := ((b1'.set 0 _).set 1 _).alloc _
    ((try simp only [Exit.inBlock, Exit.then]); refine bodyPost_ret (results_ctm rfl _ _ _ _ _ _ rfl hbk Try.underlying26 rfl isz26) rfl ?_)
    have hK : Only w.heap.size (w.heap.size + 1) w1 ((w1.setCell ⟨w.heap.size, 0, none⟩ (.int .i64 0)).setCell ⟨w.heap.size, 1, none⟩ (.slice none 0 0)) :=
      ((Only.refl _ _ _).setCell (Nat.le_refl _) (by omega) _ _).setCell (Nat.le_refl _) (by omega) _ _
    exact ⟨.slice none 0 0, 0, [], 3, HR.out, rfl, OW.nil _ _ _ _ _ (Nat.le_refl _), below_to (below_only HB.out hK (Nat.le_refl _)) (new_below ((w1.setCell ⟨w.heap.size, 0, none⟩ (.int .i64 0)).setCell ⟨w.heap.size, 1, none⟩ (.slice none 0 0)) _)⟩
  · have HR := Lib.hid (show limR C ts = ((C, sortT ts), 0) by unfold limR; rw [← HM.out, hb]; rfl)
    clear hb
    go_wp2_with fail
    have hbk : BK (((w1.setCell ⟨w.heap.size, 0, none⟩ (.int .i64 C)).setCell ⟨w.heap.size, 1, none⟩ (.slice A1 m c2)).alloc (.cells #[.int .i64 C, .slice A1 m c2] 26)) w.heap.size #[.int .i64 C, .slice A1 m c2] 26 := ((b1'.set 0 _).set 1 _).alloc _
    ((try simp only [Exit.inBlock, Exit.then]); refine bodyPost_ret (results_ctm rfl _ _ _ _ _ _ rfl hbk Try.underlying26 rfl isz26) rfl ?_)
    have hK : Only w.heap.size (w.heap.size + 1) w1 ((w1.setCell ⟨w.heap.size, 0, none⟩ (.int .i64 C)).setCell ⟨w.heap.size, 1, none⟩ (.slice A1 m c2)) :=
      ((Only.refl _ _ _).setCell (Nat.le_refl _) (by omega) _ _).setCell (Nat.le_refl _) (by omega) _ _
    have hO2 := (HO.out.only hK (.inr HZ.out)).to (new_below ((w1.setCell ⟨w.heap.size, 0, none⟩ (.int .i64 C)).setCell ⟨w.heap.size, 1, none⟩ (.slice A1 m c2)) (.cells #[.int .i64 C, .slice A1 m c2] 26))
    have hM := HM.out
    subst hM
    have hlo := HZ.out
    exact ⟨_, _, _, _, HR.out, rfl, ⟨own_base hO2.own (by omega), fun b hb => Nat.lt_of_lt_of_le (hO2.up b hb) (Nat.le_trans hK.size (new_below _ _).size), Nat.le_refl _⟩, below_to (below_only HB.out hK (Nat.le_refl _)) (new_below _ _)⟩
end Go.Proofs.Ytnjmgmdpkogocaa

/-
  Contracts: the tiles that are in both sets.
-/
import Derived.Test.YtaidmloaoogmoaaSets
import Derived.Test.YtaidmloaoogmoaaLaw1
namespace Go.Proofs.Ytaidmloaoogmoaa
open Go Go.RowKit Go.Proofs
set_option linter.unusedVariables false
set_option linter.unusedSimpArgs false

def commonR (C : Int) (ts : List T4) (D : Int) (us : List T4) : List T4 × Int :=
  if (isS C ts && isS D us) = true then if C = D then (ts.filter (hasT us), 0) else ([], 2) else ([], 1)
theorem commonR_len (C : Int) (ts : List T4) (D : Int) (us : List T4) : (commonR C ts D us).1.length ≤ 1048576 := by
  unfold commonR
  split
  · rename_i h
    split
    · have h1 : isS C ts = true := by simp at h; exact h.1
      have := (isS_iff.1 h1).2.1
      have := List.length_filter_le (hasT us) ts
      simp only; omega
    · simp
  · simp
theorem take_tk {ts : List T4} {k : Nat} (hk : k < ts.length) : ts.take (k + 1) = ts.take k ++ [tk ts k] := by
  rw [List.take_succ_eq_append_getElem hk, tk_get]
theorem filter_yes {ts : List T4} {p : T4 → Bool} {k : Nat} (hk : k < ts.length) (h : p (tk ts k) = true) : (ts.take (k + 1)).filter p = (ts.take k).filter p ++ [tk ts k] := by
  rw [take_tk hk, List.filter_append]; simp [h]
theorem filter_no {ts : List T4} {p : T4 → Bool} {k : Nat} (hk : k < ts.length) (h : p (tk ts k) = false) : (ts.take (k + 1)).filter p = (ts.take k).filter p := by
  rw [take_tk hk, List.filter_append]; simp [h]
theorem filter_le {ts : List T4} {p : T4 → Bool} {k : Nat} : ((ts.take k).filter p).length ≤ ts.length := Nat.le_trans (List.length_filter_le _ _) (by rw [List.length_take]; omega)

set_option maxHeartbeats 4000000 in
set_option maxRecDepth 100000 in
theorem specCommon_any (C : Int) (A : Option Addr) (ts : List T4) (n c : Nat) (D : Int) (A' : Option Addr) (us : List T4) (m c' : Nat) (w : World) (hn : n = ts.length) (hA : RT w A ts) (hnc : n ≤ c) (hl : n ≤ 35184372088832) (hm : m = us.length) (hA' : RT w A' us) (hmc : m ≤ c') (hl' : m ≤ 35184372088832) :
    Calls Try.prog 26 #[.agg #[.int .i64 C, .slice A n c], .agg #[.int .i64 D, .slice A' m c']] w fun e w' => ∃ v xs code, commonR C ts D us = (xs, code) ∧ e = .returned (.tuple #[v, .int .i64 code]) ∧ OW w' w.heap.size w'.heap.size 67 4 v xs.length (tcells xs) ∧ Below w.heap.size w w' := by
  have HA := Lib.hid hA; have HN := Lib.hid hn; have HA' := Lib.hid hA'; have HM := Lib.hid hm; clear hA hn hA' hm
  have hBad : ∀ (w' : World) (code : Int), commonR C ts D us = ([], code) → Below w.heap.size w w' → ∃ v xs code', commonR C ts D us = (xs, code') ∧ Ending.returned (.tuple #[.slice none 0 0, .int .i64 code]) = .returned (.tuple #[v, .int .i64 code']) ∧ OW w' w.heap.size w'.heap.size 67 4 v xs.length (tcells xs) ∧ Below w.heap.size w w' :=
    fun w' code h hB => ⟨_, _, _, h, rfl, OW.nil _ _ _ _ _ (Nat.le_refl _), hB⟩
  have HBAD := Lib.hid hBad; clear hBad
  cases h1 : isS C ts
  · have H1 := Lib.hid h1; clear h1
    go_enter Try.func26, Try.ntmps26
    go_wp2_with fail
    refine namec2 ?_
    intro W1 b1 b2 hz hb0
    refine (l01Is_any C A ts n c W1 HN.out (HA.out.below hb0) hl).mono ?_
    rintro e w1 ⟨rfl, hB1⟩
    rw [H1.out]
    have HB := Lib.hid (below_to hb0 hB1); clear hb0 hB1 hz b1 b2
    go_wp2_with fail
    go_ret2
    exact HBAD.out _ _ (by simp [commonR, H1.out]) HB.out
  · have H1 := Lib.hid h1; clear h1
    cases h2 : isS D us
    · have H2 := Lib.hid h2; clear h2
      go_enter Try.func26, Try.ntmps26
      go_wp2_with fail
      refine namec2 ?_
      intro W1 b1 b2 hz hb0
      refine (l01Is_any C A ts n c W1 HN.out (HA.out.below hb0) hl).mono ?_
      rintro e w1 ⟨rfl, hB1⟩
      rw [H1.out]
      have b2' := b2.below hB1 b2.lt
      have HB := Lib.hid (below_to hb0 hB1); clear hb0 hB1 hz b1 b2
      have a0 : w1.cell? ⟨w.heap.size + 1, 0, none⟩ = some (.int .i64 D) := b2'.cell rfl
      have a1 : w1.cell? ⟨w.heap.size + 1, 1, none⟩ = some (.slice A' m c') := b2'.cell rfl
      go_wp2_with fail
      refine (l01Is_any D A' us m c' w1 HM.out (HA'.out.below HB.out) hl').mono ?_
      rintro e w2 ⟨rfl, hB2⟩
      rw [H2.out]
      have HB2 := Lib.hid (below_to HB.out hB2); clear hB2 b2' a0 a1
      go_wp2_with fail
      go_ret2
      exact HBAD.out _ _ (by simp [commonR, H1.out, H2.out]) HB2.out
    · have H2 := Lib.hid h2; clear h2
      by_cases hCD : C = D
      · have HCD := Lib.hid hCD
        have hne : (C != D) = false := by simp [hCD]
        clear hCD
        have h16 := (isS_iff.1 H1.out).2.1
        have HR := Lib.hid (show commonR C ts D us = (ts.filter (hasT us), 0) by unfold commonR; rw [H1.out, H2.out, Bool.and_self, if_pos rfl, if_pos HCD.out])
        go_enter Try.func26, Try.ntmps26
        go_wp2_with fail
        refine namec2 ?_
        intro W1 b1 b2 hz hb0
        refine (l01Is_any C A ts n c W1 HN.out (HA.out.below hb0) hl).mono ?_
        rintro e w1 ⟨rfl, hB1⟩
        rw [H1.out]
        have b1' := b1.below hB1 b1.lt
        have b2' := b2.below hB1 b2.lt
        have hz1 : w.heap.size + 2 ≤ w1.heap.size := by have := hB1.size; omega
        have HB := Lib.hid (below_to hb0 hB1); clear hb0 hB1 hz b1 b2
        have a0 : w1.cell? ⟨w.heap.size + 1, 0, none⟩ = some (.int .i64 D) := b2'.cell rfl
        have a1 : w1.cell? ⟨w.heap.size + 1, 1, none⟩ = some (.slice A' m c') := b2'.cell rfl
        go_wp2_with fail
        refine (l01Is_any D A' us m c' w1 HM.out (HA'.out.below HB.out) hl').mono ?_
        rintro e w2 ⟨rfl, hB2⟩
        rw [H2.out]
        have b1w := b1'.below hB2 b1'.lt
        have b2w := b2'.below hB2 b2'.lt
        have hz2 : w.heap.size + 2 ≤ w2.heap.size := by have := hB2.size; omega
        have HB2 := Lib.hid (below_to HB.out hB2); clear hB2 b1' b2' a0 a1 hz1
        have a0 : w2.cell? ⟨w.heap.size, 0, none⟩ = some (.int .i64 C) := b1w.cell rfl
        have a2 : w2.cell? ⟨w.heap.size + 1, 0, none⟩ = some (.int .i64 D) := b2w.cell rfl
        go_wp2_with fail
        refine name1 ?_
        intro W3 b3 hz3 hB3
        have hlit := OT.empty b3 hz2
        have b1x := b1w.below hB3 b1w.lt
        have b2x := b2w.below hB3 b2w.lt
        have hz4 : w.heap.size + 2 ≤ W3.heap.size := by omega
        have HB3 := Lib.hid (below_to HB2.out hB3); clear hB3 b1w b2w b3 hz3 hz2 a0 a2
        go_loopw [6, 7] (fun v i wr => Below w.heap.size w wr ∧ w.heap.size + 2 ≤ wr.heap.size ∧ BK wr w.heap.size #[.int .i64 C, .slice A n c] 30 ∧ BK wr (w.heap.size + 1) #[.int .i64 D, .slice A' m c'] 30 ∧ ∃ k : Nat, k ≤ n ∧ i = .int .i64 k ∧ OT wr (w.heap.size + 2) 67 v ((ts.take k).filter (hasT us))) (fun _ i _ => n - (intOf i).toNat)
        case atStart => exact ⟨HB3.out, hz4, b1x, b2x, 0, by omega, rfl, hlit⟩
        case round =>
          obtain ⟨hB, hzr, bb1, bb2, k, hk, rfl, hO⟩ := hrel
          have HB4 := Lib.hid hB; have HO := Lib.hid hO; clear hB hO hlit b1x b2x hz4
          have a0 : wr.cell? ⟨w.heap.size, 0, none⟩ = some (.int .i64 C) := bb1.cell rfl
          have a1 : wr.cell? ⟨w.heap.size, 1, none⟩ = some (.slice A n c) := bb1.cell rfl
          have a2 : wr.cell? ⟨w.heap.size + 1, 0, none⟩ = some (.int .i64 D) := bb2.cell rfl
          have a3 : wr.cell? ⟨w.heap.size + 1, 1, none⟩ = some (.slice A' m c') := bb2.cell rfl
          have l1 := bb1.lt
          have l2 := bb2.lt
          by_cases hlt : k < n
          · have i1 : (k : Int) < n := by omega
            have HK := Lib.hid (show k < ts.length by have := HN.out; omega)
            obtain ⟨b, o, hA', hb, h0, h1, h2, h3⟩ := (HA.out.below HB4.out) k HK.out
            subst hA'
            cases hh : hasT us (tk ts k)
            · have HH := Lib.hid hh; clear hh
              go_wp2_with fail
              refine wp_region_gro (by kernel_rfl) (by kernel_rfl) ?_
              repeat (first | go_big_quiet_step (((go_at_call 65; exact quiet_call (by have h := l01Has_any D A' us m c' (tk ts k) (gro wr ‹GP›) HM.out (HA'.out.below (HB4.out.trans ((gro_below wr _).mono HB4.out.size))) hl'; rw [HH.out] at h; exact h)))) | quiet_step (((go_at_call 65; exact quiet_call (by have h := l01Has_any D A' us m c' (tk ts k) (gro wr ‹GP›) HM.out (HA'.out.below (HB4.out.trans ((gro_below wr _).mono HB4.out.size))) hl'; rw [HH.out] at h; exact h)))))
              refine wpQuiet_nil ?_
              intro w5 hB5
              have HO5 := Lib.hid (HO.out.to hB5)
              have B1 := bb1.below hB5 bb1.lt; have B2 := bb2.below hB5 bb2.lt
              have hz5 : w.heap.size + 2 ≤ w5.heap.size := by have := hB5.size; omega
              have HB5 := Lib.hid (below_to HB4.out hB5); clear hB5
              go_wp2_with fail
              go_roundw
              case rel => exact ⟨HB5.out, hz5, B1, B2, k + 1, by omega, by go_num, by rw [filter_no HK.out HH.out]; exact HO5.out⟩
              case measure => simp [intOf]; omega
            · have HH := Lib.hid hh; clear hh
              go_wp2_with fail
              refine wp_region_gro (by kernel_rfl) (by kernel_rfl) ?_
              repeat (first | go_big_quiet_step (((go_at_call 65; exact quiet_call (by have h := l01Has_any D A' us m c' (tk ts k) (gro wr ‹GP›) HM.out (HA'.out.below (HB4.out.trans ((gro_below wr _).mono HB4.out.size))) hl'; rw [HH.out] at h; exact h)))) | quiet_step (((go_at_call 65; exact quiet_call (by have h := l01Has_any D A' us m c' (tk ts k) (gro wr ‹GP›) HM.out (HA'.out.below (HB4.out.trans ((gro_below wr _).mono HB4.out.size))) hl'; rw [HH.out] at h; exact h)))))
              refine wpQuiet_nil ?_
              intro w5 hB5
              have HO5 := Lib.hid (HO.out.to hB5)
              have B1 := bb1.below hB5 bb1.lt; have B2 := bb2.below hB5 bb2.lt
              have A1 := cell_to hB5 a1
              have H0 := cell_to hB5 h0; have H1 := cell_to hB5 h1; have H2 := cell_to hB5 h2; have H3 := cell_to hB5 h3
              have hz5 : w.heap.size + 2 ≤ w5.heap.size := by have := hB5.size; omega
              have HB5 := Lib.hid (below_to HB4.out hB5); clear hB5 a0 a1 a2 a3 h0 h1 h2 h3 l1 l2
              go_wp2_with (at_builtin; refine app_tile (w.heap.size + 2) rfl (.tmp 38) (.tmp 44) 28 67 rfl Try.underlying28 info67 _ _ (tk ts k) rfl rfl HO5.out hz5 (by have := filter_le (ts := ts) (p := hasT us) (k := k); omega) ?_; intro v6 w6 hO6 hG _; have B1x := B1.below_own hG HO5.out (by omega); have B2x := B2.below_own hG HO5.out (by omega); have HB6 := Lib.hid (grown_below HB5.out hG fun b hb => by have := own_lo HO5.out b hb; omega); have HO6 := Lib.hid hO6; have hz6 : w.heap.size + 2 ≤ w6.heap.size := Nat.le_trans hz5 hG.size; clear hG hO6 B1 B2)
              go_roundw
              case rel => exact ⟨HB6.out, hz6, B1x, B2x, k + 1, by omega, by go_num, by rw [filter_yes HK.out HH.out]; exact HO6.out⟩
              case measure => simp [intOf]; omega
          · have hkn : k = n := by omega
            go_wp2_with fail
            go_ret2
            refine ⟨_, _, _, HR.out, rfl, OW.of (own_base (base := w.heap.size + 2) ?_ (by omega)), HB4.out⟩
            have := HO.out
            rw [hkn, HN.out, List.take_length] at this
            exact this
      · have HCD := Lib.hid hCD
        have hne : (C != D) = true := by simpa using hCD
        clear hCD
        go_enter Try.func26, Try.ntmps26
        go_wp2_with fail
        refine namec2 ?_
        intro W1 b1 b2 hz hb0
        refine (l01Is_any C A ts n c W1 HN.out (HA.out.below hb0) hl).mono ?_
        rintro e w1 ⟨rfl, hB1⟩
        rw [H1.out]
        have b1' := b1.below hB1 b1.lt
        have b2' := b2.below hB1 b2.lt
        have HB := Lib.hid (below_to hb0 hB1); clear hb0 hB1 hz b1 b2
        have a0 : w1.cell? ⟨w.heap.size + 1, 0, none⟩ = some (.int .i64 D) := b2'.cell rfl
        have a1 : w1.cell? ⟨w.heap.size + 1, 1, none⟩ = some (.slice A' m c') := b2'.cell rfl
        go_wp2_with fail
        refine (l01Is_any D A' us m c' w1 HM.out (HA'.out.below HB.out) hl').mono ?_
        rintro e w2 ⟨rfl, hB2⟩
        rw [H2.out]
        have b1w := b1'.below hB2 b1'.lt
        have b2w := b2'.below hB2 b2'.lt
        have HB2 := Lib.hid (below_to HB.out hB2); clear hB2 b1' b2' a0 a1
        have a0 : w2.cell? ⟨w.heap.size, 0, none⟩ = some (.int .i64 C) := b1w.cell rfl
        have a2 : w2.cell? ⟨w.heap.size + 1, 0, none⟩ = some (.int .i64 D) := b2w.cell rfl
        go_wp2_with fail
        go_ret2
        exact HBAD.out _ _ (by simp [commonR, H1.out, H2.out, HCD.out]) HB2.out

set_option maxHeartbeats 4000000 in
set_option maxRecDepth 100000 in
theorem implCommon_any (C : Int) (A : Option Addr) (ts : List T4) (n c : Nat) (D : Int) (A' : Option Addr) (us : List T4) (m c' : Nat) (w : World) (hn : n = ts.length) (hA : RT w A ts) (hnc : n ≤ c) (hl : n ≤ 35184372088832) (hm : m = us.length) (hA' : RT w A' us) (hmc : m ≤ c') (hl' : m ≤ 35184372088832) :
    Calls Try.prog 27 #[.agg #[.int .i64 C, .slice A n c], .agg #[.int .i64 D, .slice A' m c']] w fun e w' => ∃ v xs code, commonR C ts D us = (xs, code) ∧ e = .returned (.tuple #[v, .int .i64 code]) ∧ OW w' w.heap.size w'.heap.size 67 4 v xs.length (tcells xs) ∧ Below w.heap.size w w' := by
  have HA := Lib.hid hA; have HN := Lib.hid hn; have HA' := Lib.hid hA'; have HM := Lib.hid hm; clear hA hn hA' hm
  have hBad : ∀ (w' : World) (code : Int), commonR C ts D us = ([], code) → Below w.heap.size w w' → ∃ v xs code', commonR C ts D us = (xs, code') ∧ Ending.returned (.tuple #[.slice none 0 0, .int .i64 code]) = .returned (.tuple #[v, .int .i64 code']) ∧ OW w' w.heap.size w'.heap.size 67 4 v xs.length (tcells xs) ∧ Below w.heap.size w w' :=
    fun w' code h hB => ⟨_, _, _, h, rfl, OW.nil _ _ _ _ _ (Nat.le_refl _), hB⟩
  have HBAD := Lib.hid hBad; clear hBad
  cases h12 : (isS C ts && isS D us)
  · have H12 := Lib.hid h12; clear h12
    go_enter Try.func27, Try.ntmps27
    go_wp2_with fail
    refine namec3 ?_
    intro W1 b1 b2 b3 hz hb0
    refine (areSets_any _ C D A A' ts us n m c c' _ W1 HN.out HM.out b3 (HA.out.below hb0) (HA'.out.below hb0) hl hl').mono ?_
    rintro e w1 ⟨rfl, hB1⟩
    rw [H12.out]
    have HB := Lib.hid (below_to hb0 hB1); clear hb0 hB1 hz b1 b2 b3
    go_wp2_with fail
    go_ret2
    exact HBAD.out _ _ (by simp only [commonR]; rw [H12.out]; simp) HB.out
  · have H12 := Lib.hid h12
    have H1 : Hid (isS C ts = true) := Lib.hid (by simp at h12; exact h12.1)
    clear h12
    have h16 := (isS_iff.1 H1.out).2.1
    by_cases hCD : C = D
    · have HCD := Lib.hid hCD
      have hne : (C != D) = false := by simp [hCD]
      clear hCD
      have HR := Lib.hid (show commonR C ts D us = (ts.filter (hasT us), 0) by unfold commonR; rw [H12.out, if_pos rfl, if_pos HCD.out])
      go_enter Try.func27, Try.ntmps27
      go_wp2_with fail
      refine namec3 ?_
      intro W1 b1 b2 b3 hz hb0
      refine (areSets_any _ C D A A' ts us n m c c' _ W1 HN.out HM.out b3 (HA.out.below hb0) (HA'.out.below hb0) hl hl').mono ?_
      rintro e w1 ⟨rfl, hB1⟩
      rw [H12.out]
      have b1w := b1.below hB1 b1.lt
      have b2w := b2.below hB1 b2.lt
      have hz2 : w.heap.size + 2 ≤ w1.heap.size := by have := hB1.size; omega
      have HB2 := Lib.hid (below_to hb0 hB1); clear hb0 hB1 hz b1 b2 b3
      have a0 : w1.cell? ⟨w.heap.size, 0, none⟩ = some (.int .i64 C) := b1w.cell rfl
      have a1 : w1.cell? ⟨w.heap.size, 1, none⟩ = some (.slice A n c) := b1w.cell rfl
      have a2 : w1.cell? ⟨w.heap.size + 1, 0, none⟩ = some (.int .i64 D) := b2w.cell rfl
      have l1 := b1w.lt
      go_wp2_with fail
      clear l1
      refine name1 ?_
      intro W3 b3 hz3 hB3
      have hlit := OT.empty b3 hz2
      have b1x := b1w.below hB3 b1w.lt
      have b2x := b2w.below hB3 b2w.lt
      have hz4 : w.heap.size + 2 ≤ W3.heap.size := by omega
      have HB3 := Lib.hid (below_to HB2.out hB3); clear hB3 b1w b2w b3 hz3 hz2 a0 a1 a2
      go_loopw [6, 25] (fun v i wr => Below w.heap.size w wr ∧ w.heap.size + 2 ≤ wr.heap.size ∧ BK wr w.heap.size #[.int .i64 C, .slice A n c] 30 ∧ BK wr (w.heap.size + 1) #[.int .i64 D, .slice A' m c'] 30 ∧ ∃ k : Nat, k ≤ n ∧ i = .int .i64 k ∧ OT wr (w.heap.size + 2) 67 v ((ts.take k).filter (hasT us))) (fun _ i _ => n - (intOf i).toNat)
      case atStart => exact ⟨HB3.out, hz4, b1x, b2x, 0, by omega, rfl, hlit⟩
      case round =>
        obtain ⟨hB, hzr, bb1, bb2, k, hk, rfl, hO⟩ := hrel
        have HB4 := Lib.hid hB; have HO := Lib.hid hO; clear hB hO hlit b1x b2x hz4
        by_cases hlt : k < n
        · have i1 : (k : Int) < n := by omega
          have HK := Lib.hid (show k < ts.length by have := HN.out; omega)
          obtain ⟨b, o, hA', hb, h0, h1, h2, h3⟩ := (HA.out.below HB4.out) k HK.out
          subst hA'
          cases hh : hasT us (tk ts k)
          · have HH := Lib.hid hh; clear hh
            have a3 : wr.cell? ⟨w.heap.size + 1, 1, none⟩ = some (.slice A' m c') := bb2.cell rfl
            have l2 := bb2.lt
            go_wp2_with fail
            refine namec1 ?_
            intro W4 bt hzt hBt
            refine (ContainsT_any A' us m c' (tk ts k) W4 HM.out (HA'.out.below (below_to HB4.out hBt)) hl').mono ?_
            rintro e w5 ⟨rfl, hB5⟩
            rw [HH.out]
            have hB6 := below_to hBt hB5
            have HO5 := Lib.hid (HO.out.to hB6)
            have B1 := bb1.below hB6 bb1.lt; have B2 := bb2.below hB6 bb2.lt
            have hz5 : w.heap.size + 2 ≤ w5.heap.size := by have := hB6.size; omega
            have HB5 := Lib.hid (below_to HB4.out hB6); clear hB5 hBt hB6 hzt bt
            go_wp2_with fail
            go_roundw
            case rel => exact ⟨HB5.out, hz5, B1, B2, k + 1, by omega, by go_num, by rw [filter_no HK.out HH.out]; exact HO5.out⟩
            case measure => simp [intOf]; omega
          · have HH := Lib.hid hh; clear hh
            have a3 : wr.cell? ⟨w.heap.size + 1, 1, none⟩ = some (.slice A' m c') := bb2.cell rfl
            have l2 := bb2.lt
            go_wp2_with fail
            refine namec1 ?_
            intro W4 bt hzt hBt
            refine (ContainsT_any A' us m c' (tk ts k) W4 HM.out (HA'.out.below (below_to HB4.out hBt)) hl').mono ?_
            rintro e w5 ⟨rfl, hB5⟩
            rw [HH.out]
            have hB6 := below_to hBt hB5
            have HO5 := Lib.hid (HO.out.to hB6)
            have B1 := bb1.below hB6 bb1.lt; have B2 := bb2.below hB6 bb2.lt
            have bt5 := bt.below hB5 bt.lt
            have hz5 : w.heap.size + 2 ≤ w5.heap.size := by have := hB6.size; omega
            have HB5 := Lib.hid (below_to HB4.out hB6); clear hB5 hBt hB6 hzt bt a3 l2 h0 h1 h2 h3 hb
            have h0 : w5.cell? ⟨wr.heap.size, 0, none⟩ = some (.int .i64 ((tk ts k).get 0)) := bt5.cell rfl
            have h1 : w5.cell? ⟨wr.heap.size, 1, none⟩ = some (.int .i64 ((tk ts k).get 1)) := bt5.cell rfl
            have h2 : w5.cell? ⟨wr.heap.size, 2, none⟩ = some (.int .i64 ((tk ts k).get 2)) := bt5.cell rfl
            have h3 : w5.cell? ⟨wr.heap.size, 3, none⟩ = some (.int .i64 ((tk ts k).get 3)) := bt5.cell rfl
            go_wp2_with (at_builtin; refine app_tile (w.heap.size + 2) rfl (.tmp 33) (.tmp 35) 28 67 rfl Try.underlying28 info67 _ _ (tk ts k) rfl rfl HO5.out hz5 (by have := filter_le (ts := ts) (p := hasT us) (k := k); omega) ?_; intro v6 w6 hO6 hG _; have B1x := B1.below_own hG HO5.out (by omega); have B2x := B2.below_own hG HO5.out (by omega); have HB6 := Lib.hid (grown_below HB5.out hG fun b hb => by have := own_lo HO5.out b hb; omega); have HO6 := Lib.hid hO6; have hz6 : w.heap.size + 2 ≤ w6.heap.size := Nat.le_trans hz5 hG.size; clear hG hO6 B1 B2)
            go_roundw
            case rel => exact ⟨HB6.out, hz6, B1x, B2x, k + 1, by omega, by go_num, by rw [filter_yes HK.out HH.out]; exact HO6.out⟩
            case measure => simp [intOf]; omega
        · have hkn : k = n := by omega
          go_wp2_with fail
          go_ret2
          refine ⟨_, _, _, HR.out, rfl, OW.of (own_base (base := w.heap.size + 2) ?_ (by omega)), HB4.out⟩
          have := HO.out
          rw [hkn, HN.out, List.take_length] at this
          exact this
    · have HCD := Lib.hid hCD
      have hne : (C != D) = true := by simpa using hCD
      clear hCD
      go_enter Try.func27, Try.ntmps27
      go_wp2_with fail
      refine namec3 ?_
      intro W1 b1 b2 b3 hz hb0
      refine (areSets_any _ C D A A' ts us n m c c' _ W1 HN.out HM.out b3 (HA.out.below hb0) (HA'.out.below hb0) hl hl').mono ?_
      rintro e w1 ⟨rfl, hB1⟩
      rw [H12.out]
      have b1w := b1.below hB1 b1.lt
      have b2w := b2.below hB1 b2.lt
      have HB2 := Lib.hid (below_to hb0 hB1); clear hb0 hB1 hz b1 b2 b3
      have a0 : w1.cell? ⟨w.heap.size, 0, none⟩ = some (.int .i64 C) := b1w.cell rfl
      have a2 : w1.cell? ⟨w.heap.size + 1, 0, none⟩ = some (.int .i64 D) := b2w.cell rfl
      go_wp2_with fail
      go_ret2
      exact HBAD.out _ _ (by unfold commonR; rw [H12.out, if_pos rfl, if_neg HCD.out]) HB2.out
end Go.Proofs.Ytaidmloaoogmoaa

/-
  Contract: TrimSet of the reference. (mktrims.py wrote it.)
-/
import Derived.Test.YtgdmflmglkakgaaTrimP
namespace Go.Proofs.Ytgdmflmglkakgaa
open Go Go.RowKit Go.Proofs Go.Proofs.YtgdmflmglkakgaaW.PrintWords Go.Proofs.Ytgdmflmglkakgaa.Q
set_option linter.unusedVariables false
set_option linter.unusedSimpArgs false

theorem isx32 : (Try.prog.info? 32).map (·.size) = some 2 := by kernel_rfl
set_option maxHeartbeats 8000000 in
set_option maxRecDepth 100000 in
theorem specTrimSet_any (C : Int) (A : Option Addr) (ts : List T4) (n c : Nat) (w : World) (hn : n = ts.length) (hA : RT w A ts) (hnc : n ≤ c) (hl : n ≤ 35184372088832) :
    Calls Try.prog 23 #[.agg #[.int .i64 C, .slice A n c]] w fun e w' => ∃ v xc xs code, trimR C ts = ((xc, xs), code) ∧ e = .returned (.tuple #[.agg #[.int .i64 xc, v], .int .i64 code]) ∧ OW w' w.heap.size w'.heap.size 63 4 v xs.length (tcells xs) ∧ Below w.heap.size w w' := by
  have HA := Lib.hid hA; have HN := Lib.hid hn; clear hA hn
  cases hs : isS C ts with
  | false =>
    have HS := Lib.hid hs; clear hs
    go_enter Try.func23, Try.ntmps23
    go_wp2_with fail
    refine namec2 ?_
    intro W1 b1 b2 hz hb0
    refine (l01Is_any C A ts n c W1 HN.out (HA.out.below hb0) hl).mono ?_
    rintro e w1 ⟨rfl, hB1⟩
    rw [HS.out]
    have b3' := b2.below hB1 b2.lt
    have HB := Lib.hid (below_to hb0 hB1); clear hb0 hB1 hz b1 b2
    have z0 := b3'.cell (k := 0) (v := .int .i64 0) rfl; have z1 := b3'.cell (k := 1) (v := .slice none 0 0) rfl
    have f0 := b3'.frozen 0; have f1 := b3'.frozen 1; have l0 := b3'.lt
    go_wp2_with fail
    have hbk : BK ((w1.setCell ⟨w.heap.size + 1, 0, none⟩ (.int .i64 0)).setCell ⟨w.heap.size + 1, 1, none⟩ (.slice none 0 0)) (w.heap.size + 1) #[.int .i64 0, .slice none 0 0] 32 := (b3'.set 0 _).set 1 _
    ((try simp only [Exit.inBlock, Exit.then]); refine bodyPost_ret (results_ctm rfl _ _ _ _ _ _ rfl hbk Try.underlying32 rfl isx32) rfl ?_)
    have hK : Only (w.heap.size + 1) (w.heap.size + 1 + 1) w1 ((w1.setCell ⟨w.heap.size + 1, 0, none⟩ (.int .i64 0)).setCell ⟨w.heap.size + 1, 1, none⟩ (.slice none 0 0)) :=
      ((Only.refl _ _ _).setCell (Nat.le_refl _) (by omega) _ _).setCell (Nat.le_refl _) (by omega) _ _
    exact ⟨.slice none 0 0, 0, [], 1, by unfold trimR; rw [HS.out]; rfl, rfl, OW.nil _ _ _ _ _ (Nat.le_refl _), below_only HB.out hK (by omega)⟩
  | true =>
    have HS := Lib.hid hs
    have h16 := (isS_iff.1 hs).2.1
    have HOK := Lib.hid (isS_iff.1 hs).2.2
    have g16 : n ≤ 16 := by have := HN.out; omega
    clear hs h16
    go_enter Try.func23, Try.ntmps23
    go_wp2_with fail
    refine namec2 ?_
    intro W1 b1 b2 hz hb0
    refine (l01Is_any C A ts n c W1 HN.out (HA.out.below hb0) hl).mono ?_
    rintro e w1 ⟨rfl, hB1⟩
    rw [HS.out]
    have b1' := b1.below hB1 b1.lt; have b2' := b2.below hB1 b2.lt
    have HZ := Lib.hid (show w.heap.size + 2 ≤ w1.heap.size by have := hB1.size; omega)
    have HB := Lib.hid (below_to hb0 hB1); clear hb0 hB1 hz b1 b2
    have a1 : w1.cell? ⟨w.heap.size, 1, none⟩ = some (.slice A n c) := b1'.cell rfl
    have l1 := b1'.lt
    have hCR : Kd.C k63 (w1.alloc (.cells #[] 63)) A n (ts.map toS) := by
      have h := C_of_rt (HA.out.below (below_to HB.out (new_below w1 (.cells #[] 63)))) (by rw [← HN.out]; omega)
      rw [List.length_map, ← HN.out] at h; exact h
    go_wp2_with (at_builtin; refine Kd.R_append_rows k63 (w0 := w1) w1.heap.size rfl (.tmp 14) (.tmp 16) 30 63 (.agg #[.int .i64 0, .int .i64 0, .int .i64 0, .int .i64 0]) 32 rfl Try.underlying30 info63 rfl (by decide) (by decide) (.slice (some ⟨w1.heap.size, 0, none⟩) 0 0) [] (ts.map toS) A n c (fun _ => True) (fun _ => False) rfl rfl ?aO ?aR (fun _ _ h => h) (fun _ h => h.elim) (fun _ _ => trivial) ?aB ?aS ?aL ?_; (case aO => exact R_of_OT (OT.lit0 w1 _ _ (Nat.le_refl _))); (case aR => exact hCR); (case aB => exact new_below w1 _); (case aS => exact (new_below w1 _).size); (case aL => simp; omega); intro v1 w2 hO hB _ _; have hOT : OT w2 w1.heap.size 63 v1 ts := (ow_of_RT (by simpa using hO)).own; obtain ⟨A2, c2, e2, hrt, hc2⟩ := hOT.reads; subst e2; have HRT := Lib.hid hrt; have HC2 := Lib.hid hc2; have B1 := b1'.below hB b1'.lt; have B2 := b2'.below hB b2'.lt; have HB2 := Lib.hid (below_to HB.out hB); clear hO hOT hB hrt hc2)
    have HB1 := Lib.hid B1; have HBR := Lib.hid B2
    clear hCR a1 l1 b1' b2' B1 B2
    go_loopw [4] (fun v4 wr => ∃ (T : List T4) (m nT : Nat) (A4 : Option Addr) (c4 : Nat), v4 = .slice A4 nT c4 ∧ nT = T.length ∧ T.length ≤ m ∧ T.length ≤ 16 ∧ T.Sublist ts ∧ trimS m T = trimS ts.length ts ∧ RT wr A4 T ∧ T.length ≤ c4 ∧ Below w.heap.size w wr ∧ BK wr w.heap.size #[.int .i64 C, .slice A n c] 32 ∧ BK wr (w.heap.size + 1) #[.int .i64 0, .slice none 0 0] 32) (fun v4 _ => lenOf v4)
    case atStart => exact ⟨ts, ts.length, ts.length, A2, c2, rfl, rfl, Nat.le_refl _, by rw [← HN.out]; exact g16, List.Sublist.refl _, rfl, HRT.out, HC2.out, HB2.out, HB1.out, HBR.out⟩
    case round =>
      rename World => wo
      obtain ⟨T, m, nT, A4, c4, rfl, hnT, hm, h16, hsub, htr, hrt, hc4, hB, hb1, hb2⟩ := hrel
      have HNT := Lib.hid hnT; have HM := Lib.hid hm; have H16 := Lib.hid h16; have HSUB := Lib.hid hsub; have HTR := Lib.hid htr; have HRT4 := Lib.hid hrt; have HC4 := Lib.hid hc4; have HB4 := Lib.hid hB; have HBB1 := Lib.hid hb1; have HBB2 := Lib.hid hb2
      have n16 : nT ≤ 16 := by rw [hnT]; exact h16
      have nc4 : nT ≤ c4 := by rw [hnT]; exact hc4
      clear hnT hm h16 hsub htr hrt hc4 hB hb1 hb2
      go_wp2_with fail
      refine nameB4 ?_
      intro W3 b3 hb3
      have HL3 := Lib.hid (OT.empty (base := wo.heap.size) b3 (Nat.le_refl _)); have HB3 := Lib.hid hb3
      clear b3 hb3
      go_loopw [5, 6] (fun v5 v6 wi => ∃ i : Nat, i ≤ nT ∧ v6 = .int .i64 i ∧ Below wo.heap.size wo wi ∧ OT wi wo.heap.size 63 v5 ((T.take i).filter (goodT T))) (fun _ v6 _ => nT - (intOf v6).toNat)
      case atStart => exact ⟨0, Nat.zero_le _, rfl, HB3.out, by simpa using HL3.out⟩
      case round =>
        rename World => wi
        obtain ⟨i, hi, rfl, hB, hO⟩ := hrel
        by_cases hlt : i < nT
        · have i1 : (i : Int) < nT := by omega
          have HI := Lib.hid (show i < T.length by rw [← HNT.out]; exact hlt)
          have HBI := Lib.hid hB; have HOI := Lib.hid hO
          obtain ⟨b, o, e, hbb, p0, p1, p2, p3⟩ := (HRT4.out.below hB) i HI.out
          subst e
          clear hB hO p0 p1 p2 p3 hbb
          go_wp2_with fail
          refine nameB4 ?_
          intro W5 b5 hb5
          obtain ⟨bM, hbM⟩ : ∃ q, q = wi.heap.size := ⟨_, rfl⟩
          rw [← hbM] at b5 ⊢
          have HBM := Lib.hid hbM; have HB5 := Lib.hid hb5; have HBK5 := Lib.hid b5
          clear b5 hb5 hbM
          go_loopw [8] (fun v8 wk => ∃ k : Nat, k ≤ nT ∧ v8 = .int .i64 k ∧ Below wi.heap.size wi wk ∧ BK wk bM (rowT T (tk T i) k 0) 4) (fun v8 _ => nT - (intOf v8).toNat)
          case atStart => exact ⟨0, Nat.zero_le _, rfl, HB5.out, by rw [rowT_zero]; exact HBK5.out⟩
          case round =>
            rename World => wk
            obtain ⟨k, hk, rfl, hB, hbk⟩ := hrel
            by_cases hlk : k < nT
            · have k1 : (k : Int) < nT := by omega
              have HK := Lib.hid (show k < T.length by rw [← HNT.out]; exact hlk)
              have HBKK := Lib.hid hB; have HBKM := Lib.hid hbk
              clear hB hbk
              go_wp2_with fail
              go_loopw [9] (fun v9 ws => ∃ s : Nat, s ≤ 4 ∧ v9 = .int .i64 s ∧ Below wi.heap.size wi ws ∧ BK ws bM (rowT T (tk T i) k s) 4) (fun v9 _ => 4 - (intOf v9).toNat)
              case atStart => exact ⟨0, Nat.zero_le _, rfl, HBKK.out, HBKM.out⟩
              case round =>
                rename World => ws
                obtain ⟨s, hs4, rfl, hB, hbk⟩ := hrel
                have hE := below_to HB4.out (below_to HBI.out hB)
                obtain ⟨b_, o_, e, hbb, q0, q1, q2, q3⟩ := (HRT4.out.below (below_to HBI.out hB)) k HK.out
                injection e with e; injection e with e1 e2; subst e1; subst e2
                obtain ⟨b_, o_, e, hbb', p0, p1, p2, p3⟩ := (HRT4.out.below (below_to HBI.out hB)) i HI.out
                injection e with e; injection e with e1 e2; subst e1; subst e2
                have HBS := Lib.hid hB; have HBKS := Lib.hid hbk
                clear hE hB hbb'
                match s, hs4 with
                | 0, _ =>
                  by_cases he : (tk T k).get 2 = (tk T i).get 0
                  · have he' : ((tk T k).get 2 == (tk T i).get 0) = true := by simp [he]
                    have HE := Lib.hid he
                    clear he hbk
                    go_upto_region 15 with fail
                    refine wp_region_gro (by kernel_rfl) (by kernel_rfl) ?_
                    repeat (first | go_big_quiet_step (fail) | quiet_step (fail))
                    refine wpQuiet_nil ?_
                    intro W6 hB6
                    have x6 := HBKS.out.below hB6 HBKS.out.lt
                    have u0 := x6.cell (k := 0) rfl
                    have u1 := x6.frozen 0
                    have u2 := x6.lt
                    have HB6 := Lib.hid (below_to HBS.out hB6)
                    clear q0 q1 q2 q3 p0 p1 p2 p3 hbb hB6
                    go_wp2_with fail
                    go_roundw
                    case rel => exact ⟨0 + 1, by omega, by go_num, HB6.out.setCell (by show wi.heap.size ≤ bM; rw [HBM.out]; exact Nat.le_refl _) _, by have h := x6.set 0 (.bool true); rw [rowT_yes0 HK.out HE.out] at h; exact h⟩
                    case measure => simp [intOf]
                  · have he' : ((tk T k).get 2 == (tk T i).get 0) = false := by simpa using he
                    have HE := Lib.hid he
                    clear he hbk
                    go_upto_region 15 with fail
                    refine wp_region_gro (by kernel_rfl) (by kernel_rfl) ?_
                    repeat (first | go_big_quiet_step (fail) | quiet_step (fail))
                    refine wpQuiet_nil ?_
                    intro W6 hB6
                    have x6 := HBKS.out.below hB6 HBKS.out.lt
                    have HB6 := Lib.hid (below_to HBS.out hB6)
                    clear q0 q1 q2 q3 p0 p1 p2 p3 hbb hB6
                    go_wp2_with fail
                    go_roundw
                    case rel => exact ⟨0 + 1, by omega, by go_num, HB6.out, by have h := x6; rw [rowT_no0 HK.out HE.out] at h; exact h⟩
                    case measure => simp [intOf]
                | 1, _ =>
                  by_cases he : (tk T k).get 3 = (tk T i).get 1
                  · have he' : ((tk T k).get 3 == (tk T i).get 1) = true := by simp [he]
                    have HE := Lib.hid he
                    clear he hbk
                    go_upto_region 15 with fail
                    refine wp_region_gro (by kernel_rfl) (by kernel_rfl) ?_
                    repeat (first | go_big_quiet_step (fail) | quiet_step (fail))
                    refine wpQuiet_nil ?_
                    intro W6 hB6
                    have x6 := HBKS.out.below hB6 HBKS.out.lt
                    have u0 := x6.cell (k := 1) rfl
                    have u1 := x6.frozen 1
                    have u2 := x6.lt
                    have HB6 := Lib.hid (below_to HBS.out hB6)
                    clear q0 q1 q2 q3 p0 p1 p2 p3 hbb hB6
                    go_wp2_with fail
                    go_roundw
                    case rel => exact ⟨1 + 1, by omega, by go_num, HB6.out.setCell (by show wi.heap.size ≤ bM; rw [HBM.out]; exact Nat.le_refl _) _, by have h := x6.set 1 (.bool true); rw [rowT_yes1 HK.out HE.out] at h; exact h⟩
                    case measure => simp [intOf]
                  · have he' : ((tk T k).get 3 == (tk T i).get 1) = false := by simpa using he
                    have HE := Lib.hid he
                    clear he hbk
                    go_upto_region 15 with fail
                    refine wp_region_gro (by kernel_rfl) (by kernel_rfl) ?_
                    repeat (first | go_big_quiet_step (fail) | quiet_step (fail))
                    refine wpQuiet_nil ?_
                    intro W6 hB6
                    have x6 := HBKS.out.below hB6 HBKS.out.lt
                    have HB6 := Lib.hid (below_to HBS.out hB6)
                    clear q0 q1 q2 q3 p0 p1 p2 p3 hbb hB6
                    go_wp2_with fail
                    go_roundw
                    case rel => exact ⟨1 + 1, by omega, by go_num, HB6.out, by have h := x6; rw [rowT_no1 HK.out HE.out] at h; exact h⟩
                    case measure => simp [intOf]
                | 2, _ =>
                  by_cases he : (tk T k).get 0 = (tk T i).get 2
                  · have he' : ((tk T k).get 0 == (tk T i).get 2) = true := by simp [he]
                    have HE := Lib.hid he
                    clear he hbk
                    go_upto_region 15 with fail
                    refine wp_region_gro (by kernel_rfl) (by kernel_rfl) ?_
                    repeat (first | go_big_quiet_step (fail) | quiet_step (fail))
                    refine wpQuiet_nil ?_
                    intro W6 hB6
                    have x6 := HBKS.out.below hB6 HBKS.out.lt
                    have u0 := x6.cell (k := 2) rfl
                    have u1 := x6.frozen 2
                    have u2 := x6.lt
                    have HB6 := Lib.hid (below_to HBS.out hB6)
                    clear q0 q1 q2 q3 p0 p1 p2 p3 hbb hB6
                    go_wp2_with fail
                    go_roundw
                    case rel => exact ⟨2 + 1, by omega, by go_num, HB6.out.setCell (by show wi.heap.size ≤ bM; rw [HBM.out]; exact Nat.le_refl _) _, by have h := x6.set 2 (.bool true); rw [rowT_yes2 HK.out HE.out] at h; exact h⟩
                    case measure => simp [intOf]
                  · have he' : ((tk T k).get 0 == (tk T i).get 2) = false := by simpa using he
                    have HE := Lib.hid he
                    clear he hbk
                    go_upto_region 15 with fail
                    refine wp_region_gro (by kernel_rfl) (by kernel_rfl) ?_
                    repeat (first | go_big_quiet_step (fail) | quiet_step (fail))
                    refine wpQuiet_nil ?_
                    intro W6 hB6
                    have x6 := HBKS.out.below hB6 HBKS.out.lt
                    have HB6 := Lib.hid (below_to HBS.out hB6)
                    clear q0 q1 q2 q3 p0 p1 p2 p3 hbb hB6
                    go_wp2_with fail
                    go_roundw
                    case rel => exact ⟨2 + 1, by omega, by go_num, HB6.out, by have h := x6; rw [rowT_no2 HK.out HE.out] at h; exact h⟩
                    case measure => simp [intOf]
                | 3, _ =>
                  by_cases he : (tk T k).get 1 = (tk T i).get 3
                  · have he' : ((tk T k).get 1 == (tk T i).get 3) = true := by simp [he]
                    have HE := Lib.hid he
                    clear he hbk
                    go_upto_region 15 with fail
                    refine wp_region_gro (by kernel_rfl) (by kernel_rfl) ?_
                    repeat (first | go_big_quiet_step (fail) | quiet_step (fail))
                    refine wpQuiet_nil ?_
                    intro W6 hB6
                    have x6 := HBKS.out.below hB6 HBKS.out.lt
                    have u0 := x6.cell (k := 3) rfl
                    have u1 := x6.frozen 3
                    have u2 := x6.lt
                    have HB6 := Lib.hid (below_to HBS.out hB6)
                    clear q0 q1 q2 q3 p0 p1 p2 p3 hbb hB6
                    go_wp2_with fail
                    go_roundw
                    case rel => exact ⟨3 + 1, by omega, by go_num, HB6.out.setCell (by show wi.heap.size ≤ bM; rw [HBM.out]; exact Nat.le_refl _) _, by have h := x6.set 3 (.bool true); rw [rowT_yes3 HK.out HE.out] at h; exact h⟩
                    case measure => simp [intOf]
                  · have he' : ((tk T k).get 1 == (tk T i).get 3) = false := by simpa using he
                    have HE := Lib.hid he
                    clear he hbk
                    go_upto_region 15 with fail
                    refine wp_region_gro (by kernel_rfl) (by kernel_rfl) ?_
                    repeat (first | go_big_quiet_step (fail) | quiet_step (fail))
                    refine wpQuiet_nil ?_
                    intro W6 hB6
                    have x6 := HBKS.out.below hB6 HBKS.out.lt
                    have HB6 := Lib.hid (below_to HBS.out hB6)
                    clear q0 q1 q2 q3 p0 p1 p2 p3 hbb hB6
                    go_wp2_with fail
                    go_roundw
                    case rel => exact ⟨3 + 1, by omega, by go_num, HB6.out, by have h := x6; rw [rowT_no3 HK.out HE.out] at h; exact h⟩
                    case measure => simp [intOf]
                | 4, _ =>
                  clear q0 q1 q2 q3 p0 p1 p2 p3 hbk
                  go_wp2_with fail
                  go_roundw
                  case rel => exact ⟨k + 1, hlk, by go_num, HBS.out, by rw [← rowT_four]; exact HBKS.out⟩
                  case measure => simp [intOf]; omega
            · have hkn : k = nT := by omega
              have hk2 : k = T.length := by rw [hkn, HNT.out]
              rw [hk2, rowT_end] at hbk
              have y0 := hbk.cell (k := 0) rfl; have y1 := hbk.cell (k := 1) rfl; have y2 := hbk.cell (k := 2) rfl; have y3 := hbk.cell (k := 3) rfl
              have ly := hbk.lt
              have HBE := Lib.hid (below_to HBI.out hB); have HOE := Lib.hid (HOI.out.to hB)
              obtain ⟨b_, o_, e, hbb, p0, p1, p2, p3⟩ := (HRT4.out.below (below_to HBI.out hB)) i HI.out
              injection e with e; injection e with e1 e2; subst e1; subst e2
              have hgd : goodT T (tk T i) = (metT T (tk T i) 0 && metT T (tk T i) 1 && metT T (tk T i) 2 && metT T (tk T i) 3) := rfl
              have HG := Lib.hid hgd
              clear hB hbk hgd hk2
              cases hm0 : metT T (tk T i) 0
              · have HG2 := Lib.hid (show ¬ goodT T (tk T i) = true by rw [HG.out, hm0]; simp)
                rw [hm0] at y0
                clear hm0 y1 y2 y3 p0 p1 p2 p3 hbb
                go_wp2_with fail
                go_roundw
                case rel => exact ⟨i + 1, hlt, by go_num, HBE.out, by rw [filter_take HI.out, if_neg HG2.out]; exact HOE.out⟩
                case measure => simp [intOf]; omega
              · cases hm1 : metT T (tk T i) 1
                · have HG2 := Lib.hid (show ¬ goodT T (tk T i) = true by rw [HG.out, hm0, hm1]; simp)
                  rw [hm0] at y0; rw [hm1] at y1
                  clear hm0 hm1 y2 y3 p0 p1 p2 p3 hbb
                  go_wp2_with fail
                  go_roundw
                  case rel => exact ⟨i + 1, hlt, by go_num, HBE.out, by rw [filter_take HI.out, if_neg HG2.out]; exact HOE.out⟩
                  case measure => simp [intOf]; omega
                · cases hm2 : metT T (tk T i) 2
                  · have HG2 := Lib.hid (show ¬ goodT T (tk T i) = true by rw [HG.out, hm0, hm1, hm2]; simp)
                    rw [hm0] at y0; rw [hm1] at y1; rw [hm2] at y2
                    clear hm0 hm1 hm2 y3 p0 p1 p2 p3 hbb
                    go_wp2_with fail
                    go_roundw
                    case rel => exact ⟨i + 1, hlt, by go_num, HBE.out, by rw [filter_take HI.out, if_neg HG2.out]; exact HOE.out⟩
                    case measure => simp [intOf]; omega
                  · cases hm3 : metT T (tk T i) 3
                    · have HG2 := Lib.hid (show ¬ goodT T (tk T i) = true by rw [HG.out, hm0, hm1, hm2, hm3]; simp)
                      rw [hm0] at y0; rw [hm1] at y1; rw [hm2] at y2; rw [hm3] at y3
                      clear hm0 hm1 hm2 hm3 p0 p1 p2 p3 hbb
                      go_wp2_with fail
                      go_roundw
                      case rel => exact ⟨i + 1, hlt, by go_num, HBE.out, by rw [filter_take HI.out, if_neg HG2.out]; exact HOE.out⟩
                      case measure => simp [intOf]; omega
                    · have HG2 := Lib.hid (show goodT T (tk T i) = true by rw [HG.out, hm0, hm1, hm2, hm3]; rfl)
                      rw [hm0] at y0; rw [hm1] at y1; rw [hm2] at y2; rw [hm3] at y3
                      clear hm0 hm1 hm2 hm3
                      have hz6 : wo.heap.size ≤ wk.heap.size := HBE.out.size
                      go_wp2_with (at_builtin; refine app_tile wo.heap.size rfl (.tmp 72) (.tmp 77) 30 63 rfl Try.underlying30 info63 _ _ (tk T i) rfl rfl HOE.out hz6 (by have := List.length_filter_le (goodT T) (T.take i); rw [List.length_take] at this; omega) ?_; intro v6 w6 hO6 hG _; have HB7 := Lib.hid (grown_below HBE.out hG fun b hb => by have := own_lo HOE.out b hb; omega); have HO7 := Lib.hid hO6; clear hO6 hG)
                      go_roundw
                      case rel => exact ⟨i + 1, hlt, by go_num, HB7.out, by rw [filter_take HI.out, if_pos HG2.out]; exact HO7.out⟩
                      case measure => simp [intOf]; omega
        · have hin : i = nT := by omega
          have i1 : ¬ (i : Int) < nT := by omega
          have e9 : T.take i = T := by rw [hin, HNT.out, List.take_length]
          rw [e9] at hO
          obtain ⟨F, hF⟩ : ∃ F, F = T.filter (goodT T) := ⟨_, rfl⟩
          rw [← hF] at hO
          obtain ⟨A5, c5, e5, hrt, hc5⟩ := hO.reads
          subst e5
          obtain ⟨nF, hnF⟩ : ∃ q, q = F.length := ⟨_, rfl⟩
          rw [← hnF] at hc5 ⊢
          have HF := Lib.hid hF; have HNF := Lib.hid hnF; have HRT5 := Lib.hid hrt; have HC5 := Lib.hid hc5
          have HBW := Lib.hid (below_to HB4.out hB)
          have B1 := HBB1.out.below hB HBB1.out.lt; have B2 := HBB2.out.below hB HBB2.out.lt
          have hle : nF ≤ nT := by rw [hnF, HNT.out, hF]; exact List.length_filter_le _ _
          clear hO hF hrt hc5 hnF hB e9
          by_cases heq : nF = nT
          · have j1 : ((nF : Int) == nT) = true := by simp [heq]
            have a0 : wi.cell? ⟨w.heap.size, 0, none⟩ = some (.int .i64 C) := B1.cell rfl
            have la := B1.lt
            have HEQ := Lib.hid heq
            clear heq
            go_wp2_with fail
            refine (l01Made_any C A5 F nF c5 wi HNF.out HRT5.out (by omega)).mono ?_
            rintro e w8 ⟨g, ln, c8, rfl, hln, hO8, hB8⟩
            have e8 : sortK F nF = F := by
              rw [HNF.out]
              exact sort_sub HOK.out (by rw [HF.out]; exact List.filter_sublist.trans HSUB.out)
            rw [e8] at hln hO8
            have x2 := B2.below hB8 B2.lt
            have HB8 := Lib.hid (below_to HBW.out hB8); have HO8 := Lib.hid hO8
            have hsz8 : w.heap.size + 2 ≤ wi.heap.size := by have := B2.lt; omega
            subst hln
            clear hO8 hB8 a0 la
            have z0 := x2.cell (k := 0) (v := .int .i64 0) rfl; have z1 := x2.cell (k := 1) (v := .slice none 0 0) rfl
            have f0 := x2.frozen 0; have f1 := x2.frozen 1; have l0 := x2.lt
            go_wp2_with fail
            have hbk : BK ((w8.setCell ⟨w.heap.size + 1, 0, none⟩ (.int .i64 C)).setCell ⟨w.heap.size + 1, 1, none⟩ (.slice (some ⟨g, 0, none⟩) F.length c8)) (w.heap.size + 1) #[.int .i64 C, .slice (some ⟨g, 0, none⟩) F.length c8] 32 := (x2.set 0 _).set 1 _
            ((try simp only [Exit.inBlock, Exit.then]); refine bodyPost_ret (results_ctm rfl _ _ _ _ _ _ rfl hbk Try.underlying32 rfl isx32) rfl ?_)
            have hK : Only (w.heap.size + 1) (w.heap.size + 1 + 1) w8 ((w8.setCell ⟨w.heap.size + 1, 0, none⟩ (.int .i64 C)).setCell ⟨w.heap.size + 1, 1, none⟩ (.slice (some ⟨g, 0, none⟩) F.length c8)) :=
              ((Only.refl _ _ _).setCell (Nat.le_refl _) (by omega) _ _).setCell (Nat.le_refl _) (by omega) _ _
            have hO9 := HO8.out.only hK (.inr (by omega))
            refine ⟨_, _, F, 0, ?_, rfl, ⟨own_base hO9.own (by omega), fun b hb => Nat.lt_of_lt_of_le (hO9.up b hb) hK.size, Nat.le_refl _⟩, below_only HB8.out hK (by omega)⟩
            unfold trimR
            rw [HS.out, if_pos rfl, ← trim_same, ← HTR.out, trimS_done HM.out (by rw [← HF.out, ← HNF.out, HEQ.out, HNT.out]), HF.out]
          · have j1 : ((nF : Int) == nT) = false := by simp; omega
            have HEQ := Lib.hid heq
            have hlt9 : nF < nT := by omega
            clear heq
            go_wp2_with fail
            go_roundw
            case rel =>
              obtain ⟨m2, hm2⟩ : ∃ m2, m = m2 + 1 := ⟨m - 1, by have := HM.out; have := HNT.out; omega⟩
              refine ⟨F, m2, nF, A5, c5, rfl, HNF.out, by have := HM.out; have := HNT.out; have := HNF.out; omega, by have := HNF.out; omega, by rw [HF.out]; exact List.filter_sublist.trans HSUB.out, ?_, HRT5.out, by rw [← HNF.out]; exact HC5.out, HBW.out, B1, B2⟩
              rw [← HTR.out, hm2, trimS_more (by rw [← HF.out, ← HNF.out, ← HNT.out]; exact HEQ.out), HF.out]
            case measure => simp only [lenOf]; omega
end Go.Proofs.Ytgdmflmglkakgaa

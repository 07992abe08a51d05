/-
  Contract: KeepLasting in the program.
-/
import Derived.Test.YtgdmflmglkakgaaKeepI
namespace Go.Proofs.Ytgdmflmglkakgaa
open Go Go.RowKit Go.Proofs
set_option linter.unusedVariables false
set_option linter.unusedSimpArgs false

theorem isv32 : (Try.prog.info? 32).map (·.size) = some 2 := by kernel_rfl
theorem wf_small (x : Int) (h : 0 ≤ x) (h2 : x ≤ 100) : wfKey x = true := by
  have h1 : IntKind.i64.min = -9223372036854775808 := by decide
  have h2 : IntKind.i64.max = 9223372036854775807 := by decide
  unfold wfKey Lit.wf
  simp [h1, h2]
  omega
theorem wf_of {C : Int} {ts : List T4} (h : isS C ts = true) : ∀ t, t ∈ ts → ∀ j, j < 4 → wfKey (t.get j) = true := by
  intro t ht j hj
  obtain ⟨⟨c1, c6⟩, -, ok⟩ := isS_iff.1 h
  obtain ⟨i, hi, e⟩ := List.getElem_of_mem ht
  have h1 := (ok i hi).1
  rw [← tk_get hi, e] at h1
  simp only [tileB, Bool.and_eq_true, inB_iff] at h1
  obtain ⟨⟨⟨a1, a2⟩, a3⟩, a4⟩ := h1
  match j, hj with
  | 0, _ => exact wf_small _ a1.1 (by omega)
  | 1, _ => exact wf_small _ a2.1 (by omega)
  | 2, _ => exact wf_small _ a3.1 (by omega)
  | 3, _ => exact wf_small _ a4.1 (by omega)
set_option maxHeartbeats 4000000 in
set_option maxRecDepth 100000 in
theorem implKeepLasting_any (C : Int) (A : Option Addr) (ts : List T4) (n c : Nat) (w : World) (hn : n = ts.length) (hA : RT w A ts) (hnc : n ≤ c) (hl : n ≤ 35184372088832) :
    Calls Try.prog 21 #[.agg #[.int .i64 C, .slice A n c]] w fun e w' => ∃ v xc xs code, keepR C ts = ((xc, xs), code) ∧ e = .returned (.tuple #[.agg #[.int .i64 xc, v], .int .i64 code]) ∧ OW w' w.heap.size w'.heap.size 63 4 v xs.length (tcells xs) ∧ Below w.heap.size w w' := by
  have HA := Lib.hid hA; have HN := Lib.hid hn; clear hA hn
  cases hs : isS C ts with
  | false =>
    have HS := Lib.hid hs; clear hs
    go_enter Try.func21, Try.ntmps21
    go_wp2_with fail
    refine namec2 ?_
    intro W1 b1 b2 hz hb0
    refine (IsSet_any C A ts n c W1 HN.out (HA.out.below hb0) hl).mono ?_
    rintro e w1 ⟨rfl, hB1⟩
    rw [HS.out]
    have b3' := b2.below hB1 b2.lt
    have HB := Lib.hid (below_to hb0 hB1); clear hb0 hB1 hz b1 b2
    have z0 := b3'.cell (k := 0) (v := .int .i64 0) rfl; have z1 := b3'.cell (k := 1) (v := .slice none 0 0) rfl
    have f0 := b3'.frozen 0; have f1 := b3'.frozen 1; have l0 := b3'.lt
    go_wp2_with fail
    have hbk : BK ((w1.setCell ⟨w.heap.size + 1, 0, none⟩ (.int .i64 0)).setCell ⟨w.heap.size + 1, 1, none⟩ (.slice none 0 0)) (w.heap.size + 1) #[.int .i64 0, .slice none 0 0] 32 := (b3'.set 0 _).set 1 _
    ((try simp only [Exit.inBlock, Exit.then]); refine bodyPost_ret (results_ctm rfl _ _ _ _ _ _ rfl hbk Try.underlying32 rfl isv32) rfl ?_)
    have hK : Only (w.heap.size + 1) (w.heap.size + 1 + 1) w1 ((w1.setCell ⟨w.heap.size + 1, 0, none⟩ (.int .i64 0)).setCell ⟨w.heap.size + 1, 1, none⟩ (.slice none 0 0)) :=
      ((Only.refl _ _ _).setCell (Nat.le_refl _) (by omega) _ _).setCell (Nat.le_refl _) (by omega) _ _
    exact ⟨.slice none 0 0, 0, [], 1, by unfold keepR; rw [HS.out]; rfl, rfl, OW.nil _ _ _ _ _ (Nat.le_refl _), below_only HB.out hK (by omega)⟩
  | true =>
    have HS := Lib.hid hs
    have h16 := (isS_iff.1 hs).2.1
    have HWF := Lib.hid (wf_of hs)
    have g16 : n ≤ 16 := by have := HN.out; omega
    clear hs h16
    go_enter Try.func21, Try.ntmps21
    go_wp2_with fail
    refine namec2 ?_
    intro W1 b1 b2 hz hb0
    refine (IsSet_any C A ts n c W1 HN.out (HA.out.below hb0) hl).mono ?_
    rintro e w1 ⟨rfl, hB1⟩
    rw [HS.out]
    have b1' := b1.below hB1 b1.lt; have b2' := b2.below hB1 b2.lt
    have HZ := Lib.hid (show w.heap.size + 2 ≤ w1.heap.size by have := hB1.size; omega)
    have HB := Lib.hid (below_to hb0 hB1); clear hb0 hB1 hz b1 b2
    go_wp2_with fail
    have hD := (Below.refl w1.heap.size w1).drew
    have HZD := Lib.hid (show w.heap.size + 2 ≤ w1.drew.heap.size from HZ.out)
    have HBD := Lib.hid (below_to HB.out hD)
    have q1 := b1'.below hD b1'.lt; have q2 := b2'.below hD b2'.lt
    obtain ⟨nk, hnk⟩ : ∃ q, q = (keepS ts.length ts).length := ⟨_, rfl⟩
    have hkc := kept_any A ts n c w1.drew HN.out (HA.out.below HBD.out) hnc g16 HWF.out
    rw [← hnk] at hkc
    have HKC := Lib.hid hkc; have HNK := Lib.hid hnk
    clear b1' b2' hD hkc hnk
    go_region_held3 (fun w_ => w_.cell? ⟨w.heap.size, 0, none⟩ = some (.int .i64 C) ∧ w_.cell? ⟨w.heap.size, 1, none⟩ = some (.slice A n c))
      (first
        | exact ⟨((X1.set_ne (by omega) 0 _).set_ne (by omega) 1 _).cell rfl, ((X1.set_ne (by omega) 0 _).set_ne (by omega) 1 _).cell rfl⟩
        | exact ⟨X1.cell rfl, X1.cell rfl⟩
        | exact ⟨q1.cell rfl, q1.cell rfl⟩
        | fail)
      ((go_at_call 46; refine HKC.out.mono ?_; rintro e w3 ⟨A3, c3, rfl, hO3, hB3⟩; have HO3 := Lib.hid hO3; have HB3 := Lib.hid (below_to HBD.out hB3); have X1 := q1.below hB3 q1.lt; have X2 := q2.below hB3 q2.lt; have y0 := X2.cell (k := 0) (v := .int .i64 0) rfl; have y1 := X2.cell (k := 1) (v := .slice none 0 0) rfl; have z0 := X2.frozen 0; have z1 := X2.frozen 1; have y2 := X2.lt; clear hO3 hB3))
    go_wp2_with fail
    have hbk : BK ((w3.setCell ⟨w.heap.size + 1, 0, none⟩ (.int .i64 C)).setCell ⟨w.heap.size + 1, 1, none⟩ (.slice A3 nk c3)) (w.heap.size + 1) #[.int .i64 C, .slice A3 nk c3] 32 := (X2.set 0 _).set 1 _
    ((try simp only [Exit.inBlock, Exit.then]); refine bodyPost_ret (results_ctm rfl _ _ _ _ _ _ rfl hbk Try.underlying32 rfl isv32) rfl ?_)
    have hK : Only (w.heap.size + 1) (w.heap.size + 1 + 1) w3 ((w3.setCell ⟨w.heap.size + 1, 0, none⟩ (.int .i64 C)).setCell ⟨w.heap.size + 1, 1, none⟩ (.slice A3 nk c3)) :=
      ((Only.refl _ _ _).setCell (Nat.le_refl _) (by omega) _ _).setCell (Nat.le_refl _) (by omega) _ _
    have hO2 := (OW.of HO3.out).only hK (.inr (by have := HZD.out; omega))
    have hz2 := HZD.out
    refine ⟨_, _, keepS ts.length ts, 0, by unfold keepR; rw [HS.out, if_pos rfl], rfl, ?_, below_only HB3.out hK (by omega)⟩
    exact ⟨own_base hO2.own (by omega), fun b hb => Nat.lt_of_lt_of_le (hO2.up b hb) hK.size, Nat.le_refl _⟩
end Go.Proofs.Ytgdmflmglkakgaa

/-
  Contracts: TakeTile.
-/
import Derived.Test.YtaidmloaoogmoaaTake
namespace Go.Proofs.Ytaidmloaoogmoaa
open Go Go.RowKit Go.Proofs
set_option linter.unusedVariables false
set_option linter.unusedSimpArgs false

set_option maxHeartbeats 4000000 in
set_option maxRecDepth 100000 in
theorem specTakeTile_any (C : Int) (A : Option Addr) (ts : List T4) (n c : Nat) (i : Int) (w : World) (hn : n = ts.length) (hA : RT w A ts) (hnc : n ≤ c) (hl : n ≤ 35184372088832) :
    Calls Try.prog 38 #[.agg #[.int .i64 C, .slice A n c], .int .i64 i] w fun e w' => ∃ v xc xs code, takeR C ts i = ((xc, xs), code) ∧ e = .returned (.tuple #[.agg #[.int .i64 xc, v], .int .i64 code]) ∧ OW w' w.heap.size w'.heap.size 67 4 v xs.length (tcells xs) ∧ Below w.heap.size w w' := by
  have HA := Lib.hid hA; have HN := Lib.hid hn; clear hA hn
  by_cases hok : isS C ts = true ∧ inB i 0 ((n : Int) - 1) = true
  · skip
    obtain ⟨hs, hc⟩ := hok
    obtain ⟨m, rfl, hm⟩ := inB_num (ts := ts) (x := i) (by rw [← HN.out]; exact hc)
    have HR := Lib.hid (show takeR C ts m = ((C, ts.eraseIdx m), 0) by unfold takeR; rw [if_pos hs, ← HN.out, if_pos hc]; rfl)
    have HC := Lib.hid (show codeOf (isS C ts) (inB m 0 ((n : Int) - 1)) = 0 by rw [hs, hc]; rfl)
    have h16 := (isS_iff.1 hs).2.1
    have g16 : n ≤ 16 := by have := HN.out; omega
    have hmn : m < n := by have := HN.out; omega
    clear hs hc hm
    go_enter Try.func38, Try.ntmps38
    go_wp2_with fail
    refine namec2 ?_
    intro W1 b1 b2 hz hb0
    refine (l01Numbers_any C A ts n c m W1 HN.out (HA.out.below hb0) hl).mono ?_
    rintro e w1 ⟨rfl, hB1⟩
    rw [HC.out]
    have b1' := b1.below hB1 b1.lt; have b2' := b2.below hB1 b2.lt
    have HZ := Lib.hid (show w.heap.size + 2 ≤ w1.heap.size by have := hB1.size; omega)
    have HB := Lib.hid (below_to hb0 hB1); clear hb0 hB1 hz b1 b2
    have a0 : w1.cell? ⟨w.heap.size, 0, none⟩ = some (.int .i64 C) := b1'.cell rfl
    have a1 : w1.cell? ⟨w.heap.size, 1, none⟩ = some (.slice A n c) := b1'.cell rfl
    go_wp2_with fail
    refine (l01Without_any C A ts n c m w1 HN.out (HA.out.below HB.out) hnc hmn g16).mono ?_
    rintro e w3 ⟨g, ln, c', rfl, hln, hO, hB3⟩
    have b3' := b2'.below hB3 b2'.lt
    have HO := Lib.hid hO; have HL := Lib.hid hln; have HB3 := Lib.hid (below_to HB.out hB3)
    clear hO hln hB3 a0 a1 b1' b2'
    have z0 := b3'.cell (k := 0) (v := .int .i64 0) rfl; have z1 := b3'.cell (k := 1) (v := .slice none 0 0) rfl
    have f0 := b3'.frozen 0; have f1 := b3'.frozen 1; have l0 := b3'.lt
    go_wp2_with fail
    have hbk : BK ((w3.setCell ⟨w.heap.size + 1, 0, none⟩ (.int .i64 C)).setCell ⟨w.heap.size + 1, 1, none⟩ (.slice (some ⟨g, 0, none⟩) ln c')) (w.heap.size + 1) #[.int .i64 C, .slice (some ⟨g, 0, none⟩) ln c'] 30 := (b3'.set 0 _).set 1 _
    ((try simp only [Exit.inBlock, Exit.then]); refine bodyPost_ret (results_ct rfl _ _ _ _ _ _ rfl hbk Try.underlying30 rfl isz30) rfl ?_)
    have hK : Only (w.heap.size + 1) (w.heap.size + 2) w3 ((w3.setCell ⟨w.heap.size + 1, 0, none⟩ (.int .i64 C)).setCell ⟨w.heap.size + 1, 1, none⟩ (.slice (some ⟨g, 0, none⟩) ln c')) :=
      ((Only.refl _ _ _).setCell (Nat.le_refl _) (by omega) _ _).setCell (Nat.le_refl _) (by omega) _ _
    have hz2 := HZ.out
    have hO2 := HO.out.only hK (.inr hz2)
    have hL := HL.out
    subst hL
    exact ⟨_, _, _, _, HR.out, rfl, ⟨own_base hO2.own (by omega), fun b hb => Nat.lt_of_lt_of_le (hO2.up b hb) hK.size, Nat.le_refl _⟩, below_only HB3.out hK (by omega)⟩
  · skip
    obtain ⟨code, hcode, hne, hr⟩ : ∃ code, codeOf (isS C ts) (inB i 0 ((n : Int) - 1)) = code ∧ code ≠ 0 ∧ takeR C ts i = ((0, []), code) := by
      unfold codeOf takeR
      by_cases h1 : isS C ts = true
      · rw [if_pos h1, if_pos h1, ← HN.out, if_neg (fun h => hok ⟨h1, h⟩), if_neg (fun h => hok ⟨h1, h⟩)]; exact ⟨2, rfl, by decide, rfl⟩
      · rw [if_neg h1, if_neg h1]; exact ⟨1, rfl, by decide, rfl⟩
    have hne' : (code != 0) = true := by simpa using hne
    have HCO := Lib.hid hcode; have HR := Lib.hid hr; clear hok hcode hne hr
    go_enter Try.func38, Try.ntmps38
    go_wp2_with fail
    refine namec2 ?_
    intro W1 b1 b2 hz hb0
    refine (l01Numbers_any C A ts n c i W1 HN.out (HA.out.below hb0) hl).mono ?_
    rintro e w1 ⟨rfl, hB1⟩
    rw [HCO.out]
    have b2' := b2.below hB1 b2.lt
    have HB := Lib.hid (below_to hb0 hB1); clear hb0 hB1 hz b1 b2
    have z0 := b2'.cell (k := 0) (v := .int .i64 0) rfl; have z1 := b2'.cell (k := 1) (v := .slice none 0 0) rfl
    have f0 := b2'.frozen 0; have f1 := b2'.frozen 1; have l0 := b2'.lt
    go_wp2_with fail
    have hbk : BK ((w1.setCell ⟨w.heap.size + 1, 0, none⟩ (.int .i64 0)).setCell ⟨w.heap.size + 1, 1, none⟩ (.slice none 0 0)) (w.heap.size + 1) #[.int .i64 0, .slice none 0 0] 30 := (b2'.set 0 _).set 1 _
    ((try simp only [Exit.inBlock, Exit.then]); refine bodyPost_ret (results_ct rfl _ _ _ _ _ _ rfl hbk Try.underlying30 rfl isz30) rfl ?_)
    have hK : Only (w.heap.size + 1) (w.heap.size + 1 + 1) w1 ((w1.setCell ⟨w.heap.size + 1, 0, none⟩ (.int .i64 0)).setCell ⟨w.heap.size + 1, 1, none⟩ (.slice none 0 0)) :=
      ((Only.refl _ _ _).setCell (Nat.le_refl _) (by omega) _ _).setCell (Nat.le_refl _) (by omega) _ _
    exact ⟨.slice none 0 0, 0, [], code, HR.out, rfl, OW.nil _ _ _ _ _ (Nat.le_refl _), below_only HB.out hK (by omega)⟩

set_option maxHeartbeats 400000 in
theorem take1_any (C : Int) (A : Option Addr) (n c : Nat) (i : Int) (B B' : Nat) (w : World) (h0 : w.cell? ⟨B, 0, none⟩ = some (.int .i64 C)) (h1 : w.cell? ⟨B, 1, none⟩ = some (.slice A n c)) (hB : B < w.heap.size) (h2 : w.cell? ⟨B', 0, none⟩ = some (.int .i64 i)) (hl : n ≤ 35184372088832) :
    Calls Try.prog 75 #[.pointer (some ⟨B, 0, none⟩), .pointer (some ⟨B', 0, none⟩)] w fun e w' => e = .returned (.bool (inB i 0 ((n : Int) - 1))) ∧ Below w.heap.size w w' := by
  go_enter Try.func75, Try.ntmps75
  go_wp2_with fail
  refine (isNumber_any C A n c i w hl).mono ?_
  rintro e w1 ⟨rfl, hB1⟩
  have HB := Lib.hid hB1; clear hB1
  go_wp2_with fail
  go_ret
  exact ⟨rfl, HB.out⟩

set_option maxHeartbeats 4000000 in
set_option maxRecDepth 100000 in
theorem implTakeTile_any (C : Int) (A : Option Addr) (ts : List T4) (n c : Nat) (i : Int) (w : World) (hn : n = ts.length) (hA : RT w A ts) (hnc : n ≤ c) (hl : n ≤ 35184372088832) :
    Calls Try.prog 39 #[.agg #[.int .i64 C, .slice A n c], .int .i64 i] w fun e w' => ∃ v xc xs code, takeR C ts i = ((xc, xs), code) ∧ e = .returned (.tuple #[.agg #[.int .i64 xc, v], .int .i64 code]) ∧ OW w' w.heap.size w'.heap.size 67 4 v xs.length (tcells xs) ∧ Below w.heap.size w w' := by
  have HA := Lib.hid hA; have HN := Lib.hid hn; clear hA hn
  have hcd := fun W1 (h0 : Below w.heap.size w W1) (b1 : BK W1 w.heap.size #[.int .i64 C, .slice A n c] 30) (b2 : BK W1 (w.heap.size + 1) #[.int .i64 i] 2) =>
    setCode_any C A ts n c 75 #[.pointer (some ⟨w.heap.size, 0, none⟩), .pointer (some ⟨w.heap.size + 1, 0, none⟩)] (inB i 0 ((n : Int) - 1)) W1 HN.out (HA.out.below h0) hl (enters_of Try.func75 (by kernel_rfl) rfl)
      (fun _ W hW => take1_any C A n c i _ _ W (cell_to hW (b1.cell rfl)) (cell_to hW (b1.cell rfl)) (lt_to hW b1.lt) (cell_to hW (b2.cell rfl)) hl)
  have HCD := Lib.hid hcd; clear hcd
  by_cases hok : isS C ts = true ∧ inB i 0 ((n : Int) - 1) = true
  · skip
    obtain ⟨hs, hc⟩ := hok
    obtain ⟨m, rfl, hm⟩ := inB_num (ts := ts) (x := i) (by rw [← HN.out]; exact hc)
    have HR := Lib.hid (show takeR C ts m = ((C, ts.eraseIdx m), 0) by unfold takeR; rw [if_pos hs, ← HN.out, if_pos hc]; rfl)
    have HC := Lib.hid (show codeOf (isS C ts) (inB m 0 ((n : Int) - 1)) = 0 by rw [hs, hc]; rfl)
    have h16 := (isS_iff.1 hs).2.1
    have g16 : n ≤ 16 := by have := HN.out; omega
    have hmn : m < n := by have := HN.out; omega
    clear hs hc hm
    obtain ⟨N, rfl⟩ : ∃ N, n = N + 1 := ⟨n - 1, by omega⟩
    obtain ⟨b, o, hAt, -, -⟩ := HA.out.cellj (k := m) (by have := HN.out; omega)
    subst hAt
    go_enter Try.func39, Try.ntmps39
    go_wp2_with fail
    refine namec3 ?_
    intro W1 b1 b2 b3 hz hb0
    refine (HCD.out W1 hb0 b1 b2).mono ?_
    rintro e w1 ⟨rfl, hB1⟩
    rw [HC.out]
    have b1' := b1.below hB1 b1.lt; have b2' := b2.below hB1 b2.lt; have b3' := b3.below hB1 b3.lt
    have HZ := Lib.hid (show w.heap.size + 3 ≤ w1.heap.size by have := hB1.size; omega)
    have HB := Lib.hid (below_to hb0 hB1); clear hb0 hB1 hz b1 b2 b3
    go_wp2_with fail
    have hD := (Below.refl w1.heap.size w1).drew
    have HZD := Lib.hid (show w.heap.size + 3 ≤ w1.drew.heap.size from HZ.out)
    have HBD := Lib.hid (below_to HB.out hD)
    have q1 := b1'.below hD b1'.lt; have q2 := b2'.below hD b2'.lt; have q3 := b3'.below hD b3'.lt
    have s1 : IntKind.i64.wrap ((m : Int) + 1) = (m : Int) + 1 := IntWalk.i64_in _ (by omega)
    clear b1' b2' b3' hD
    go_region_held3 (fun w_ => w_.cell? ⟨w.heap.size, 0, none⟩ = some (.int .i64 C) ∧ w_.cell? ⟨w.heap.size, 1, none⟩ = some (.slice (some ⟨b, o, none⟩) (N + 1) c) ∧ w_.cell? ⟨w.heap.size + 1, 0, none⟩ = some (.int .i64 m))
      (first
        | exact ⟨((Y1.set_ne (by omega) 0 _).set_ne (by omega) 1 _).cell rfl, ((Y1.set_ne (by omega) 0 _).set_ne (by omega) 1 _).cell rfl, ((Y2.set_ne (by omega) 0 _).set_ne (by omega) 1 _).cell rfl⟩
        | exact ⟨Y1.cell rfl, Y1.cell rfl, Y2.cell rfl⟩
        | exact ⟨X1.cell rfl, X1.cell rfl, X2.cell rfl⟩
        | exact ⟨q1.cell rfl, q1.cell rfl, q2.cell rfl⟩
        | fail)
      (first
        | (have h_ := X1; go_at_call 76; refine (DeleteT_any g N c3 m w1.drew.heap.size ts w3 HN.out HO3.out hmn (by omega)).mono ?_; rintro e w4 ⟨rfl, hO4, hK4⟩; have O4 := Lib.hid hO4; have K4 := Lib.hid hK4; have Y1 := X1.only hK4 (.inl (by have := G3.out; have := HZD.out; omega)); have Y2 := X2.only hK4 (.inl (by have := G3.out; have := HZD.out; omega)); have Y3 := X3.only hK4 (.inl (by have := G3.out; have := HZD.out; omega)); have y0 := Y3.cell (k := 0) (v := .int .i64 0) rfl; have y1 := Y3.cell (k := 1) (v := .slice none 0 0) rfl; have z0 := Y3.frozen 0; have z1 := Y3.frozen 1; have y2 := Y3.lt; clear h_ hO4 hK4)
        | (go_at_call 77; refine (CloneT_any ⟨b, o, none⟩ ts (N + 1) c w1.drew HN.out (HA.out.below HBD.out) (by omega)).mono ?_; rintro e w3 ⟨g, c3, rfl, hO3, hB3⟩; have G3 := Lib.hid (own_lo hO3 g (by simp [Value.ownBlock])); have HO3 := Lib.hid hO3; have HB3 := Lib.hid (below_to HBD.out hB3); have X1 := q1.below hB3 q1.lt; have X2 := q2.below hB3 q2.lt; have X3 := q3.below hB3 q3.lt; clear hO3 hB3))
    go_wp2_with fail
    have hbk : BK ((w4.setCell ⟨w.heap.size + 2, 0, none⟩ (.int .i64 C)).setCell ⟨w.heap.size + 2, 1, none⟩ (.slice (some ⟨g, 0, none⟩) N c3)) (w.heap.size + 2) #[.int .i64 C, .slice (some ⟨g, 0, none⟩) N c3] 30 := (Y3.set 0 _).set 1 _
    ((try simp only [Exit.inBlock, Exit.then]); refine bodyPost_ret (results_ct rfl _ _ _ _ _ _ rfl hbk Try.underlying30 rfl isz30) rfl ?_)
    have hK : Only (w.heap.size + 2) (w.heap.size + 3) w4 ((w4.setCell ⟨w.heap.size + 2, 0, none⟩ (.int .i64 C)).setCell ⟨w.heap.size + 2, 1, none⟩ (.slice (some ⟨g, 0, none⟩) N c3)) :=
      ((Only.refl _ _ _).setCell (Nat.le_refl _) (by omega) _ _).setCell (Nat.le_refl _) (by omega) _ _
    have hN : N = (ts.eraseIdx m).length := by rw [List.length_eraseIdx_of_lt (by rw [← HN.out]; exact hmn), ← HN.out]; rfl
    have hq : OW w4 w1.drew.heap.size w4.heap.size 67 4 (.slice (some ⟨g, 0, none⟩) N c3) (ts.eraseIdx m).length (tcells (ts.eraseIdx m)) := OW.of O4.out
    have hz2 := HZD.out
    have hO2 := hq.only hK (.inr hz2)
    have hg := G3.out
    have hB4 := below_only HB3.out K4.out (by omega)
    exact ⟨_, _, _, _, HR.out, rfl, ⟨own_base hO2.own (by omega), fun b hb => Nat.lt_of_lt_of_le (hO2.up b hb) hK.size, Nat.le_refl _⟩, below_only hB4 hK (by omega)⟩
  · skip
    obtain ⟨code, hcode, hne, hr⟩ : ∃ code, codeOf (isS C ts) (inB i 0 ((n : Int) - 1)) = code ∧ code ≠ 0 ∧ takeR C ts i = ((0, []), code) := by
      unfold codeOf takeR
      by_cases h1 : isS C ts = true
      · rw [if_pos h1, if_pos h1, ← HN.out, if_neg (fun h => hok ⟨h1, h⟩), if_neg (fun h => hok ⟨h1, h⟩)]; exact ⟨2, rfl, by decide, rfl⟩
      · rw [if_neg h1, if_neg h1]; exact ⟨1, rfl, by decide, rfl⟩
    have hne' : (code != 0) = true := by simpa using hne
    have HCO := Lib.hid hcode; have HR := Lib.hid hr; clear hok hcode hne hr
    go_enter Try.func39, Try.ntmps39
    go_wp2_with fail
    refine namec3 ?_
    intro W1 b1 b2 b3 hz hb0
    refine (HCD.out W1 hb0 b1 b2).mono ?_
    rintro e w1 ⟨rfl, hB1⟩
    rw [HCO.out]
    have b3' := b3.below hB1 b3.lt
    have HB := Lib.hid (below_to hb0 hB1); clear hb0 hB1 hz b1 b2 b3
    have z0 := b3'.cell (k := 0) (v := .int .i64 0) rfl; have z1 := b3'.cell (k := 1) (v := .slice none 0 0) rfl
    have f0 := b3'.frozen 0; have f1 := b3'.frozen 1; have l0 := b3'.lt
    go_wp2_with fail
    have hbk : BK ((w1.setCell ⟨w.heap.size + 2, 0, none⟩ (.int .i64 0)).setCell ⟨w.heap.size + 2, 1, none⟩ (.slice none 0 0)) (w.heap.size + 2) #[.int .i64 0, .slice none 0 0] 30 := (b3'.set 0 _).set 1 _
    ((try simp only [Exit.inBlock, Exit.then]); refine bodyPost_ret (results_ct rfl _ _ _ _ _ _ rfl hbk Try.underlying30 rfl isz30) rfl ?_)
    have hK : Only (w.heap.size + 2) (w.heap.size + 2 + 1) w1 ((w1.setCell ⟨w.heap.size + 2, 0, none⟩ (.int .i64 0)).setCell ⟨w.heap.size + 2, 1, none⟩ (.slice none 0 0)) :=
      ((Only.refl _ _ _).setCell (Nat.le_refl _) (by omega) _ _).setCell (Nat.le_refl _) (by omega) _ _
    exact ⟨.slice none 0 0, 0, [], code, HR.out, rfl, OW.nil _ _ _ _ _ (Nat.le_refl _), below_only HB.out hK (by omega)⟩
end Go.Proofs.Ytaidmloaoogmoaa

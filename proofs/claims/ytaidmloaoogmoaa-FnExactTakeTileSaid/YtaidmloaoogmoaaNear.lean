/-
  Contracts: the numbers of the tiles that fit at a side of a tile.
-/
import Derived.Test.YtaidmloaoogmoaaRow
import Derived.Test.YtaidmloaoogmoaaLaw1
import Derived.Test.YtaidmloaoogmoaaOwn2
namespace Go.Proofs.Ytaidmloaoogmoaa
open Go Go.RowKit Go.Proofs
set_option linter.unusedVariables false
set_option linter.unusedSimpArgs false

def withL (ts : List T4) (s : Nat) (x : Int) (k : Nat) : List Int := ((List.range k).filter fun j => decide ((tk ts j).get s = x)).map fun (j : Nat) => (j : Int)
theorem withL_yes {ts : List T4} {s : Nat} {x : Int} {k : Nat} (h : (tk ts k).get s = x) : withL ts s x (k + 1) = withL ts s x k ++ [(k : Int)] := by
  simp [withL, List.range_succ, h]
theorem withL_no {ts : List T4} {s : Nat} {x : Int} {k : Nat} (h : ¬ (tk ts k).get s = x) : withL ts s x (k + 1) = withL ts s x k := by
  simp [withL, List.range_succ, h]
theorem withL_len (ts : List T4) (s : Nat) (x : Int) (k : Nat) : (withL ts s x k).length ≤ k := by
  have := List.length_filter_le (fun j => decide ((tk ts j).get s = x)) (List.range k)
  simp only [withL, List.length_map]
  rw [List.length_range] at this
  exact this
def nearR (C : Int) (ts : List T4) (i : Int) (s a : Nat) : List Int × Int :=
  if isS C ts = true then if inB i 0 ((ts.length : Int) - 1) = true then (withL ts s ((tk ts i.toNat).get a) ts.length, 0) else ([], 2) else ([], 1)
theorem nearR_len (C : Int) (ts : List T4) (i : Int) (s a : Nat) : (nearR C ts i s a).1.length ≤ 1048576 := by
  unfold nearR
  split
  · rename_i h
    have := (isS_iff.1 h).2.1
    have := withL_len ts s ((tk ts i.toNat).get a) ts.length
    split <;> simp only [List.length_nil] <;> omega
  · simp

set_option maxHeartbeats 1000000 in
theorem l01Numbers_any (C : Int) (A : Option Addr) (ts : List T4) (n c : Nat) (i : Int) (w : World) (hn : n = ts.length) (hA : RT w A ts) (hl : n ≤ 35184372088832) :
    Calls Try.prog 69 #[.agg #[.int .i64 C, .slice A n c], .int .i64 i] w fun e w' => e = .returned (.int .i64 (codeOf (isS C ts) (inB i 0 ((n : Int) - 1)))) ∧ Below w.heap.size w w' := by
  have HA := Lib.hid hA; have HN := Lib.hid hn; clear hA hn
  cases hs : isS C ts
  · have HS := Lib.hid hs; clear hs
    go_enter Try.func69, Try.ntmps69
    go_wp2_with fail
    refine namec1 ?_
    intro W1 b1 hz hb0
    refine (l01Is_any C A ts n c W1 HN.out (HA.out.below hb0) hl).mono ?_
    rintro e w1 ⟨rfl, hB1⟩
    rw [HS.out]
    have HB := Lib.hid (below_to hb0 hB1); clear hb0 hB1 hz b1
    go_wp2_with fail
    go_ret
    exact ⟨rfl, HB.out⟩
  · have HS := Lib.hid hs; clear hs
    cases hc : inB i 0 ((n : Int) - 1)
    all_goals
      have HC := Lib.hid hc; clear hc
      go_enter Try.func69, Try.ntmps69
      go_wp2_with fail
      refine namec1 ?_
      intro W1 b1 hz hb0
      refine (l01Is_any C A ts n c W1 HN.out (HA.out.below hb0) hl).mono ?_
      rintro e w1 ⟨rfl, hB1⟩
      rw [HS.out]
      have b1' := b1.below hB1 b1.lt
      have HB := Lib.hid (below_to hb0 hB1); clear hb0 hB1 hz b1
      have a1 : w1.cell? ⟨w.heap.size, 1, none⟩ = some (.slice A n c) := b1'.cell rfl
      have l1 := b1'.lt
      go_wp2_with fail
      refine (l01In_any _ _ _ _).mono ?_
      rintro e w' ⟨rfl, rfl⟩
      rw [HC.out]
      go_wp2_with fail
      go_ret
      exact ⟨rfl, HB.out⟩


set_option maxHeartbeats 4000000 in
set_option maxRecDepth 100000 in
theorem with1_any (C : Int) (A : Option Addr) (ts : List T4) (n c : Nat) (x : Int) (w : World) (hn : n = ts.length) (hA : RT w A ts) (hnc : n ≤ c) (h16 : n ≤ 16) :
    Calls Try.prog 72 #[.agg #[.int .i64 C, .slice A n c], .int .i64 1, .int .i64 x] w fun e w' => ∃ v, e = .returned v ∧ OW w' w.heap.size w'.heap.size 2 1 v (withL ts 1 x n).length (icells (withL ts 1 x n)) ∧ Below w.heap.size w w' := by
  have HA := Lib.hid hA; have HN := Lib.hid hn; clear hA hn
  go_enter Try.func72, Try.ntmps72
  go_wp2_with fail
  refine name2 ?_
  intro W3 b1 b2 hz3 hB3
  have hlit := OI.empty (base := w.heap.size + 1) b2 (by omega)
  have hz4 : w.heap.size + 1 ≤ W3.heap.size := by omega
  have HB3 := Lib.hid hB3
  have a1 : W3.cell? ⟨w.heap.size, 1, none⟩ = some (.slice A n c) := b1.cell rfl
  have l1 := b1.lt
  clear hB3 hz3 b2
  go_wp2_with fail
  go_loopw [7, 14] (fun v i wr => Below w.heap.size w wr ∧ w.heap.size + 1 ≤ wr.heap.size ∧ ∃ k : Nat, k ≤ n ∧ i = .int .i64 k ∧ OI wr (w.heap.size + 1) 2 v (withL ts 1 x k)) (fun _ i _ => n - (intOf i).toNat)
  case atStart => exact ⟨HB3.out, hz4, 0, by omega, rfl, hlit⟩
  case round =>
    obtain ⟨hB, hzr, k, hk, rfl, hO⟩ := hrel
    have HB4 := Lib.hid hB; have HO := Lib.hid hO; clear hB hO hlit a1 l1 b1 hz4
    by_cases hlt : k < n
    · have i1 : (k : Int) < n := by omega
      have i2 : (k : Int) ≤ c := by omega
      have HK := Lib.hid (show k < ts.length by have := HN.out; omega)
      obtain ⟨bb, o, hA', hbb, h0, h1, h2, h3⟩ := (HA.out.below HB4.out) k HK.out
      subst hA'
      have hB5 : Below wr.heap.size wr (wr.alloc (.cells (tk ts k).arr 67)) := (Below.refl _ _).alloc (Nat.le_refl _) _
      have HO5 := Lib.hid (HO.out.to hB5)
      have hz5q : w.heap.size + 1 ≤ (wr.alloc (.cells (tk ts k).arr 67)).heap.size := Nat.le_trans hzr hB5.size
      have HB5 := Lib.hid (below_to HB4.out hB5); have HZ5 := Lib.hid hz5q; clear hB5 hz5q
      by_cases he : (tk ts k).get 1 = x
      · have HE := Lib.hid he; clear he
        have he' : ((tk ts k).get 1 == x) = true := by simp [HE.out]
        go_wp2_with (at_builtin; refine app_int2 (w.heap.size + 1) rfl (.tmp 24) (.tmp 26) 37 2 rfl Try.underlying37 info2 _ (withL ts 1 x k) k rfl (by simp) rfl HO5.out HZ5.out (by have := withL_len ts 1 x k; omega) ?_; intro v6 w6 hO6 hG _; have HB6 := Lib.hid (grown_below HB5.out hG fun b hb => by have := own_lo HO5.out b hb; omega); have HO6 := Lib.hid hO6; have hz6 : w.heap.size + 1 ≤ w6.heap.size := Nat.le_trans HZ5.out hG.size; clear hG hO6)
        go_roundw
        case rel => exact ⟨HB6.out, hz6, k + 1, by omega, by go_num, by rw [withL_yes HE.out]; exact HO6.out⟩
        case measure => simp [intOf]; omega
      · have HE := Lib.hid he; clear he
        have he' : ((tk ts k).get 1 == x) = false := by simpa using HE.out
        go_wp2_with fail
        go_roundw
        case rel => exact ⟨HB5.out, HZ5.out, k + 1, by omega, by go_num, by rw [withL_no HE.out]; exact HO5.out⟩
        case measure => simp [intOf]; omega
    · have hkn : k = n := by omega
      subst hkn
      go_wp2_with fail
      go_ret
      exact ⟨_, rfl, OW.of (own_base (base := w.heap.size + 1) HO.out (by omega)), HB4.out⟩

set_option maxHeartbeats 400000 in
theorem below_any (C : Int) (A : Option Addr) (n c : Nat) (i : Int) (B B' : Nat) (w : World) (h0 : w.cell? ⟨B, 0, none⟩ = some (.int .i64 C)) (h1 : w.cell? ⟨B, 1, none⟩ = some (.slice A n c)) (hB : B < w.heap.size) (h2 : w.cell? ⟨B', 0, none⟩ = some (.int .i64 i)) (hl : n ≤ 35184372088832) :
    Calls Try.prog 70 #[.pointer (some ⟨B, 0, none⟩), .pointer (some ⟨B', 0, none⟩)] w fun e w' => e = .returned (.bool (inB i 0 ((n : Int) - 1))) ∧ Below w.heap.size w w' := by
  go_enter Try.func70, Try.ntmps70
  go_wp2_with fail
  refine (isNumber_any C A n c i w hl).mono ?_
  rintro e w1 ⟨rfl, hB1⟩
  have HB := Lib.hid hB1; clear hB1
  go_wp2_with fail
  go_ret
  exact ⟨rfl, HB.out⟩

set_option maxHeartbeats 4000000 in
set_option maxRecDepth 100000 in
theorem specBelowOf_any (C : Int) (A : Option Addr) (ts : List T4) (n c : Nat) (i : Int) (w : World) (hn : n = ts.length) (hA : RT w A ts) (hnc : n ≤ c) (hl : n ≤ 35184372088832) :
    Calls Try.prog 32 #[.agg #[.int .i64 C, .slice A n c], .int .i64 i] w fun e w' => ∃ v xs code, nearR C ts i 1 3 = (xs, code) ∧ e = .returned (.tuple #[v, .int .i64 code]) ∧ OW w' w.heap.size w'.heap.size 2 1 v xs.length (icells xs) ∧ Below w.heap.size w w' := by
  have HA := Lib.hid hA; have HN := Lib.hid hn; clear hA hn
  have hBad : ∀ (w' : World) (code : Int), nearR C ts i 1 3 = ([], code) → Below w.heap.size w w' → ∃ v xs code', nearR C ts i 1 3 = (xs, code') ∧ Ending.returned (.tuple #[.slice none 0 0, .int .i64 code]) = .returned (.tuple #[v, .int .i64 code']) ∧ OW w' w.heap.size w'.heap.size 2 1 v xs.length (icells xs) ∧ Below w.heap.size w w' :=
    fun w' code h hB => ⟨_, _, _, h, rfl, OW.nil _ _ _ _ _ (Nat.le_refl _), hB⟩
  have HBAD := Lib.hid hBad; clear hBad
  by_cases hok : isS C ts = true ∧ inB i 0 ((n : Int) - 1) = true
  · obtain ⟨hs, hc⟩ := hok
    obtain ⟨m, rfl, hm⟩ := inB_num (ts := ts) (x := i) (by rw [← HN.out]; exact hc)
    have HR := Lib.hid (show nearR C ts m 1 3 = (withL ts 1 ((tk ts m).get 3) ts.length, 0) by unfold nearR; rw [if_pos hs, ← HN.out, if_pos hc]; rfl)
    have HC := Lib.hid (show codeOf (isS C ts) (inB m 0 ((n : Int) - 1)) = 0 by rw [hs, hc]; rfl)
    have h16 := (isS_iff.1 hs).2.1
    have HM := Lib.hid hm
    have im : (m : Int) < n := by have := HN.out; omega
    clear hs hc hm
    go_enter Try.func32, Try.ntmps32
    go_wp2_with fail
    refine namec1 ?_
    intro W1 b1 hz hb0
    refine (l01Numbers_any C A ts n c m W1 HN.out (HA.out.below hb0) hl).mono ?_
    rintro e w1 ⟨rfl, hB1⟩
    rw [HC.out]
    have b1' := b1.below hB1 b1.lt
    have hz1 : w.heap.size + 1 ≤ w1.heap.size := by have := hB1.size; omega
    have HB := Lib.hid (below_to hb0 hB1); clear hb0 hB1 hz b1
    go_wp2_with fail
    refine name1 ?_
    intro W3 b3 hz3 hB3
    have hlit := OI.empty (base := w.heap.size + 1) b3 hz1
    have b1x := b1'.below hB3 b1'.lt
    have hz4 : w.heap.size + 1 ≤ W3.heap.size := by omega
    have HB3 := Lib.hid (below_to HB.out hB3); clear hB3 b1' b3 hz3 hz1
    go_loopw [7, 8] (fun v i wr => Below w.heap.size w wr ∧ w.heap.size + 1 ≤ wr.heap.size ∧ BK wr w.heap.size #[.int .i64 C, .slice A n c] 30 ∧ ∃ k : Nat, k ≤ n ∧ i = .int .i64 k ∧ OI wr (w.heap.size + 1) 2 v (withL ts 1 ((tk ts m).get 3) k)) (fun _ i _ => n - (intOf i).toNat)
    case atStart => exact ⟨HB3.out, hz4, b1x, 0, by omega, rfl, hlit⟩
    case round =>
      obtain ⟨hB, hzr, bb1, k, hk, rfl, hO⟩ := hrel
      have HB4 := Lib.hid hB; have HO := Lib.hid hO; clear hB hO hlit b1x hz4
      have a1 : wr.cell? ⟨w.heap.size, 1, none⟩ = some (.slice A n c) := bb1.cell rfl
      have l1 := bb1.lt
      by_cases hlt : k < n
      · have i1 : (k : Int) < n := by omega
        obtain ⟨b, o, hA', hb, hck, hcm⟩ := (HA.out.below HB4.out).cell2 (k := k) (i := m) (by have := HN.out; omega) HM.out
        subst hA'
        have ck := hck 1 (by omega); have cm := hcm 3 (by omega)
        try simp only [Nat.add_zero] at ck cm
        clear hck hcm
        by_cases he : (tk ts k).get 1 = (tk ts m).get 3
        · have HE := Lib.hid he; clear he
          have he' : ((tk ts k).get 1 == (tk ts m).get 3) = true := by simp [HE.out]
          go_wp2_with fail
          refine wp_region_gro (by kernel_rfl) (by kernel_rfl) ?_
          repeat (first | go_big_quiet_step (fail) | quiet_step (fail))
          refine wpQuiet_nil ?_
          intro w5 hB5
          have HO5 := Lib.hid (HO.out.to hB5)
          have B1 := bb1.below hB5 bb1.lt
          have hz5 : w.heap.size + 1 ≤ w5.heap.size := by have := hB5.size; omega
          have HB5 := Lib.hid (below_to HB4.out hB5); clear hB5 a1 ck cm l1
          go_wp2_with (at_builtin; refine app_int (w.heap.size + 1) rfl (.tmp 36) (.tmp 38) 37 2 rfl Try.underlying37 info2 _ (withL ts 1 ((tk ts m).get 3) k) k rfl rfl HO5.out hz5 (by have := withL_len ts 1 ((tk ts m).get 3) k; have := HN.out; omega) ?_; intro v6 w6 hO6 hG _; have B1x := B1.below_own hG HO5.out (by omega); have HB6 := Lib.hid (grown_below HB5.out hG fun b hb => by have := own_lo HO5.out b hb; omega); have HO6 := Lib.hid hO6; have hz6 : w.heap.size + 1 ≤ w6.heap.size := Nat.le_trans hz5 hG.size; clear hG hO6 B1)
          go_roundw
          case rel => exact ⟨HB6.out, hz6, B1x, k + 1, by omega, by go_num, by rw [withL_yes HE.out]; exact HO6.out⟩
          case measure => simp [intOf]; omega
        · have HE := Lib.hid he; clear he
          have he' : ((tk ts k).get 1 == (tk ts m).get 3) = false := by simpa using HE.out
          go_wp2_with fail
          refine wp_region_gro (by kernel_rfl) (by kernel_rfl) ?_
          repeat (first | go_big_quiet_step (fail) | quiet_step (fail))
          refine wpQuiet_nil ?_
          intro w5 hB5
          have HO5 := Lib.hid (HO.out.to hB5)
          have B1 := bb1.below hB5 bb1.lt
          have hz5 : w.heap.size + 1 ≤ w5.heap.size := by have := hB5.size; omega
          have HB5 := Lib.hid (below_to HB4.out hB5); clear hB5 a1 ck cm l1
          go_wp2_with fail
          go_roundw
          case rel => exact ⟨HB5.out, hz5, B1, k + 1, by omega, by go_num, by rw [withL_no HE.out]; exact HO5.out⟩
          case measure => simp [intOf]; omega
      · have hkn : k = n := by omega
        go_wp2_with fail
        go_ret2
        refine ⟨_, _, _, HR.out, rfl, OW.of (own_base (base := w.heap.size + 1) ?_ (by omega)), HB4.out⟩
        have := HO.out
        rw [hkn, HN.out] at this
        exact this
  · obtain ⟨code, hcode, hne, hr⟩ : ∃ code, codeOf (isS C ts) (inB i 0 ((n : Int) - 1)) = code ∧ code ≠ 0 ∧ nearR C ts i 1 3 = ([], code) := by
      unfold codeOf nearR
      by_cases h1 : isS C ts = true
      · rw [if_pos h1, if_pos h1, ← HN.out, if_neg (fun h => hok ⟨h1, h⟩), if_neg (fun h => hok ⟨h1, h⟩)]; exact ⟨2, rfl, by decide, rfl⟩
      · rw [if_neg h1, if_neg h1]; exact ⟨1, rfl, by decide, rfl⟩
    have hne' : (code != 0) = true := by simpa using hne
    have HCO := Lib.hid hcode; have HR := Lib.hid hr; clear hok hcode hne hr
    go_enter Try.func32, Try.ntmps32
    go_wp2_with fail
    refine namec1 ?_
    intro W1 b1 hz hb0
    refine (l01Numbers_any C A ts n c i W1 HN.out (HA.out.below hb0) hl).mono ?_
    rintro e w1 ⟨rfl, hB1⟩
    rw [HCO.out]
    have HB := Lib.hid (below_to hb0 hB1); clear hb0 hB1 hz b1
    go_wp2_with fail
    go_ret2
    exact HBAD.out _ _ HR.out HB.out

set_option maxHeartbeats 4000000 in
set_option maxRecDepth 100000 in
theorem implBelowOf_any (C : Int) (A : Option Addr) (ts : List T4) (n c : Nat) (i : Int) (w : World) (hn : n = ts.length) (hA : RT w A ts) (hnc : n ≤ c) (hl : n ≤ 35184372088832) :
    Calls Try.prog 33 #[.agg #[.int .i64 C, .slice A n c], .int .i64 i] w fun e w' => ∃ v xs code, nearR C ts i 1 3 = (xs, code) ∧ e = .returned (.tuple #[v, .int .i64 code]) ∧ OW w' w.heap.size w'.heap.size 2 1 v xs.length (icells xs) ∧ Below w.heap.size w w' := by
  have HA := Lib.hid hA; have HN := Lib.hid hn; clear hA hn
  have hBad : ∀ (w' : World) (code : Int), nearR C ts i 1 3 = ([], code) → Below w.heap.size w w' → ∃ v xs code', nearR C ts i 1 3 = (xs, code') ∧ Ending.returned (.tuple #[.slice none 0 0, .int .i64 code]) = .returned (.tuple #[v, .int .i64 code']) ∧ OW w' w.heap.size w'.heap.size 2 1 v xs.length (icells xs) ∧ Below w.heap.size w w' :=
    fun w' code h hB => ⟨_, _, _, h, rfl, OW.nil _ _ _ _ _ (Nat.le_refl _), hB⟩
  have HBAD := Lib.hid hBad; clear hBad
  have hcd := fun W1 (h0 : Below w.heap.size w W1) (b1 : BK W1 w.heap.size #[.int .i64 C, .slice A n c] 30) (b2 : BK W1 (w.heap.size + 1) #[.int .i64 i] 2) =>
    setCode_any C A ts n c 70 #[.pointer (some ⟨w.heap.size, 0, none⟩), .pointer (some ⟨w.heap.size + 1, 0, none⟩)] (inB i 0 ((n : Int) - 1)) W1 HN.out (HA.out.below h0) hl (enters_of Try.func70 (by kernel_rfl) rfl)
      (fun _ W hW => below_any C A n c i _ _ W (cell_to hW (b1.cell rfl)) (cell_to hW (b1.cell rfl)) (lt_to hW b1.lt) (cell_to hW (b2.cell rfl)) hl)
  have HCD := Lib.hid hcd; clear hcd
  by_cases hok : isS C ts = true ∧ inB i 0 ((n : Int) - 1) = true
  · obtain ⟨hs, hc⟩ := hok
    obtain ⟨m, rfl, hm⟩ := inB_num (ts := ts) (x := i) (by rw [← HN.out]; exact hc)
    have HR := Lib.hid (show nearR C ts m 1 3 = (withL ts 1 ((tk ts m).get 3) ts.length, 0) by unfold nearR; rw [if_pos hs, ← HN.out, if_pos hc]; rfl)
    have HC := Lib.hid (show codeOf (isS C ts) (inB m 0 ((n : Int) - 1)) = 0 by rw [hs, hc]; rfl)
    have HM := Lib.hid hm
    have H16 := Lib.hid (isS_iff.1 hs).2.1
    have im : (m : Int) < n := by have := HN.out; omega
    clear hs hc hm
    go_enter Try.func33, Try.ntmps33
    go_wp2_with fail
    refine namec2 ?_
    intro W1 b1 b2 hz hb0
    refine (HCD.out W1 hb0 b1 b2).mono ?_
    rintro e w1 ⟨rfl, hB1⟩
    rw [HC.out]
    have b1' := b1.below hB1 b1.lt
    have b2' := b2.below hB1 b2.lt
    have HB := Lib.hid (below_to hb0 hB1); clear hb0 hB1 hz b1 b2
    go_wp2_with fail
    have b1w := b1'.below (Below.refl _ _).drew b1'.lt
    have b2w := b2'.below (Below.refl _ _).drew b2'.lt
    have HB2 := Lib.hid (below_to HB.out (Below.refl _ _).drew); clear b1' b2'
    have a0 : w1.drew.cell? ⟨w.heap.size, 0, none⟩ = some (.int .i64 C) := b1w.cell rfl
    have a1 : w1.drew.cell? ⟨w.heap.size, 1, none⟩ = some (.slice A n c) := b1w.cell rfl
    have a2 : w1.drew.cell? ⟨w.heap.size + 1, 0, none⟩ = some (.int .i64 m) := b2w.cell rfl
    have l1 : w.heap.size < w1.drew.heap.size := b1w.lt
    obtain ⟨b, o, hA', hb, hcm⟩ := (HA.out.below HB2.out).cellj (k := m) HM.out
    subst hA'
    have cm := hcm 3 (by omega)
    try simp only [Nat.add_zero] at cm
    clear hcm
    refine wp_region_tail 7 (by kernel_rfl) (by kernel_rfl) ?_
    simp only [List.take_succ_cons, List.take_zero, List.drop_succ_cons, List.drop_zero]
    repeat still_step
    refine wpStill_nil ?_
    go_wp2_with fail
    refine (with1_any C (some ⟨b, o, none⟩) ts n c ((tk ts m).get 3) _ HN.out (HA.out.below HB2.out) hnc (by have := H16.out; have := HN.out; omega)).mono ?_
    rintro e w3 ⟨v, rfl, hO, hB3⟩
    have HO := Lib.hid hO
    have HB3 := Lib.hid (below_to HB2.out hB3)
    have hlo : w.heap.size ≤ w1.drew.heap.size := HB2.out.size
    clear hO hB3 a0 a1 a2 cm hb
    go_wp2_with fail
    go_ret2
    refine ⟨v, _, _, HR.out, rfl, ?_, HB3.out⟩
    have h := HO.out
    rw [HN.out] at h
    exact ⟨own_base h.own hlo, h.up, h.top⟩
  · obtain ⟨code, hcode, hne, hr⟩ : ∃ code, codeOf (isS C ts) (inB i 0 ((n : Int) - 1)) = code ∧ code ≠ 0 ∧ nearR C ts i 1 3 = ([], code) := by
      unfold codeOf nearR
      by_cases h1 : isS C ts = true
      · rw [if_pos h1, if_pos h1, ← HN.out, if_neg (fun h => hok ⟨h1, h⟩), if_neg (fun h => hok ⟨h1, h⟩)]; exact ⟨2, rfl, by decide, rfl⟩
      · rw [if_neg h1, if_neg h1]; exact ⟨1, rfl, by decide, rfl⟩
    have hne' : (code != 0) = true := by simpa using hne
    have HCO := Lib.hid hcode; have HR := Lib.hid hr; clear hok hcode hne hr
    go_enter Try.func33, Try.ntmps33
    go_wp2_with fail
    refine namec2 ?_
    intro W1 b1 b2 hz hb0
    refine (HCD.out W1 hb0 b1 b2).mono ?_
    rintro e w1 ⟨rfl, hB1⟩
    rw [HCO.out]
    have HB := Lib.hid (below_to hb0 hB1); clear hb0 hB1 hz b1 b2
    go_wp2_with fail
    go_ret2
    exact HBAD.out _ _ HR.out HB.out

set_option maxHeartbeats 4000000 in
set_option maxRecDepth 100000 in
theorem with0_any (C : Int) (A : Option Addr) (ts : List T4) (n c : Nat) (x : Int) (w : World) (hn : n = ts.length) (hA : RT w A ts) (hnc : n ≤ c) (h16 : n ≤ 16) :
    Calls Try.prog 72 #[.agg #[.int .i64 C, .slice A n c], .int .i64 0, .int .i64 x] w fun e w' => ∃ v, e = .returned v ∧ OW w' w.heap.size w'.heap.size 2 1 v (withL ts 0 x n).length (icells (withL ts 0 x n)) ∧ Below w.heap.size w w' := by
  have HA := Lib.hid hA; have HN := Lib.hid hn; clear hA hn
  go_enter Try.func72, Try.ntmps72
  go_wp2_with fail
  refine name2 ?_
  intro W3 b1 b2 hz3 hB3
  have hlit := OI.empty (base := w.heap.size + 1) b2 (by omega)
  have hz4 : w.heap.size + 1 ≤ W3.heap.size := by omega
  have HB3 := Lib.hid hB3
  have a1 : W3.cell? ⟨w.heap.size, 1, none⟩ = some (.slice A n c) := b1.cell rfl
  have l1 := b1.lt
  clear hB3 hz3 b2
  go_wp2_with fail
  go_loopw [7, 14] (fun v i wr => Below w.heap.size w wr ∧ w.heap.size + 1 ≤ wr.heap.size ∧ ∃ k : Nat, k ≤ n ∧ i = .int .i64 k ∧ OI wr (w.heap.size + 1) 2 v (withL ts 0 x k)) (fun _ i _ => n - (intOf i).toNat)
  case atStart => exact ⟨HB3.out, hz4, 0, by omega, rfl, hlit⟩
  case round =>
    obtain ⟨hB, hzr, k, hk, rfl, hO⟩ := hrel
    have HB4 := Lib.hid hB; have HO := Lib.hid hO; clear hB hO hlit a1 l1 b1 hz4
    by_cases hlt : k < n
    · have i1 : (k : Int) < n := by omega
      have i2 : (k : Int) ≤ c := by omega
      have HK := Lib.hid (show k < ts.length by have := HN.out; omega)
      obtain ⟨bb, o, hA', hbb, h0, h1, h2, h3⟩ := (HA.out.below HB4.out) k HK.out
      subst hA'
      have hB5 : Below wr.heap.size wr (wr.alloc (.cells (tk ts k).arr 67)) := (Below.refl _ _).alloc (Nat.le_refl _) _
      have HO5 := Lib.hid (HO.out.to hB5)
      have hz5q : w.heap.size + 1 ≤ (wr.alloc (.cells (tk ts k).arr 67)).heap.size := Nat.le_trans hzr hB5.size
      have HB5 := Lib.hid (below_to HB4.out hB5); have HZ5 := Lib.hid hz5q; clear hB5 hz5q
      by_cases he : (tk ts k).get 0 = x
      · have HE := Lib.hid he; clear he
        have he' : ((tk ts k).get 0 == x) = true := by simp [HE.out]
        go_wp2_with (at_builtin; refine app_int2 (w.heap.size + 1) rfl (.tmp 24) (.tmp 26) 37 2 rfl Try.underlying37 info2 _ (withL ts 0 x k) k rfl (by simp) rfl HO5.out HZ5.out (by have := withL_len ts 0 x k; omega) ?_; intro v6 w6 hO6 hG _; have HB6 := Lib.hid (grown_below HB5.out hG fun b hb => by have := own_lo HO5.out b hb; omega); have HO6 := Lib.hid hO6; have hz6 : w.heap.size + 1 ≤ w6.heap.size := Nat.le_trans HZ5.out hG.size; clear hG hO6)
        go_roundw
        case rel => exact ⟨HB6.out, hz6, k + 1, by omega, by go_num, by rw [withL_yes HE.out]; exact HO6.out⟩
        case measure => simp [intOf]; omega
      · have HE := Lib.hid he; clear he
        have he' : ((tk ts k).get 0 == x) = false := by simpa using HE.out
        go_wp2_with fail
        go_roundw
        case rel => exact ⟨HB5.out, HZ5.out, k + 1, by omega, by go_num, by rw [withL_no HE.out]; exact HO5.out⟩
        case measure => simp [intOf]; omega
    · have hkn : k = n := by omega
      subst hkn
      go_wp2_with fail
      go_ret
      exact ⟨_, rfl, OW.of (own_base (base := w.heap.size + 1) HO.out (by omega)), HB4.out⟩

set_option maxHeartbeats 400000 in
theorem right_any (C : Int) (A : Option Addr) (n c : Nat) (i : Int) (B B' : Nat) (w : World) (h0 : w.cell? ⟨B, 0, none⟩ = some (.int .i64 C)) (h1 : w.cell? ⟨B, 1, none⟩ = some (.slice A n c)) (hB : B < w.heap.size) (h2 : w.cell? ⟨B', 0, none⟩ = some (.int .i64 i)) (hl : n ≤ 35184372088832) :
    Calls Try.prog 73 #[.pointer (some ⟨B, 0, none⟩), .pointer (some ⟨B', 0, none⟩)] w fun e w' => e = .returned (.bool (inB i 0 ((n : Int) - 1))) ∧ Below w.heap.size w w' := by
  go_enter Try.func73, Try.ntmps73
  go_wp2_with fail
  refine (isNumber_any C A n c i w hl).mono ?_
  rintro e w1 ⟨rfl, hB1⟩
  have HB := Lib.hid hB1; clear hB1
  go_wp2_with fail
  go_ret
  exact ⟨rfl, HB.out⟩

set_option maxHeartbeats 4000000 in
set_option maxRecDepth 100000 in
theorem specRightOf_any (C : Int) (A : Option Addr) (ts : List T4) (n c : Nat) (i : Int) (w : World) (hn : n = ts.length) (hA : RT w A ts) (hnc : n ≤ c) (hl : n ≤ 35184372088832) :
    Calls Try.prog 36 #[.agg #[.int .i64 C, .slice A n c], .int .i64 i] w fun e w' => ∃ v xs code, nearR C ts i 0 2 = (xs, code) ∧ e = .returned (.tuple #[v, .int .i64 code]) ∧ OW w' w.heap.size w'.heap.size 2 1 v xs.length (icells xs) ∧ Below w.heap.size w w' := by
  have HA := Lib.hid hA; have HN := Lib.hid hn; clear hA hn
  have hBad : ∀ (w' : World) (code : Int), nearR C ts i 0 2 = ([], code) → Below w.heap.size w w' → ∃ v xs code', nearR C ts i 0 2 = (xs, code') ∧ Ending.returned (.tuple #[.slice none 0 0, .int .i64 code]) = .returned (.tuple #[v, .int .i64 code']) ∧ OW w' w.heap.size w'.heap.size 2 1 v xs.length (icells xs) ∧ Below w.heap.size w w' :=
    fun w' code h hB => ⟨_, _, _, h, rfl, OW.nil _ _ _ _ _ (Nat.le_refl _), hB⟩
  have HBAD := Lib.hid hBad; clear hBad
  by_cases hok : isS C ts = true ∧ inB i 0 ((n : Int) - 1) = true
  · obtain ⟨hs, hc⟩ := hok
    obtain ⟨m, rfl, hm⟩ := inB_num (ts := ts) (x := i) (by rw [← HN.out]; exact hc)
    have HR := Lib.hid (show nearR C ts m 0 2 = (withL ts 0 ((tk ts m).get 2) ts.length, 0) by unfold nearR; rw [if_pos hs, ← HN.out, if_pos hc]; rfl)
    have HC := Lib.hid (show codeOf (isS C ts) (inB m 0 ((n : Int) - 1)) = 0 by rw [hs, hc]; rfl)
    have h16 := (isS_iff.1 hs).2.1
    have HM := Lib.hid hm
    have im : (m : Int) < n := by have := HN.out; omega
    clear hs hc hm
    go_enter Try.func36, Try.ntmps36
    go_wp2_with fail
    refine namec1 ?_
    intro W1 b1 hz hb0
    refine (l01Numbers_any C A ts n c m W1 HN.out (HA.out.below hb0) hl).mono ?_
    rintro e w1 ⟨rfl, hB1⟩
    rw [HC.out]
    have b1' := b1.below hB1 b1.lt
    have hz1 : w.heap.size + 1 ≤ w1.heap.size := by have := hB1.size; omega
    have HB := Lib.hid (below_to hb0 hB1); clear hb0 hB1 hz b1
    go_wp2_with fail
    refine name1 ?_
    intro W3 b3 hz3 hB3
    have hlit := OI.empty (base := w.heap.size + 1) b3 hz1
    have b1x := b1'.below hB3 b1'.lt
    have hz4 : w.heap.size + 1 ≤ W3.heap.size := by omega
    have HB3 := Lib.hid (below_to HB.out hB3); clear hB3 b1' b3 hz3 hz1
    go_loopw [7, 8] (fun v i wr => Below w.heap.size w wr ∧ w.heap.size + 1 ≤ wr.heap.size ∧ BK wr w.heap.size #[.int .i64 C, .slice A n c] 30 ∧ ∃ k : Nat, k ≤ n ∧ i = .int .i64 k ∧ OI wr (w.heap.size + 1) 2 v (withL ts 0 ((tk ts m).get 2) k)) (fun _ i _ => n - (intOf i).toNat)
    case atStart => exact ⟨HB3.out, hz4, b1x, 0, by omega, rfl, hlit⟩
    case round =>
      obtain ⟨hB, hzr, bb1, k, hk, rfl, hO⟩ := hrel
      have HB4 := Lib.hid hB; have HO := Lib.hid hO; clear hB hO hlit b1x hz4
      have a1 : wr.cell? ⟨w.heap.size, 1, none⟩ = some (.slice A n c) := bb1.cell rfl
      have l1 := bb1.lt
      by_cases hlt : k < n
      · have i1 : (k : Int) < n := by omega
        obtain ⟨b, o, hA', hb, hck, hcm⟩ := (HA.out.below HB4.out).cell2 (k := k) (i := m) (by have := HN.out; omega) HM.out
        subst hA'
        have ck := hck 0 (by omega); have cm := hcm 2 (by omega)
        try simp only [Nat.add_zero] at ck cm
        clear hck hcm
        by_cases he : (tk ts k).get 0 = (tk ts m).get 2
        · have HE := Lib.hid he; clear he
          have he' : ((tk ts k).get 0 == (tk ts m).get 2) = true := by simp [HE.out]
          go_wp2_with fail
          refine wp_region_gro (by kernel_rfl) (by kernel_rfl) ?_
          repeat (first | go_big_quiet_step (fail) | quiet_step (fail))
          refine wpQuiet_nil ?_
          intro w5 hB5
          have HO5 := Lib.hid (HO.out.to hB5)
          have B1 := bb1.below hB5 bb1.lt
          have hz5 : w.heap.size + 1 ≤ w5.heap.size := by have := hB5.size; omega
          have HB5 := Lib.hid (below_to HB4.out hB5); clear hB5 a1 ck cm l1
          go_wp2_with (at_builtin; refine app_int (w.heap.size + 1) rfl (.tmp 36) (.tmp 38) 37 2 rfl Try.underlying37 info2 _ (withL ts 0 ((tk ts m).get 2) k) k rfl rfl HO5.out hz5 (by have := withL_len ts 0 ((tk ts m).get 2) k; have := HN.out; omega) ?_; intro v6 w6 hO6 hG _; have B1x := B1.below_own hG HO5.out (by omega); have HB6 := Lib.hid (grown_below HB5.out hG fun b hb => by have := own_lo HO5.out b hb; omega); have HO6 := Lib.hid hO6; have hz6 : w.heap.size + 1 ≤ w6.heap.size := Nat.le_trans hz5 hG.size; clear hG hO6 B1)
          go_roundw
          case rel => exact ⟨HB6.out, hz6, B1x, k + 1, by omega, by go_num, by rw [withL_yes HE.out]; exact HO6.out⟩
          case measure => simp [intOf]; omega
        · have HE := Lib.hid he; clear he
          have he' : ((tk ts k).get 0 == (tk ts m).get 2) = false := by simpa using HE.out
          go_wp2_with fail
          refine wp_region_gro (by kernel_rfl) (by kernel_rfl) ?_
          repeat (first | go_big_quiet_step (fail) | quiet_step (fail))
          refine wpQuiet_nil ?_
          intro w5 hB5
          have HO5 := Lib.hid (HO.out.to hB5)
          have B1 := bb1.below hB5 bb1.lt
          have hz5 : w.heap.size + 1 ≤ w5.heap.size := by have := hB5.size; omega
          have HB5 := Lib.hid (below_to HB4.out hB5); clear hB5 a1 ck cm l1
          go_wp2_with fail
          go_roundw
          case rel => exact ⟨HB5.out, hz5, B1, k + 1, by omega, by go_num, by rw [withL_no HE.out]; exact HO5.out⟩
          case measure => simp [intOf]; omega
      · have hkn : k = n := by omega
        go_wp2_with fail
        go_ret2
        refine ⟨_, _, _, HR.out, rfl, OW.of (own_base (base := w.heap.size + 1) ?_ (by omega)), HB4.out⟩
        have := HO.out
        rw [hkn, HN.out] at this
        exact this
  · obtain ⟨code, hcode, hne, hr⟩ : ∃ code, codeOf (isS C ts) (inB i 0 ((n : Int) - 1)) = code ∧ code ≠ 0 ∧ nearR C ts i 0 2 = ([], code) := by
      unfold codeOf nearR
      by_cases h1 : isS C ts = true
      · rw [if_pos h1, if_pos h1, ← HN.out, if_neg (fun h => hok ⟨h1, h⟩), if_neg (fun h => hok ⟨h1, h⟩)]; exact ⟨2, rfl, by decide, rfl⟩
      · rw [if_neg h1, if_neg h1]; exact ⟨1, rfl, by decide, rfl⟩
    have hne' : (code != 0) = true := by simpa using hne
    have HCO := Lib.hid hcode; have HR := Lib.hid hr; clear hok hcode hne hr
    go_enter Try.func36, Try.ntmps36
    go_wp2_with fail
    refine namec1 ?_
    intro W1 b1 hz hb0
    refine (l01Numbers_any C A ts n c i W1 HN.out (HA.out.below hb0) hl).mono ?_
    rintro e w1 ⟨rfl, hB1⟩
    rw [HCO.out]
    have HB := Lib.hid (below_to hb0 hB1); clear hb0 hB1 hz b1
    go_wp2_with fail
    go_ret2
    exact HBAD.out _ _ HR.out HB.out

set_option maxHeartbeats 4000000 in
set_option maxRecDepth 100000 in
theorem implRightOf_any (C : Int) (A : Option Addr) (ts : List T4) (n c : Nat) (i : Int) (w : World) (hn : n = ts.length) (hA : RT w A ts) (hnc : n ≤ c) (hl : n ≤ 35184372088832) :
    Calls Try.prog 37 #[.agg #[.int .i64 C, .slice A n c], .int .i64 i] w fun e w' => ∃ v xs code, nearR C ts i 0 2 = (xs, code) ∧ e = .returned (.tuple #[v, .int .i64 code]) ∧ OW w' w.heap.size w'.heap.size 2 1 v xs.length (icells xs) ∧ Below w.heap.size w w' := by
  have HA := Lib.hid hA; have HN := Lib.hid hn; clear hA hn
  have hBad : ∀ (w' : World) (code : Int), nearR C ts i 0 2 = ([], code) → Below w.heap.size w w' → ∃ v xs code', nearR C ts i 0 2 = (xs, code') ∧ Ending.returned (.tuple #[.slice none 0 0, .int .i64 code]) = .returned (.tuple #[v, .int .i64 code']) ∧ OW w' w.heap.size w'.heap.size 2 1 v xs.length (icells xs) ∧ Below w.heap.size w w' :=
    fun w' code h hB => ⟨_, _, _, h, rfl, OW.nil _ _ _ _ _ (Nat.le_refl _), hB⟩
  have HBAD := Lib.hid hBad; clear hBad
  have hcd := fun W1 (h0 : Below w.heap.size w W1) (b1 : BK W1 w.heap.size #[.int .i64 C, .slice A n c] 30) (b2 : BK W1 (w.heap.size + 1) #[.int .i64 i] 2) =>
    setCode_any C A ts n c 73 #[.pointer (some ⟨w.heap.size, 0, none⟩), .pointer (some ⟨w.heap.size + 1, 0, none⟩)] (inB i 0 ((n : Int) - 1)) W1 HN.out (HA.out.below h0) hl (enters_of Try.func73 (by kernel_rfl) rfl)
      (fun _ W hW => right_any C A n c i _ _ W (cell_to hW (b1.cell rfl)) (cell_to hW (b1.cell rfl)) (lt_to hW b1.lt) (cell_to hW (b2.cell rfl)) hl)
  have HCD := Lib.hid hcd; clear hcd
  by_cases hok : isS C ts = true ∧ inB i 0 ((n : Int) - 1) = true
  · obtain ⟨hs, hc⟩ := hok
    obtain ⟨m, rfl, hm⟩ := inB_num (ts := ts) (x := i) (by rw [← HN.out]; exact hc)
    have HR := Lib.hid (show nearR C ts m 0 2 = (withL ts 0 ((tk ts m).get 2) ts.length, 0) by unfold nearR; rw [if_pos hs, ← HN.out, if_pos hc]; rfl)
    have HC := Lib.hid (show codeOf (isS C ts) (inB m 0 ((n : Int) - 1)) = 0 by rw [hs, hc]; rfl)
    have HM := Lib.hid hm
    have H16 := Lib.hid (isS_iff.1 hs).2.1
    have im : (m : Int) < n := by have := HN.out; omega
    clear hs hc hm
    go_enter Try.func37, Try.ntmps37
    go_wp2_with fail
    refine namec2 ?_
    intro W1 b1 b2 hz hb0
    refine (HCD.out W1 hb0 b1 b2).mono ?_
    rintro e w1 ⟨rfl, hB1⟩
    rw [HC.out]
    have b1' := b1.below hB1 b1.lt
    have b2' := b2.below hB1 b2.lt
    have HB := Lib.hid (below_to hb0 hB1); clear hb0 hB1 hz b1 b2
    go_wp2_with fail
    have b1w := b1'.below (Below.refl _ _).drew b1'.lt
    have b2w := b2'.below (Below.refl _ _).drew b2'.lt
    have HB2 := Lib.hid (below_to HB.out (Below.refl _ _).drew); clear b1' b2'
    have a0 : w1.drew.cell? ⟨w.heap.size, 0, none⟩ = some (.int .i64 C) := b1w.cell rfl
    have a1 : w1.drew.cell? ⟨w.heap.size, 1, none⟩ = some (.slice A n c) := b1w.cell rfl
    have a2 : w1.drew.cell? ⟨w.heap.size + 1, 0, none⟩ = some (.int .i64 m) := b2w.cell rfl
    have l1 : w.heap.size < w1.drew.heap.size := b1w.lt
    obtain ⟨b, o, hA', hb, hcm⟩ := (HA.out.below HB2.out).cellj (k := m) HM.out
    subst hA'
    have cm := hcm 2 (by omega)
    try simp only [Nat.add_zero] at cm
    clear hcm
    refine wp_region_tail 7 (by kernel_rfl) (by kernel_rfl) ?_
    simp only [List.take_succ_cons, List.take_zero, List.drop_succ_cons, List.drop_zero]
    repeat still_step
    refine wpStill_nil ?_
    go_wp2_with fail
    refine (with0_any C (some ⟨b, o, none⟩) ts n c ((tk ts m).get 2) _ HN.out (HA.out.below HB2.out) hnc (by have := H16.out; have := HN.out; omega)).mono ?_
    rintro e w3 ⟨v, rfl, hO, hB3⟩
    have HO := Lib.hid hO
    have HB3 := Lib.hid (below_to HB2.out hB3)
    have hlo : w.heap.size ≤ w1.drew.heap.size := HB2.out.size
    clear hO hB3 a0 a1 a2 cm hb
    go_wp2_with fail
    go_ret2
    refine ⟨v, _, _, HR.out, rfl, ?_, HB3.out⟩
    have h := HO.out
    rw [HN.out] at h
    exact ⟨own_base h.own hlo, h.up, h.top⟩
  · obtain ⟨code, hcode, hne, hr⟩ : ∃ code, codeOf (isS C ts) (inB i 0 ((n : Int) - 1)) = code ∧ code ≠ 0 ∧ nearR C ts i 0 2 = ([], code) := by
      unfold codeOf nearR
      by_cases h1 : isS C ts = true
      · rw [if_pos h1, if_pos h1, ← HN.out, if_neg (fun h => hok ⟨h1, h⟩), if_neg (fun h => hok ⟨h1, h⟩)]; exact ⟨2, rfl, by decide, rfl⟩
      · rw [if_neg h1, if_neg h1]; exact ⟨1, rfl, by decide, rfl⟩
    have hne' : (code != 0) = true := by simpa using hne
    have HCO := Lib.hid hcode; have HR := Lib.hid hr; clear hok hcode hne hr
    go_enter Try.func37, Try.ntmps37
    go_wp2_with fail
    refine namec2 ?_
    intro W1 b1 b2 hz hb0
    refine (HCD.out W1 hb0 b1 b2).mono ?_
    rintro e w1 ⟨rfl, hB1⟩
    rw [HCO.out]
    have HB := Lib.hid (below_to hb0 hB1); clear hb0 hB1 hz b1 b2
    go_wp2_with fail
    go_ret2
    exact HBAD.out _ _ HR.out HB.out
end Go.Proofs.Ytaidmloaoogmoaa

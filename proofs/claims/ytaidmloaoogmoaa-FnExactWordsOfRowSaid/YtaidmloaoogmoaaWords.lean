/-
  Contracts: the north word and the south word of a row.
-/
import Derived.Test.YtaidmloaoogmoaaRow
import Derived.Test.YtaidmloaoogmoaaLaw1
import Derived.Test.YtaidmloaoogmoaaOwn2
import Derived.Deep.RegionHeld3
namespace Go.Proofs.Ytaidmloaoogmoaa
open Go Go.RowKit Go.Proofs
set_option linter.unusedVariables false
set_option linter.unusedSimpArgs false

def colL (ts : List T4) (s : Nat) (row : List Int) (k : Nat) : List Int := (List.range k).map fun j => (tk ts (ik row j).toNat).get s
theorem colL_succ (ts : List T4) (s : Nat) (row : List Int) {k m : Nat} (h : ik row k = (m : Int)) : colL ts s row (k + 1) = colL ts s row k ++ [(tk ts m).get s] := by
  simp [colL, List.range_succ, h]
theorem colL_len (ts : List T4) (s : Nat) (row : List Int) (k : Nat) : (colL ts s row k).length = k := by simp [colL]
theorem rowB_steps {ts : List T4} {row : List Int} (h : rowB ts row = true) : (1 ≤ row.length ∧ row.length ≤ 20) ∧ ∀ k, k < row.length → ∃ m : Nat, ik row k = (m : Int) ∧ m < ts.length := by
  simp only [rowB, Bool.and_eq_true, decide_eq_true_eq, List.all_eq_true, List.mem_range] at h
  exact ⟨h.1, fun k hk => stepB_num (h.2 k hk)⟩
def wordsR (C : Int) (ts : List T4) (row : List Int) : List Int × List Int × Int :=
  if isS C ts = true then if rowB ts row = true then (colL ts 1 row row.length, colL ts 3 row row.length, 0) else ([], [], 2) else ([], [], 1)
theorem wordsR_len (C : Int) (ts : List T4) (row : List Int) : (wordsR C ts row).1.length ≤ 1048576 := by
  unfold wordsR
  split
  · split
    · rename_i h
      have := (rowB_steps h).1
      simp only [colL_len]; omega
    · simp
  · simp
theorem wordsR_len2 (C : Int) (ts : List T4) (row : List Int) : (wordsR C ts row).2.1.length ≤ 1048576 := by
  unfold wordsR
  split
  · split
    · rename_i h
      have := (rowB_steps h).1
      simp only [colL_len]; omega
    · simp
  · simp
theorem ne_of_lo {v v1 v2 : Value} {n : Nat} (h1 : v1.ownBlock = v.ownBlock ∨ ∃ b, v1.ownBlock = some b ∧ n ≤ b) (h2 : v2.ownBlock = none ∨ v2.ownBlock ≠ v.ownBlock) (hb : ∀ b, v2.ownBlock = some b → b < n) : v2.ownBlock = none ∨ v2.ownBlock ≠ v1.ownBlock := by
  rcases h1 with h1 | ⟨b, h1, hn⟩
  · rw [h1]; exact h2
  · cases hv : v2.ownBlock with
    | none => exact .inl rfl
    | some b' =>
      refine .inr fun e => ?_
      rw [h1] at e
      injection e with e
      have := hb b' hv
      omega
theorem ne_sym {v1 v2 : Value} (h : v2.ownBlock = none ∨ v2.ownBlock ≠ v1.ownBlock) : v1.ownBlock = none ∨ v1.ownBlock ≠ v2.ownBlock := by
  rcases h with h | h
  · rw [h]
    cases v1.ownBlock with
    | none => exact .inl rfl
    | some b => exact .inr (by simp)
  · exact .inr fun e => h e.symm

set_option maxHeartbeats 4000000 in
set_option maxRecDepth 100000 in
theorem l02Words_any (C : Int) (A : Option Addr) (ts : List T4) (n c : Nat) (A' : Option Addr) (row : List Int) (n' c' : Nat) (w : World) (hn : n = ts.length) (hA : RT w A ts) (h16 : n ≤ 16) (hn' : n' = row.length) (hA' : RI w A' row) (h20 : n' ≤ 20) (hst : ∀ k, k < row.length → ∃ m : Nat, ik row k = (m : Int) ∧ m < ts.length) :
    Calls Try.prog 78 #[.agg #[.int .i64 C, .slice A n c], .slice A' n' c'] w fun e w' => ∃ v1 v2, e = .returned (.tuple #[v1, v2]) ∧ OW w' w.heap.size w'.heap.size 2 1 v1 (colL ts 1 row n').length (icells (colL ts 1 row n')) ∧ OW w' w.heap.size w'.heap.size 2 1 v2 (colL ts 3 row n').length (icells (colL ts 3 row n')) ∧ Below w.heap.size w w' := by
  have HA := Lib.hid hA; have HN := Lib.hid hn; have HA' := Lib.hid hA'; have HN' := Lib.hid hn'; have HST := Lib.hid hst; clear hA hn hA' hn' hst
  go_enter Try.func78, Try.ntmps78
  go_wp2_with fail
  refine name3 ?_
  intro W3 b1 b2 b3 hz3 hB3
  have hO1 := OI.empty (base := w.heap.size + 1) b2 (by omega)
  have hO2 := OI.empty (base := w.heap.size + 1) b3 (by omega)
  have hz4 : w.heap.size + 1 ≤ W3.heap.size := by omega
  have HB3 := Lib.hid hB3
  have hne : (Value.slice (some ⟨w.heap.size + 2, 0, none⟩) 0 0).ownBlock = none ∨ (Value.slice (some ⟨w.heap.size + 2, 0, none⟩) 0 0).ownBlock ≠ (Value.slice (some ⟨w.heap.size + 1, 0, none⟩) 0 0).ownBlock := .inr (by simp [Value.ownBlock])
  clear hB3 hz3 b2 b3
  go_loopw [6, 7, 8] (fun v1 v2 i wr => Below w.heap.size w wr ∧ w.heap.size + 1 ≤ wr.heap.size ∧ BK wr w.heap.size #[.int .i64 C, .slice A n c] 30 ∧ ∃ k : Nat, k ≤ n' ∧ i = .int .i64 k ∧ OI wr (w.heap.size + 1) 2 v1 (colL ts 1 row k) ∧ OI wr (w.heap.size + 1) 2 v2 (colL ts 3 row k) ∧ (v2.ownBlock = none ∨ v2.ownBlock ≠ v1.ownBlock)) (fun _ _ i _ => n' - (intOf i).toNat)
  case atStart => exact ⟨HB3.out, hz4, b1, 0, by omega, rfl, hO1, hO2, hne⟩
  case round =>
    obtain ⟨hB, hzr, bb1, k, hk, rfl, hP1, hP2, hnr⟩ := hrel
    have HB4 := Lib.hid hB; have P1 := Lib.hid hP1; have P2 := Lib.hid hP2; have HNR := Lib.hid hnr; clear hB hP1 hP2 hnr hO1 hO2 b1 hz4 hne
    by_cases hlt : k < n'
    · have i1 : (k : Int) < n' := by omega
      obtain ⟨br, orr, hAr, hbrw, hrw⟩ := HA'.out k (by have := HN'.out; omega)
      subst hAr
      obtain ⟨m, hm, hmlt⟩ := HST.out k (by have := HN'.out; omega)
      obtain ⟨b, o, hAt, hbw, hcw⟩ := HA.out.cellj hmlt
      subst hAt
      have im : (m : Int) < n := by have := HN.out; omega
      have HM := Lib.hid hm
      rw [hm] at hrw
      clear hm hmlt
      have CR := Lib.hid hrw; have CT1 := Lib.hid (hcw 1 (by omega)); have CT3 := Lib.hid (hcw 3 (by omega))
      clear hrw hcw hbrw hbw
      go_wp2_with fail
      have hV := new_drew wr #[.int .i64 ((tk ts m).get 1)] 2
      go_region_held3 (fun w_ => w_.cell? ⟨w.heap.size, 1, none⟩ = some (.slice (some ⟨b, o, none⟩) n c) ∧ w_.cell? ⟨br, orr + k, none⟩ = some (.int .i64 m) ∧ w_.cell? ⟨b, o + m * 4 + 1, none⟩ = some (.int .i64 ((tk ts m).get 1)))
        (first | exact ⟨(bb1.below (Below.refl _ _).drew bb1.lt).cell rfl, cell_to (below_to HB4.out (Below.refl _ _).drew) CR.out, cell_to (below_to HB4.out (Below.refl _ _).drew) CT1.out⟩ | exact ⟨(bb1.below hV.2.1 bb1.lt).cell rfl, cell_to (below_to HB4.out hV.2.1) CR.out, cell_to (below_to HB4.out hV.2.1) CT1.out⟩ | exact ⟨B1.cell rfl, cell_to HB6.out CR.out, cell_to HB6.out CT1.out⟩ | fail)
        ((refine step_int (w.heap.size + 1) rfl (.tmp 17) (.tmp 27) 37 2 rfl Try.underlying37 info2 _ (colL ts 1 row k) ((tk ts m).get 1) rfl hV.1 rfl (P1.out.to hV.2.1) (by rw [hV.2.2]; omega) (by have := colL_len ts 1 row k; omega) ?_; intro v6 w6 hO6 hG hat; have B1 := (bb1.below hV.2.1 bb1.lt).below_own hG (P1.out.to hV.2.1) (by omega); have HB6 := Lib.hid (grown_below (below_to HB4.out hV.2.1) hG fun b hb => (by have := own_lo P1.out b hb; omega)); have HO6 := Lib.hid hO6; have HP6 := Lib.hid ((P2.out.to hV.2.1).kept hG HNR.out); have HN6 := Lib.hid (ne_of_lo hat HNR.out fun b hb => ((P2.out.to hV.2.1).lt b hb).2); have hz6 : w.heap.size + 1 ≤ w6.heap.size := Nat.le_trans (by rw [hV.2.2]; omega) hG.size; clear hG hO6 hat))
      clear hV
      go_wp2_with fail
      have hV := new_drew w6 #[.int .i64 ((tk ts m).get 3)] 2
      go_region_held3 (fun w_ => w_.cell? ⟨w.heap.size, 1, none⟩ = some (.slice (some ⟨b, o, none⟩) n c) ∧ w_.cell? ⟨br, orr + k, none⟩ = some (.int .i64 m) ∧ w_.cell? ⟨b, o + m * 4 + 3, none⟩ = some (.int .i64 ((tk ts m).get 3)))
        (first | exact ⟨(B1.below (Below.refl _ _).drew B1.lt).cell rfl, cell_to (below_to HB6.out (Below.refl _ _).drew) CR.out, cell_to (below_to HB6.out (Below.refl _ _).drew) CT3.out⟩ | exact ⟨(B1.below hV.2.1 B1.lt).cell rfl, cell_to (below_to HB6.out hV.2.1) CR.out, cell_to (below_to HB6.out hV.2.1) CT3.out⟩ | exact ⟨B8.cell rfl, cell_to HB8.out CR.out, cell_to HB8.out CT3.out⟩ | fail)
        ((refine step_int (w.heap.size + 1) rfl (.tmp 29) (.tmp 39) 37 2 rfl Try.underlying37 info2 _ (colL ts 3 row k) ((tk ts m).get 3) rfl hV.1 rfl (own_to HP6.out hV.2.1) (by rw [hV.2.2]; omega) (by have := colL_len ts 3 row k; omega) ?_; intro v8 w8 hO8 hG hat; have B8 := (B1.below hV.2.1 B1.lt).below_own hG (own_to HP6.out hV.2.1) (by omega); have HB8 := Lib.hid (grown_below (below_to HB6.out hV.2.1) hG fun b hb => (by have := own_lo HP6.out b hb; omega)); have HO8 := Lib.hid hO8; have HP8 := Lib.hid ((HO6.out.to hV.2.1).kept hG (ne_sym HN6.out)); have HN8 := Lib.hid (ne_sym (ne_of_lo hat (ne_sym HN6.out) fun b hb => ((HO6.out.to hV.2.1).lt b hb).2)); have hz8 : w.heap.size + 1 ≤ w8.heap.size := Nat.le_trans (by rw [hV.2.2]; omega) hG.size; clear hG hO8 hat))
      clear hV
      go_wp2_with fail
      go_roundw
      case rel => exact ⟨HB8.out, hz8, B8, k + 1, by omega, by go_num, by rw [colL_succ _ _ _ HM.out]; exact HP8.out, by rw [colL_succ _ _ _ HM.out]; exact HO8.out, HN8.out⟩
      case measure => simp [intOf]; omega
    · have hkn : k = n' := by omega
      subst hkn
      go_wp2_with fail
      go_ret2
      exact ⟨_, _, rfl, OW.of (own_base (base := w.heap.size + 1) P1.out (by omega)), OW.of (own_base (base := w.heap.size + 1) P2.out (by omega)), HB4.out⟩

set_option maxHeartbeats 4000000 in
set_option maxRecDepth 100000 in
theorem word1_any (C : Int) (A : Option Addr) (ts : List T4) (n c : Nat) (A' : Option Addr) (row : List Int) (n' c' : Nat) (w : World) (hn : n = ts.length) (hA : RT w A ts) (h16 : n ≤ 16) (hn' : n' = row.length) (hA' : RI w A' row) (h20 : n' ≤ 20) (hst : ∀ k, k < row.length → ∃ m : Nat, ik row k = (m : Int) ∧ m < ts.length) :
    Calls Try.prog 80 #[.agg #[.int .i64 C, .slice A n c], .slice A' n' c', .int .i64 1] w fun e w' => ∃ v, e = .returned v ∧ OW w' w.heap.size w'.heap.size 2 1 v (colL ts 1 row n').length (icells (colL ts 1 row n')) ∧ Below w.heap.size w w' := by
  have HA := Lib.hid hA; have HN := Lib.hid hn; have HA' := Lib.hid hA'; have HN' := Lib.hid hn'; have HST := Lib.hid hst; clear hA hn hA' hn' hst
  go_enter Try.func80, Try.ntmps80
  go_wp2_with fail
  refine name2 ?_
  intro W3 b1 b2 hz3 hB3
  have hO1 := OI.empty (base := w.heap.size + 1) b2 (by omega)
  have hz4 : w.heap.size + 1 ≤ W3.heap.size := by omega
  have HB3 := Lib.hid hB3
  clear hB3 hz3 b2
  go_wp2_with fail
  go_loopw [7, 13] (fun v i wr => Below w.heap.size w wr ∧ w.heap.size + 1 ≤ wr.heap.size ∧ BK wr w.heap.size #[.int .i64 C, .slice A n c] 30 ∧ ∃ k : Nat, k ≤ n' ∧ i = .int .i64 k ∧ OI wr (w.heap.size + 1) 2 v (colL ts 1 row k)) (fun _ i _ => n' - (intOf i).toNat)
  case atStart => exact ⟨HB3.out, hz4, b1, 0, by omega, rfl, hO1⟩
  case round =>
    obtain ⟨hB, hzr, bb1, k, hk, rfl, hP1⟩ := hrel
    have HB4 := Lib.hid hB; have P1 := Lib.hid hP1; clear hB hP1 hO1 b1 hz4
    by_cases hlt : k < n'
    · have i1 : (k : Int) < n' := by omega
      obtain ⟨br, orr, hAr, hbr, hr0⟩ := (HA'.out.below HB4.out) k (by have := HN'.out; omega)
      subst hAr
      obtain ⟨m, hm, hmlt⟩ := HST.out k (by have := HN'.out; omega)
      obtain ⟨b, o, hAt, hb, hcm⟩ := (HA.out.below HB4.out).cellj hmlt
      subst hAt
      have im : (m : Int) < n := by have := HN.out; omega
      have HM := Lib.hid hm
      rw [hm] at hr0
      clear hm hmlt
      have a1 : wr.cell? ⟨w.heap.size, 1, none⟩ = some (.slice (some ⟨b, o, none⟩) n c) := bb1.cell rfl
      have l1 := bb1.lt
      have cm := hcm 1 (by omega)
      go_wp2_with (at_builtin; refine app_int (w.heap.size + 1) rfl (.tmp 17) (.tmp 25) 37 2 rfl Try.underlying37 info2 _ (colL ts 1 row k) ((tk ts m).get 1) rfl rfl P1.out hzr (by have := colL_len ts 1 row k; omega) ?_; intro v6 w6 hO6 hG hat; have B1 := bb1.below_own hG P1.out (by omega); have HB6 := Lib.hid (grown_below HB4.out hG fun b hb => by have := own_lo P1.out b hb; omega); have HO6 := Lib.hid hO6; have hz6 : w.heap.size + 1 ≤ w6.heap.size := Nat.le_trans hzr hG.size; clear hG hO6 hat)
      go_roundw
      case rel => exact ⟨HB6.out, hz6, B1, k + 1, by omega, by go_num, by rw [colL_succ _ _ _ HM.out]; exact HO6.out⟩
      case measure => simp [intOf]; omega
    · have hkn : k = n' := by omega
      subst hkn
      go_wp2_with fail
      go_ret
      exact ⟨_, rfl, OW.of (own_base (base := w.heap.size + 1) P1.out (by omega)), HB4.out⟩

set_option maxHeartbeats 4000000 in
set_option maxRecDepth 100000 in
theorem word3_any (C : Int) (A : Option Addr) (ts : List T4) (n c : Nat) (A' : Option Addr) (row : List Int) (n' c' : Nat) (w : World) (hn : n = ts.length) (hA : RT w A ts) (h16 : n ≤ 16) (hn' : n' = row.length) (hA' : RI w A' row) (h20 : n' ≤ 20) (hst : ∀ k, k < row.length → ∃ m : Nat, ik row k = (m : Int) ∧ m < ts.length) :
    Calls Try.prog 80 #[.agg #[.int .i64 C, .slice A n c], .slice A' n' c', .int .i64 3] w fun e w' => ∃ v, e = .returned v ∧ OW w' w.heap.size w'.heap.size 2 1 v (colL ts 3 row n').length (icells (colL ts 3 row n')) ∧ Below w.heap.size w w' := by
  have HA := Lib.hid hA; have HN := Lib.hid hn; have HA' := Lib.hid hA'; have HN' := Lib.hid hn'; have HST := Lib.hid hst; clear hA hn hA' hn' hst
  go_enter Try.func80, Try.ntmps80
  go_wp2_with fail
  refine name2 ?_
  intro W3 b1 b2 hz3 hB3
  have hO1 := OI.empty (base := w.heap.size + 1) b2 (by omega)
  have hz4 : w.heap.size + 1 ≤ W3.heap.size := by omega
  have HB3 := Lib.hid hB3
  clear hB3 hz3 b2
  go_wp2_with fail
  go_loopw [7, 13] (fun v i wr => Below w.heap.size w wr ∧ w.heap.size + 1 ≤ wr.heap.size ∧ BK wr w.heap.size #[.int .i64 C, .slice A n c] 30 ∧ ∃ k : Nat, k ≤ n' ∧ i = .int .i64 k ∧ OI wr (w.heap.size + 1) 2 v (colL ts 3 row k)) (fun _ i _ => n' - (intOf i).toNat)
  case atStart => exact ⟨HB3.out, hz4, b1, 0, by omega, rfl, hO1⟩
  case round =>
    obtain ⟨hB, hzr, bb1, k, hk, rfl, hP1⟩ := hrel
    have HB4 := Lib.hid hB; have P1 := Lib.hid hP1; clear hB hP1 hO1 b1 hz4
    by_cases hlt : k < n'
    · have i1 : (k : Int) < n' := by omega
      obtain ⟨br, orr, hAr, hbr, hr0⟩ := (HA'.out.below HB4.out) k (by have := HN'.out; omega)
      subst hAr
      obtain ⟨m, hm, hmlt⟩ := HST.out k (by have := HN'.out; omega)
      obtain ⟨b, o, hAt, hb, hcm⟩ := (HA.out.below HB4.out).cellj hmlt
      subst hAt
      have im : (m : Int) < n := by have := HN.out; omega
      have HM := Lib.hid hm
      rw [hm] at hr0
      clear hm hmlt
      have a1 : wr.cell? ⟨w.heap.size, 1, none⟩ = some (.slice (some ⟨b, o, none⟩) n c) := bb1.cell rfl
      have l1 := bb1.lt
      have cm := hcm 3 (by omega)
      go_wp2_with (at_builtin; refine app_int (w.heap.size + 1) rfl (.tmp 17) (.tmp 25) 37 2 rfl Try.underlying37 info2 _ (colL ts 3 row k) ((tk ts m).get 3) rfl rfl P1.out hzr (by have := colL_len ts 3 row k; omega) ?_; intro v6 w6 hO6 hG hat; have B1 := bb1.below_own hG P1.out (by omega); have HB6 := Lib.hid (grown_below HB4.out hG fun b hb => by have := own_lo P1.out b hb; omega); have HO6 := Lib.hid hO6; have hz6 : w.heap.size + 1 ≤ w6.heap.size := Nat.le_trans hzr hG.size; clear hG hO6 hat)
      go_roundw
      case rel => exact ⟨HB6.out, hz6, B1, k + 1, by omega, by go_num, by rw [colL_succ _ _ _ HM.out]; exact HO6.out⟩
      case measure => simp [intOf]; omega
    · have hkn : k = n' := by omega
      subst hkn
      go_wp2_with fail
      go_ret
      exact ⟨_, rfl, OW.of (own_base (base := w.heap.size + 1) P1.out (by omega)), HB4.out⟩

theorem word_any (C : Int) (A : Option Addr) (ts : List T4) (n c : Nat) (A' : Option Addr) (row : List Int) (n' c' : Nat) (s : Int) (w : World) (hs : s = 1 ∨ s = 3) (hn : n = ts.length) (hA : RT w A ts) (h16 : n ≤ 16) (hn' : n' = row.length) (hA' : RI w A' row) (h20 : n' ≤ 20) (hst : ∀ k, k < row.length → ∃ m : Nat, ik row k = (m : Int) ∧ m < ts.length) :
    Calls Try.prog 80 #[.agg #[.int .i64 C, .slice A n c], .slice A' n' c', .int .i64 s] w fun e w' => ∃ v, e = .returned v ∧ OW w' w.heap.size w'.heap.size 2 1 v (colL ts s.toNat row n').length (icells (colL ts s.toNat row n')) ∧ Below w.heap.size w w' := by
  rcases hs with rfl | rfl
  · exact word1_any C A ts n c A' row n' c' w hn hA h16 hn' hA' h20 hst
  · exact word3_any C A ts n c A' row n' c' w hn hA h16 hn' hA' h20 hst

set_option maxHeartbeats 4000000 in
set_option maxRecDepth 100000 in
theorem specWordsOfRow_any (C : Int) (A : Option Addr) (ts : List T4) (n c : Nat) (A' : Option Addr) (row : List Int) (n' c' : Nat) (w : World) (hn : n = ts.length) (hA : RT w A ts) (hnc : n ≤ c) (hl : n ≤ 35184372088832) (hn' : n' = row.length) (hA' : RI w A' row) (hnc' : n' ≤ c') (hl' : n' ≤ 35184372088832) :
    Calls Try.prog 41 #[.agg #[.int .i64 C, .slice A n c], .slice A' n' c'] w fun e w' => ∃ v1 v2 xs ys code l1 h1 l2 h2, wordsR C ts row = (xs, ys, code) ∧ e = .returned (.tuple #[v1, v2, .int .i64 code]) ∧ OW w' l1 h1 2 1 v1 xs.length (icells xs) ∧ OW w' l2 h2 2 1 v2 ys.length (icells ys) ∧ True ∧ w.heap.size ≤ l1 ∧ w.heap.size ≤ l2 ∧ Below w.heap.size w w' := by
  have HA := Lib.hid hA; have HN := Lib.hid hn; have HA' := Lib.hid hA'; have HN' := Lib.hid hn'; clear hA hn hA' hn'
  have hBad : ∀ (w' : World) (code : Int), wordsR C ts row = ([], [], code) → Below w.heap.size w w' → ∃ v1 v2 xs ys code' l1 h1 l2 h2, wordsR C ts row = (xs, ys, code') ∧ Ending.returned (.tuple #[.slice none 0 0, .slice none 0 0, .int .i64 code]) = .returned (.tuple #[v1, v2, .int .i64 code']) ∧ OW w' l1 h1 2 1 v1 xs.length (icells xs) ∧ OW w' l2 h2 2 1 v2 ys.length (icells ys) ∧ True ∧ w.heap.size ≤ l1 ∧ w.heap.size ≤ l2 ∧ Below w.heap.size w w' :=
    fun w' code h hB => ⟨_, _, _, _, _, w.heap.size, w.heap.size, w.heap.size, w.heap.size, h, rfl, OW.nil _ _ _ _ _ hB.size, OW.nil _ _ _ _ _ hB.size, trivial, Nat.le_refl _, Nat.le_refl _, hB⟩
  have HBAD := Lib.hid hBad; clear hBad
  cases hs : isS C ts
  · have HS := Lib.hid hs; clear hs
    go_enter Try.func41, Try.ntmps41
    go_wp2_with fail
    refine namec1 ?_
    intro W1 b1 hz hb0
    refine (l01Is_any C A ts n c W1 HN.out (HA.out.below hb0) hl).mono ?_
    rintro e w1 ⟨rfl, hB1⟩
    rw [HS.out]
    have HB := Lib.hid (below_to hb0 hB1); clear hb0 hB1 hz b1
    go_wp2_with fail
    go_ret3
    exact HBAD.out _ _ (by simp [wordsR, HS.out]) HB.out
  · have h16 := (isS_iff.1 hs).2.1
    have HS := Lib.hid hs; clear hs
    cases hr : rowB ts row
    · have HR := Lib.hid hr; clear hr
      go_enter Try.func41, Try.ntmps41
      go_wp2_with fail
      refine namec1 ?_
      intro W1 b1 hz hb0
      refine (l01Is_any C A ts n c W1 HN.out (HA.out.below hb0) hl).mono ?_
      rintro e w1 ⟨rfl, hB1⟩
      rw [HS.out]
      have b1' := b1.below hB1 b1.lt
      have HB := Lib.hid (below_to hb0 hB1); clear hb0 hB1 hz b1
      have a0 : w1.cell? ⟨w.heap.size, 0, none⟩ = some (.int .i64 C) := b1'.cell rfl
      have a1 : w1.cell? ⟨w.heap.size, 1, none⟩ = some (.slice A n c) := b1'.cell rfl
      go_wp2_with fail
      refine (l02Row_any C A ts n c A' row n' c' w1 HN.out (HA.out.below HB.out) hl HN'.out (HA'.out.below HB.out) hl').mono ?_
      rintro e w2 ⟨rfl, hB2⟩
      rw [HR.out]
      have HB2 := Lib.hid (below_to HB.out hB2); clear hB2 b1' a0 a1
      go_wp2_with fail
      go_ret3
      exact HBAD.out _ _ (by simp [wordsR, HS.out, HR.out]) HB2.out
    · have HR := Lib.hid hr
      obtain ⟨⟨-, h20⟩, hst⟩ := rowB_steps hr
      have HST := Lib.hid hst; clear hr hst
      go_enter Try.func41, Try.ntmps41
      go_wp2_with fail
      refine namec1 ?_
      intro W1 b1 hz hb0
      refine (l01Is_any C A ts n c W1 HN.out (HA.out.below hb0) hl).mono ?_
      rintro e w1 ⟨rfl, hB1⟩
      rw [HS.out]
      have b1' := b1.below hB1 b1.lt
      have HB := Lib.hid (below_to hb0 hB1); clear hb0 hB1 hz b1
      have a0 : w1.cell? ⟨w.heap.size, 0, none⟩ = some (.int .i64 C) := b1'.cell rfl
      have a1 : w1.cell? ⟨w.heap.size, 1, none⟩ = some (.slice A n c) := b1'.cell rfl
      go_wp2_with fail
      refine (l02Row_any C A ts n c A' row n' c' w1 HN.out (HA.out.below HB.out) hl HN'.out (HA'.out.below HB.out) hl').mono ?_
      rintro e w2 ⟨rfl, hB2⟩
      rw [HR.out]
      have b1w := b1'.below hB2 b1'.lt
      have HB2 := Lib.hid (below_to HB.out hB2); clear hB2 b1' a0 a1
      have a0 : w2.cell? ⟨w.heap.size, 0, none⟩ = some (.int .i64 C) := b1w.cell rfl
      have a1 : w2.cell? ⟨w.heap.size, 1, none⟩ = some (.slice A n c) := b1w.cell rfl
      go_wp2_with fail
      refine (l02Words_any C A ts n c A' row n' c' w2 HN.out (HA.out.below HB2.out) (by have := HN.out; omega) HN'.out (HA'.out.below HB2.out) (by have := HN'.out; omega) HST.out).mono ?_
      rintro e w3 ⟨v1, v2, rfl, hO1, hO2, hB3⟩
      have O1 := Lib.hid hO1; have O2 := Lib.hid hO2
      have HB3 := Lib.hid (below_to HB2.out hB3); clear hB3 b1w a0 a1 hO1 hO2
      go_wp2_with fail
      go_ret3
      have hlo := HB2.out.size
      exact ⟨v1, v2, _, _, _, _, _, _, _, by unfold wordsR; rw [if_pos HS.out, if_pos HR.out, ← HN'.out], rfl, O1.out, O2.out, trivial, hlo, hlo, HB3.out⟩

set_option maxHeartbeats 400000 in
theorem words1_any (C : Int) (A : Option Addr) (ts : List T4) (n c : Nat) (A' : Option Addr) (row : List Int) (n' c' : Nat) (B B' : Nat) (w : World) (h0 : w.cell? ⟨B, 0, none⟩ = some (.int .i64 C)) (h1 : w.cell? ⟨B, 1, none⟩ = some (.slice A n c)) (hB : B < w.heap.size) (h2 : w.cell? ⟨B', 0, none⟩ = some (.slice A' n' c')) (hn : n = ts.length) (hA : RT w A ts) (hl : n ≤ 35184372088832) (hn' : n' = row.length) (hA' : RI w A' row) (hl' : n' ≤ 35184372088832) :
    Calls Try.prog 79 #[.pointer (some ⟨B, 0, none⟩), .pointer (some ⟨B', 0, none⟩)] w fun e w' => e = .returned (.bool (rowB ts row)) ∧ Below w.heap.size w w' := by
  have HA := Lib.hid hA; have HN := Lib.hid hn; have HA' := Lib.hid hA'; have HN' := Lib.hid hn'; clear hA hn hA' hn'
  go_enter Try.func79, Try.ntmps79
  go_wp2_with fail
  refine (isRow_any C A ts n c A' row n' c' w HN.out HA.out hl HN'.out HA'.out hl').mono ?_
  rintro e w1 ⟨rfl, hB1⟩
  have HB := Lib.hid hB1; clear hB1
  go_wp2_with fail
  go_ret
  exact ⟨rfl, HB.out⟩

set_option maxHeartbeats 4000000 in
set_option maxRecDepth 100000 in
theorem implWordsOfRow_any (C : Int) (A : Option Addr) (ts : List T4) (n c : Nat) (A' : Option Addr) (row : List Int) (n' c' : Nat) (w : World) (hn : n = ts.length) (hA : RT w A ts) (hnc : n ≤ c) (hl : n ≤ 35184372088832) (hn' : n' = row.length) (hA' : RI w A' row) (hnc' : n' ≤ c') (hl' : n' ≤ 35184372088832) :
    Calls Try.prog 42 #[.agg #[.int .i64 C, .slice A n c], .slice A' n' c'] w fun e w' => ∃ v1 v2 xs ys code l1 h1 l2 h2, wordsR C ts row = (xs, ys, code) ∧ e = .returned (.tuple #[v1, v2, .int .i64 code]) ∧ OW w' l1 h1 2 1 v1 xs.length (icells xs) ∧ OW w' l2 h2 2 1 v2 ys.length (icells ys) ∧ (h1 ≤ l2 ∨ h2 ≤ l1) ∧ w.heap.size ≤ l1 ∧ w.heap.size ≤ l2 ∧ Below w.heap.size w w' := by
  have HA := Lib.hid hA; have HN := Lib.hid hn; have HA' := Lib.hid hA'; have HN' := Lib.hid hn'; clear hA hn hA' hn'
  have hBad : ∀ (w' : World) (code : Int), wordsR C ts row = ([], [], code) → Below w.heap.size w w' → ∃ v1 v2 xs ys code' l1 h1 l2 h2, wordsR C ts row = (xs, ys, code') ∧ Ending.returned (.tuple #[.slice none 0 0, .slice none 0 0, .int .i64 code]) = .returned (.tuple #[v1, v2, .int .i64 code']) ∧ OW w' l1 h1 2 1 v1 xs.length (icells xs) ∧ OW w' l2 h2 2 1 v2 ys.length (icells ys) ∧ (h1 ≤ l2 ∨ h2 ≤ l1) ∧ w.heap.size ≤ l1 ∧ w.heap.size ≤ l2 ∧ Below w.heap.size w w' :=
    fun w' code h hB => ⟨_, _, _, _, _, w.heap.size, w.heap.size, w.heap.size, w.heap.size, h, rfl, OW.nil _ _ _ _ _ hB.size, OW.nil _ _ _ _ _ hB.size, .inl (Nat.le_refl _), Nat.le_refl _, Nat.le_refl _, hB⟩
  have HBAD := Lib.hid hBad; clear hBad
  have hcd := fun W1 (h0 : Below w.heap.size w W1) (b1 : BK W1 w.heap.size #[.int .i64 C, .slice A n c] 30) (b2 : BK W1 (w.heap.size + 1) #[.slice A' n' c'] 37) =>
    setCode_any C A ts n c 79 #[.pointer (some ⟨w.heap.size, 0, none⟩), .pointer (some ⟨w.heap.size + 1, 0, none⟩)] (rowB ts row) W1 HN.out (HA.out.below h0) hl (enters_of Try.func79 (by kernel_rfl) rfl)
      (fun _ W hW => words1_any C A ts n c A' row n' c' _ _ W (cell_to hW (b1.cell rfl)) (cell_to hW (b1.cell rfl)) (lt_to hW b1.lt) (cell_to hW (b2.cell rfl)) HN.out ((HA.out.below h0).below hW) hl HN'.out ((HA'.out.below h0).below hW) hl')
  have HCD := Lib.hid hcd; clear hcd
  by_cases hok : isS C ts = true ∧ rowB ts row = true
  · obtain ⟨hs, hr⟩ := hok
    have HR := Lib.hid (show wordsR C ts row = (colL ts 1 row n', colL ts 3 row n', 0) by unfold wordsR; rw [if_pos hs, if_pos hr, ← HN'.out])
    have HC := Lib.hid (show codeOf (isS C ts) (rowB ts row) = 0 by rw [hs, hr]; rfl)
    have h16 := (isS_iff.1 hs).2.1
    obtain ⟨⟨-, h20⟩, hst⟩ := rowB_steps hr
    have g16 : n ≤ 16 := by have := HN.out; omega
    have g20 : n' ≤ 20 := by have := HN'.out; omega
    have HST := Lib.hid hst; clear hs hr hst
    go_enter Try.func42, Try.ntmps42
    go_wp2_with fail
    refine namec2 ?_
    intro W1 b1 b2 hz hb0
    refine (HCD.out W1 hb0 b1 b2).mono ?_
    rintro e w1 ⟨rfl, hB1⟩
    rw [HC.out]
    have b1' := b1.below hB1 b1.lt
    have b2' := b2.below hB1 b2.lt
    have HB := Lib.hid (below_to hb0 hB1); clear hb0 hB1 hz b1 b2
    go_wp2_with fail
    have b1w := b1'.below (Below.refl _ _).drew b1'.lt
    have b2w := b2'.below (Below.refl _ _).drew b2'.lt
    have HB2 := Lib.hid (below_to HB.out (Below.refl _ _).drew); clear b1' b2'
    have HI2 : Hid (Below w.heap.size w w1.drew) := HB2
    go_region_held3 (fun w_ => w_.cell? ⟨w.heap.size, 0, none⟩ = some (.int .i64 C) ∧ w_.cell? ⟨w.heap.size, 1, none⟩ = some (.slice A n c) ∧ w_.cell? ⟨w.heap.size + 1, 0, none⟩ = some (.slice A' n' c'))
      (first
        | exact ⟨(b1w.below (below_to hBa hBc) b1w.lt).cell rfl, (b1w.below (below_to hBa hBc) b1w.lt).cell rfl, (b2w.below (below_to hBa hBc) b2w.lt).cell rfl⟩
        | exact ⟨(b1w.below hBa b1w.lt).cell rfl, (b1w.below hBa b1w.lt).cell rfl, (b2w.below hBa b2w.lt).cell rfl⟩
        | exact ⟨b1w.cell rfl, b1w.cell rfl, b2w.cell rfl⟩
        | fail)
      (first
        | (have h_ := hBa; go_at_call 80; refine (word_any C A ts n c A' row n' c' _ w3 (by first | exact .inl rfl | exact .inr rfl) HN.out (HA.out.below (below_to HB2.out hBa)) g16 HN'.out (HA'.out.below (below_to HB2.out hBa)) g20 HST.out).mono ?_; rintro e w5 ⟨v2, rfl, hO2, hBc⟩; clear h_)
        | (go_at_call 80; refine (word_any C A ts n c A' row n' c' _ w1.drew (by first | exact .inl rfl | exact .inr rfl) HN.out (HA.out.below HB2.out) g16 HN'.out (HA'.out.below HB2.out) g20 HST.out).mono ?_; rintro e w3 ⟨v1, rfl, hO1, hBa⟩))
    all_goals go_wp2_with fail
    all_goals go_ret3
    all_goals
      have hlo := HB2.out.size
      have hlo3 := (below_to HB2.out hBa).size
    · exact ⟨v1, v2, _, _, _, _, _, _, _, HR.out, rfl, hO1.to hBc, hO2, .inl (Nat.le_refl _), hlo, hlo3, below_to HB2.out (below_to hBa hBc)⟩
  · obtain ⟨code, hcode, hne, hr⟩ : ∃ code, codeOf (isS C ts) (rowB ts row) = code ∧ code ≠ 0 ∧ wordsR C ts row = ([], [], code) := by
      unfold codeOf wordsR
      by_cases h1 : isS C ts = true
      · rw [if_pos h1, if_pos h1, if_neg (fun h => hok ⟨h1, h⟩), if_neg (fun h => hok ⟨h1, h⟩)]; exact ⟨2, rfl, by decide, rfl⟩
      · rw [if_neg h1, if_neg h1]; exact ⟨1, rfl, by decide, rfl⟩
    have hne' : (code != 0) = true := by simpa using hne
    have HCO := Lib.hid hcode; have HR := Lib.hid hr; clear hok hcode hne hr
    go_enter Try.func42, Try.ntmps42
    go_wp2_with fail
    refine namec2 ?_
    intro W1 b1 b2 hz hb0
    refine (HCD.out W1 hb0 b1 b2).mono ?_
    rintro e w1 ⟨rfl, hB1⟩
    rw [HCO.out]
    have HB := Lib.hid (below_to hb0 hB1); clear hb0 hB1 hz b1 b2
    go_wp2_with fail
    go_ret3
    exact HBAD.out _ _ HR.out HB.out
end Go.Proofs.Ytaidmloaoogmoaa

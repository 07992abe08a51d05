/-
  Contracts: rows.
-/
import Derived.Test.YtaidmloaoogmoaaCode
namespace Go.Proofs.Ytaidmloaoogmoaa
open Go Go.RowKit Go.Proofs
set_option linter.unusedVariables false
set_option linter.unusedSimpArgs false

def stepB (ts : List T4) (row : List Int) (k : Nat) : Bool :=
  inB (ik row k) 0 ((ts.length : Int) - 1) && (decide (k = 0) || decide ((tk ts (ik row (k - 1)).toNat).get 2 = (tk ts (ik row k).toNat).get 0))
def rowB (ts : List T4) (row : List Int) : Bool := (decide (1 ≤ row.length) && decide (row.length ≤ 20)) && (List.range row.length).all (stepB ts row)
theorem rowB_len {ts : List T4} {row : List Int} (h : ¬ (1 ≤ row.length ∧ row.length ≤ 20)) : rowB ts row = false := by
  have : (decide (1 ≤ row.length) && decide (row.length ≤ 20)) = false := by
    rw [← Bool.not_eq_true]; simpa using h
  simp [rowB, this]
theorem rowB_bad {ts : List T4} {row : List Int} {k : Nat} (hk : k < row.length) (h : stepB ts row k = false) : rowB ts row = false := by
  have : (List.range row.length).all (stepB ts row) = false := by
    rw [List.all_eq_false]; exact ⟨k, List.mem_range.2 hk, by simp [h]⟩
  simp [rowB, this]
theorem rowB_good {ts : List T4} {row : List Int} (h1 : 1 ≤ row.length) (h2 : row.length ≤ 20) (h : ∀ k, k < row.length → stepB ts row k = true) : rowB ts row = true := by
  have : (List.range row.length).all (stepB ts row) = true := by
    rw [List.all_eq_true]; intro k hk; exact h k (List.mem_range.1 hk)
  simp [rowB, this, h1, h2]
theorem stepB_num {ts : List T4} {row : List Int} {k : Nat} (h : stepB ts row k = true) : ∃ m : Nat, ik row k = (m : Int) ∧ m < ts.length := by
  simp only [stepB, Bool.and_eq_true] at h
  obtain ⟨h1, h2⟩ := inB_iff.1 h.1
  exact ⟨(ik row k).toNat, by omega, by omega⟩
theorem inB_num {ts : List T4} {x : Int} (h : inB x 0 ((ts.length : Int) - 1) = true) : ∃ m : Nat, x = (m : Int) ∧ m < ts.length := by
  obtain ⟨h1, h2⟩ := inB_iff.1 h
  exact ⟨x.toNat, by omega, by omega⟩

set_option maxHeartbeats 400000 in
theorem isNumber_any (C : Int) (A : Option Addr) (n c : Nat) (x : Int) (w : World) (hl : n ≤ 35184372088832) :
    Calls Try.prog 71 #[.agg #[.int .i64 C, .slice A n c], .int .i64 x] w fun e w' => e = .returned (.bool (inB x 0 ((n : Int) - 1))) ∧ Below w.heap.size w w' := by
  go_enter Try.func71, Try.ntmps71
  go_wp2_with fail
  refine namec1 ?_
  intro W1 b1 hz hb0
  refine (within_any _ _ _ _).mono ?_
  rintro e w' ⟨rfl, rfl⟩
  have HB0 := Lib.hid hb0; clear hb0 hz b1
  go_wp2_with fail
  go_ret
  exact ⟨rfl, HB0.out⟩
set_option maxHeartbeats 4000000 in
theorem l02Row_any (C : Int) (A : Option Addr) (ts : List T4) (n c : Nat) (A' : Option Addr) (row : List Int) (n' c' : Nat) (w : World) (hn : n = ts.length) (hA : RT w A ts) (hl : n ≤ 35184372088832) (hn' : n' = row.length) (hA' : RI w A' row) (hl' : n' ≤ 35184372088832) :
    Calls Try.prog 63 #[.agg #[.int .i64 C, .slice A n c], .slice A' n' c'] w fun e w' => e = .returned (.bool (rowB ts row)) ∧ Below w.heap.size w w' := by
  have HA := Lib.hid hA; have HN := Lib.hid hn; have HA' := Lib.hid hA'; have HN' := Lib.hid hn'; clear hA hn hA' hn'
  by_cases hlen : 1 ≤ n' ∧ n' ≤ 20
  · obtain ⟨hl1, hl2⟩ := hlen
    have g1 : ¬ n' < 1 := by omega
    go_enter Try.func63, Try.ntmps63
    go_wp2_with fail
    refine name1 ?_
    intro W1 b1 hz hb0
    have HB0 := Lib.hid hb0; clear hb0 hz
    go_loopw [5] (fun i wr => Below W1.heap.size W1 wr ∧ ∃ k : Nat, k ≤ n' ∧ i = .int .i64 k ∧ ∀ j, j < k → stepB ts row j = true) (fun i _ => n' - (intOf i).toNat)
    case atStart => exact ⟨Below.refl _ _, 0, by omega, rfl, fun j h => absurd h (by omega)⟩
    case round =>
      obtain ⟨hB, k, hk, rfl, hall⟩ := hrel
      have b1' := b1.below hB b1.lt
      have HE := Lib.hid (below_to HB0.out hB)
      have HB := Lib.hid hB; have HALL := Lib.hid hall; clear hB hall
      have a1 : wr.cell? ⟨w.heap.size, 1, none⟩ = some (.slice A n c) := b1'.cell rfl
      have l1 := b1'.lt
      by_cases hlt : k < n'
      · have i1 : (k : Int) < n' := by omega
        have HK := Lib.hid (show k < row.length by have := HN'.out; omega)
        obtain ⟨br, orr, rfl, hbr, hr0⟩ := (HA'.out.below HE.out) k HK.out
        cases hin : inB (ik row k) 0 ((n : Int) - 1)
        · have HI := Lib.hid hin; clear hin
          go_wp2_with fail
          refine wp_region_gro (by kernel_rfl) (by kernel_rfl) ?_
          repeat (first | go_big_quiet_step (((go_at_call 60; exact quiet_call0 (by have h := l01In_any (ik row k) 0 ((n : Int) - 1) (gro wr ‹GP›); rw [HI.out] at h; exact h)))) | quiet_step (((go_at_call 60; exact quiet_call0 (by have h := l01In_any (ik row k) 0 ((n : Int) - 1) (gro wr ‹GP›); rw [HI.out] at h; exact h)))))
          refine wpQuiet_nil ?_
          intro w1 hB1
          have HB1 := Lib.hid (below_to HE.out hB1); clear hB1
          go_wp2_with fail
          go_ret
          exact ⟨ret_bool (rowB_bad HK.out (by simp only [stepB]; rw [← HN.out, HI.out, Bool.false_and])).symm, HB1.out⟩
        · have HI := Lib.hid hin
          obtain ⟨m, hm, hmlt⟩ := inB_num (ts := ts) (by rw [← HN.out]; exact hin)
          clear hin
          have HM := Lib.hid hm
          cases k with
          | zero =>
            simp only [Nat.add_zero] at hr0
            rw [hm] at hr0; clear hm
            go_wp2_with fail
            refine wp_region_gro (by kernel_rfl) (by kernel_rfl) ?_
            repeat (first | go_big_quiet_step (((go_at_call 60; exact quiet_call0 (by have h := l01In_any m 0 ((n : Int) - 1) (gro wr ‹GP›); rw [← HM.out, HI.out] at h; rw [← HM.out]; exact h)))) | quiet_step (((go_at_call 60; exact quiet_call0 (by have h := l01In_any m 0 ((n : Int) - 1) (gro wr ‹GP›); rw [← HM.out, HI.out] at h; rw [← HM.out]; exact h)))))
            refine wpQuiet_nil ?_
            intro w1 hB1
            have a1' := cell_to hB1 a1
            have l1' := lt_to hB1 l1
            have HB1 := Lib.hid (below_to HB.out hB1); clear hB1 a1 l1
            go_wp2_with fail
            refine wp_region_gro (by kernel_rfl) (by kernel_rfl) ?_
            repeat (first | go_big_quiet_step (fail) | quiet_step (fail))
            refine wpQuiet_nil ?_
            intro w2 hB2
            have HB2 := Lib.hid (below_to HB1.out hB2); clear hB2
            go_wp2_with fail
            go_roundw
            case rel => exact ⟨HB2.out, 0 + 1, by omega, by go_num, fun j hj => by
                obtain rfl : j = 0 := by omega
                simp only [stepB]; rw [← HN.out, HI.out]; simp⟩
            case measure => simp [intOf]; omega
          | succ k =>
            obtain ⟨br', orr', hAr, hbr', hr1⟩ := (HA'.out.below HE.out) k (by have := HK.out; omega)
            obtain ⟨rfl, rfl⟩ : br = br' ∧ orr = orr' := by injection hAr with e; injection e with e1 e2; exact ⟨e1, e2⟩
            clear hAr hbr'
            obtain ⟨p, hp, hplt⟩ := stepB_num (HALL.out k (by omega))
            have HP := Lib.hid hp
            obtain ⟨b, o, hA', hb, hcp, hcm⟩ := (HA.out.below HE.out).cell2 hplt hmlt
            subst hA'
            have cp := hcp 2 (by omega); have cm := hcm 0 (by omega)
            simp only [Nat.add_zero] at cm
            clear hcp hcm
            rw [hm] at hr0; rw [hp] at hr1
            clear hm hp
            have i0 : (k : Int) < n' := by omega
            have im : (m : Int) < n := by have := HN.out; omega
            have ip : (p : Int) < n := by have := HN.out; omega
            by_cases he : (tk ts p).get 2 = (tk ts m).get 0
            · have HQ := Lib.hid he; clear he
              have he' : ((tk ts p).get 2 != (tk ts m).get 0) = false := by simp [HQ.out]
              go_wp2_with fail
              refine wp_region_gro (by kernel_rfl) (by kernel_rfl) ?_
              repeat (first | go_big_quiet_step (((go_at_call 60; exact quiet_call0 (by have h := l01In_any m 0 ((n : Int) - 1) (gro wr ‹GP›); rw [← HM.out, HI.out] at h; rw [← HM.out]; exact h)))) | quiet_step (((go_at_call 60; exact quiet_call0 (by have h := l01In_any m 0 ((n : Int) - 1) (gro wr ‹GP›); rw [← HM.out, HI.out] at h; rw [← HM.out]; exact h)))))
              refine wpQuiet_nil ?_
              intro w1 hB1
              have a1' := cell_to hB1 a1; have l1' := lt_to hB1 l1; have hr0' := cell_to hB1 hr0; have hr1' := cell_to hB1 hr1; have cp' := cell_to hB1 cp; have cm' := cell_to hB1 cm; have hb' := lt_to hB1 hb; have hbr' := lt_to hB1 hbr
              have HB1 := Lib.hid (below_to HB.out hB1); clear hB1 a1 l1 hr0 hr1 cp cm hb hbr
              go_wp2_with fail
              refine wp_region_gro (by kernel_rfl) (by kernel_rfl) ?_
              repeat (first | go_big_quiet_step (fail) | quiet_step (fail))
              refine wpQuiet_nil ?_
              intro w2 hB2
              have HB2 := Lib.hid (below_to HB1.out hB2); clear hB2
              go_wp2_with fail
              go_roundw
              case rel => exact ⟨HB2.out, k + 1 + 1, by omega, by go_num, fun j hj => by
                  by_cases e : j = k + 1
                  · subst e
                    simp only [stepB, Nat.add_sub_cancel]; rw [← HN.out, HI.out, HM.out, HP.out]; simp [HQ.out]
                  · exact HALL.out j (by omega)⟩
              case measure => simp [intOf]; omega
            · have HQ := Lib.hid he; clear he
              have he' : ((tk ts p).get 2 != (tk ts m).get 0) = true := by simpa using HQ.out
              go_wp2_with fail
              refine wp_region_gro (by kernel_rfl) (by kernel_rfl) ?_
              repeat (first | go_big_quiet_step (((go_at_call 60; exact quiet_call0 (by have h := l01In_any m 0 ((n : Int) - 1) (gro wr ‹GP›); rw [← HM.out, HI.out] at h; rw [← HM.out]; exact h)))) | quiet_step (((go_at_call 60; exact quiet_call0 (by have h := l01In_any m 0 ((n : Int) - 1) (gro wr ‹GP›); rw [← HM.out, HI.out] at h; rw [← HM.out]; exact h)))))
              refine wpQuiet_nil ?_
              intro w1 hB1
              have a1' := cell_to hB1 a1; have l1' := lt_to hB1 l1; have hr0' := cell_to hB1 hr0; have hr1' := cell_to hB1 hr1; have cp' := cell_to hB1 cp; have cm' := cell_to hB1 cm; have hb' := lt_to hB1 hb; have hbr' := lt_to hB1 hbr
              have HB1 := Lib.hid (below_to HE.out hB1); clear hB1 a1 l1 hr0 hr1 cp cm hb hbr
              go_wp2_with fail
              refine wp_region_gro (by kernel_rfl) (by kernel_rfl) ?_
              repeat (first | go_big_quiet_step (fail) | quiet_step (fail))
              refine wpQuiet_nil ?_
              intro w2 hB2
              have HB2 := Lib.hid (below_to HB1.out hB2); clear hB2
              go_wp2_with fail
              go_ret
              exact ⟨ret_bool (rowB_bad HK.out (by simp only [stepB, Nat.add_sub_cancel]; rw [HM.out, HP.out]; simp [HQ.out])).symm, HB2.out⟩
      · go_wp2_with fail
        go_ret
        exact ⟨ret_bool (rowB_good (by have := HN'.out; omega) (by have := HN'.out; omega) fun j hj => HALL.out j (by have := HN'.out; omega)).symm, HE.out⟩
  · have HF := Lib.hid (rowB_len (ts := ts) (row := row) (by rw [← HN'.out]; exact hlen))
    by_cases h1 : n' < 1
    · clear hlen
      go_enter Try.func63, Try.ntmps63
      go_wp2_with fail
      go_ret
      exact ⟨ret_bool HF.out.symm, by simpa using (Below.refl _ _).alloc (Nat.le_refl _) _⟩
    · have h2 : (20 : Int) < n' := by omega
      clear hlen
      go_enter Try.func63, Try.ntmps63
      go_wp2_with fail
      go_ret
      exact ⟨ret_bool HF.out.symm, by simpa using (Below.refl _ _).alloc (Nat.le_refl _) _⟩

set_option maxHeartbeats 4000000 in
theorem isRow_any (C : Int) (A : Option Addr) (ts : List T4) (n c : Nat) (A' : Option Addr) (row : List Int) (n' c' : Nat) (w : World) (hn : n = ts.length) (hA : RT w A ts) (hl : n ≤ 35184372088832) (hn' : n' = row.length) (hA' : RI w A' row) (hl' : n' ≤ 35184372088832) :
    Calls Try.prog 64 #[.agg #[.int .i64 C, .slice A n c], .slice A' n' c'] w fun e w' => e = .returned (.bool (rowB ts row)) ∧ Below w.heap.size w w' := by
  have HA := Lib.hid hA; have HN := Lib.hid hn; have HA' := Lib.hid hA'; have HN' := Lib.hid hn'; clear hA hn hA' hn'
  go_enter Try.func64, Try.ntmps64
  go_wp2_with fail
  refine name1 ?_
  intro W1 b1 hz hb0
  have HB0 := Lib.hid hb0; clear hb0 hz
  go_loopw [9] (fun i wr => Below W1.heap.size W1 wr ∧ ∃ k : Nat, k ≤ n' ∧ i = .int .i64 k ∧ ∀ j, j < k → stepB ts row j = true) (fun i _ => n' - (intOf i).toNat)
  case atStart => exact ⟨Below.refl _ _, 0, by omega, rfl, fun j h => absurd h (by omega)⟩
  case round =>
    obtain ⟨hB, k, hk, rfl, hall⟩ := hrel
    have b1' := b1.below hB b1.lt
    have HE := Lib.hid (below_to HB0.out hB)
    have HB := Lib.hid hB; have HALL := Lib.hid hall; clear hB hall
    have a0 : wr.cell? ⟨w.heap.size, 0, none⟩ = some (.int .i64 C) := b1'.cell rfl
    have a1 : wr.cell? ⟨w.heap.size, 1, none⟩ = some (.slice A n c) := b1'.cell rfl
    have l1 := b1'.lt
    by_cases hlt : k < n'
    · have i1 : (k : Int) < n' := by omega
      have HK := Lib.hid (show k < row.length by have := HN'.out; omega)
      obtain ⟨br, orr, rfl, hbr, hr0⟩ := (HA'.out.below HE.out) k HK.out
      cases hin : inB (ik row k) 0 ((n : Int) - 1)
      · have HI := Lib.hid hin; clear hin
        go_wp2_with fail
        refine wp_region_gro (by kernel_rfl) (by kernel_rfl) ?_
        repeat (first | go_big_quiet_step (((go_at_call 71; exact quiet_call (by have h := isNumber_any C A n c (ik row k) (gro wr ‹GP›) hl; rw [HI.out] at h; exact h)))) | quiet_step (((go_at_call 71; exact quiet_call (by have h := isNumber_any C A n c (ik row k) (gro wr ‹GP›) hl; rw [HI.out] at h; exact h)))))
        refine wpQuiet_nil ?_
        intro w1 hB1
        have HB1 := Lib.hid (below_to HE.out hB1); clear hB1
        go_wp2_with fail
        go_ret
        exact ⟨ret_bool (rowB_bad HK.out (by simp only [stepB]; rw [← HN.out, HI.out, Bool.false_and])).symm, HB1.out⟩
      · have HI := Lib.hid hin
        obtain ⟨m, hm, hmlt⟩ := inB_num (ts := ts) (by rw [← HN.out]; exact hin)
        clear hin
        have HM := Lib.hid hm
        cases k with
        | zero =>
          simp only [Nat.add_zero] at hr0
          rw [hm] at hr0; clear hm
          go_wp2_with fail
          refine wp_region_gro (by kernel_rfl) (by kernel_rfl) ?_
          repeat (first | go_big_quiet_step (((go_at_call 71; exact quiet_call (by have h := isNumber_any C A n c m (gro wr ‹GP›) hl; rw [← HM.out, HI.out] at h; rw [← HM.out]; exact h)))) | quiet_step (((go_at_call 71; exact quiet_call (by have h := isNumber_any C A n c m (gro wr ‹GP›) hl; rw [← HM.out, HI.out] at h; rw [← HM.out]; exact h)))))
          refine wpQuiet_nil ?_
          intro w1 hB1
          have HB1 := Lib.hid (below_to HB.out hB1); clear hB1 a1 l1
          go_wp2_with fail
          go_roundw
          case rel => exact ⟨HB1.out, 0 + 1, by omega, by go_num, fun j hj => by
              obtain rfl : j = 0 := by omega
              simp only [stepB]; rw [← HN.out, HI.out]; simp⟩
          case measure => simp [intOf]; omega
        | succ k =>
          obtain ⟨br', orr', hAr, hbr', hr1⟩ := (HA'.out.below HE.out) k (by have := HK.out; omega)
          obtain ⟨rfl, rfl⟩ : br = br' ∧ orr = orr' := by injection hAr with e; injection e with e1 e2; exact ⟨e1, e2⟩
          clear hAr hbr'
          obtain ⟨p, hp, hplt⟩ := stepB_num (HALL.out k (by omega))
          have HP := Lib.hid hp
          obtain ⟨b, o, hA', hb, hcp, hcm⟩ := (HA.out.below HE.out).cell2 hplt hmlt
          subst hA'
          have cp := hcp 2 (by omega); have cm := hcm 0 (by omega)
          simp only [Nat.add_zero] at cm
          clear hcp hcm
          rw [hm] at hr0; rw [hp] at hr1
          clear hm hp
          have i0 : (k : Int) < n' := by omega
          have im : (m : Int) < n := by have := HN.out; omega
          have ip : (p : Int) < n := by have := HN.out; omega
          by_cases he : (tk ts p).get 2 = (tk ts m).get 0
          · have HQ := Lib.hid he; clear he
            have he' : ((tk ts p).get 2 != (tk ts m).get 0) = false := by simp [HQ.out]
            go_wp2_with fail
            refine wp_region_gro (by kernel_rfl) (by kernel_rfl) ?_
            repeat (first | go_big_quiet_step (((go_at_call 71; exact quiet_call (by have h := isNumber_any C (some ⟨b, o, none⟩) n c m (gro wr ‹GP›) hl; rw [← HM.out, HI.out] at h; rw [← HM.out]; exact h)))) | quiet_step (((go_at_call 71; exact quiet_call (by have h := isNumber_any C (some ⟨b, o, none⟩) n c m (gro wr ‹GP›) hl; rw [← HM.out, HI.out] at h; rw [← HM.out]; exact h)))))
            refine wpQuiet_nil ?_
            intro w1 hB1
            have HB1 := Lib.hid (below_to HB.out hB1); clear hB1
            go_wp2_with fail
            go_roundw
            case rel => exact ⟨HB1.out, k + 1 + 1, by omega, by go_num, fun j hj => by
                by_cases e : j = k + 1
                · subst e
                  simp only [stepB, Nat.add_sub_cancel]; rw [← HN.out, HI.out, HM.out, HP.out]; simp [HQ.out]
                · exact HALL.out j (by omega)⟩
            case measure => simp [intOf]; omega
          · have HQ := Lib.hid he; clear he
            have he' : ((tk ts p).get 2 != (tk ts m).get 0) = true := by simpa using HQ.out
            go_wp2_with fail
            refine wp_region_gro (by kernel_rfl) (by kernel_rfl) ?_
            repeat (first | go_big_quiet_step (((go_at_call 71; exact quiet_call (by have h := isNumber_any C (some ⟨b, o, none⟩) n c m (gro wr ‹GP›) hl; rw [← HM.out, HI.out] at h; rw [← HM.out]; exact h)))) | quiet_step (((go_at_call 71; exact quiet_call (by have h := isNumber_any C (some ⟨b, o, none⟩) n c m (gro wr ‹GP›) hl; rw [← HM.out, HI.out] at h; rw [← HM.out]; exact h)))))
            refine wpQuiet_nil ?_
            intro w1 hB1
            have HB1 := Lib.hid (below_to HE.out hB1); clear hB1
            go_wp2_with fail
            go_ret
            exact ⟨ret_bool (rowB_bad HK.out (by simp only [stepB, Nat.add_sub_cancel]; rw [HM.out, HP.out]; simp [HQ.out])).symm, HB1.out⟩
    · by_cases hlen : 1 ≤ n' ∧ n' ≤ 20
      · obtain ⟨h1, h2⟩ := hlen
        have HF := Lib.hid (rowB_good (ts := ts) (row := row) (by have := HN'.out; omega) (by have := HN'.out; omega) fun j hj => HALL.out j (by have := HN'.out; omega))
        have HG := Lib.hid (show inB (n' : Int) 1 20 = true by rw [inB_iff]; omega)
        go_wp2_with fail
        refine (within_any _ _ _ _).mono ?_
        rintro e w' ⟨rfl, rfl⟩
        rw [HG.out]
        go_wp2_with fail
        go_ret
        exact ⟨ret_bool HF.out.symm, HE.out⟩
      · have HF := Lib.hid (rowB_len (ts := ts) (row := row) (by rw [← HN'.out]; exact hlen))
        have HG := Lib.hid (show inB (n' : Int) 1 20 = false by rw [← Bool.not_eq_true, inB_iff]; omega)
        clear hlen
        go_wp2_with fail
        refine (within_any _ _ _ _).mono ?_
        rintro e w' ⟨rfl, rfl⟩
        rw [HG.out]
        go_wp2_with fail
        go_ret
        exact ⟨ret_bool HF.out.symm, HE.out⟩

/-- what IsRow returns -/
def isRowR (C : Int) (ts : List T4) (row : List Int) : Bool × Int := if isS C ts then (rowB ts row, 0) else (false, 1)
set_option maxHeartbeats 1000000 in
theorem specIsRow_any (C : Int) (A : Option Addr) (ts : List T4) (n c : Nat) (A' : Option Addr) (row : List Int) (n' c' : Nat) (w : World) (hn : n = ts.length) (hA : RT w A ts) (hnc : n ≤ c) (hl : n ≤ 35184372088832) (hn' : n' = row.length) (hA' : RI w A' row) (hnc' : n' ≤ c') (hl' : n' ≤ 35184372088832) :
    Calls Try.prog 22 #[.agg #[.int .i64 C, .slice A n c], .slice A' n' c'] w fun e w' => e = .returned (pairV (isRowR C ts row)) ∧ Below w.heap.size w w' := by
  have HA := Lib.hid hA; have HN := Lib.hid hn; have HA' := Lib.hid hA'; have HN' := Lib.hid hn'; clear hA hn hA' hn'
  cases hs : isS C ts
  · have HS := Lib.hid hs; clear hs
    go_enter Try.func22, Try.ntmps22
    go_wp2_with fail
    refine namec1 ?_
    intro W1 b1 hz hb0
    refine (l01Is_any C A ts n c W1 HN.out (HA.out.below hb0) hl).mono ?_
    rintro e w1 ⟨rfl, hB1⟩
    rw [HS.out]
    have HB := Lib.hid (below_to hb0 hB1); clear hb0 hB1 hz b1
    go_wp2_with fail
    go_ret2
    exact ⟨ret_pair (by simp [isRowR, HS.out]), HB.out⟩
  · have HS := Lib.hid hs; clear hs
    go_enter Try.func22, Try.ntmps22
    go_wp2_with fail
    refine namec1 ?_
    intro W1 b1 hz hb0
    refine (l01Is_any C A ts n c W1 HN.out (HA.out.below hb0) hl).mono ?_
    rintro e w1 ⟨rfl, hB1⟩
    rw [HS.out]
    have b1' := b1.below hB1 b1.lt
    have HB := Lib.hid (below_to hb0 hB1); clear hb0 hB1 hz b1
    have a0 : w1.cell? ⟨w.heap.size, 0, none⟩ = some (.int .i64 C) := b1'.cell rfl
    have a1 : w1.cell? ⟨w.heap.size, 1, none⟩ = some (.slice A n c) := b1'.cell rfl
    go_wp2_with fail
    refine (l02Row_any C A ts n c A' row n' c' w1 HN.out (HA.out.below HB.out) hl HN'.out (HA'.out.below HB.out) hl').mono ?_
    rintro e w2 ⟨rfl, hB2⟩
    have HB2 := Lib.hid (below_to HB.out hB2); clear hB2
    generalize hrb : rowB ts row = rb
    have HRB := Lib.hid hrb; clear hrb
    go_wp2_with fail
    go_ret2
    exact ⟨ret_pair (by simp [isRowR, HS.out, HRB.out]), HB2.out⟩
set_option maxHeartbeats 1000000 in
theorem implIsRow_any (C : Int) (A : Option Addr) (ts : List T4) (n c : Nat) (A' : Option Addr) (row : List Int) (n' c' : Nat) (w : World) (hn : n = ts.length) (hA : RT w A ts) (hnc : n ≤ c) (hl : n ≤ 35184372088832) (hn' : n' = row.length) (hA' : RI w A' row) (hnc' : n' ≤ c') (hl' : n' ≤ 35184372088832) :
    Calls Try.prog 24 #[.agg #[.int .i64 C, .slice A n c], .slice A' n' c'] w fun e w' => e = .returned (pairV (isRowR C ts row)) ∧ Below w.heap.size w w' := by
  have HA := Lib.hid hA; have HN := Lib.hid hn; have HA' := Lib.hid hA'; have HN' := Lib.hid hn'; clear hA hn hA' hn'
  cases hs : isS C ts
  · have HS := Lib.hid hs; clear hs
    go_enter Try.func24, Try.ntmps24
    go_wp2_with fail
    refine namec1 ?_
    intro W1 b1 hz hb0
    refine (IsSet_any C A ts n c W1 HN.out (HA.out.below hb0) hl).mono ?_
    rintro e w1 ⟨rfl, hB1⟩
    rw [HS.out]
    have HB := Lib.hid (below_to hb0 hB1); clear hb0 hB1 hz b1
    go_wp2_with fail
    go_ret2
    exact ⟨ret_pair (by simp [isRowR, HS.out]), HB.out⟩
  · have HS := Lib.hid hs; clear hs
    go_enter Try.func24, Try.ntmps24
    go_wp2_with fail
    refine namec1 ?_
    intro W1 b1 hz hb0
    refine (IsSet_any C A ts n c W1 HN.out (HA.out.below hb0) hl).mono ?_
    rintro e w1 ⟨rfl, hB1⟩
    rw [HS.out]
    have b1' := b1.below hB1 b1.lt
    have HB := Lib.hid (below_to hb0 hB1); clear hb0 hB1 hz b1
    have a0 : w1.cell? ⟨w.heap.size, 0, none⟩ = some (.int .i64 C) := b1'.cell rfl
    have a1 : w1.cell? ⟨w.heap.size, 1, none⟩ = some (.slice A n c) := b1'.cell rfl
    go_wp2_with fail
    refine (isRow_any C A ts n c A' row n' c' w1 HN.out (HA.out.below HB.out) hl HN'.out (HA'.out.below HB.out) hl').mono ?_
    rintro e w2 ⟨rfl, hB2⟩
    have HB2 := Lib.hid (below_to HB.out hB2); clear hB2
    generalize hrb : rowB ts row = rb
    have HRB := Lib.hid hrb; clear hrb
    go_wp2_with fail
    go_ret2
    exact ⟨ret_pair (by simp [isRowR, HS.out, HRB.out]), HB2.out⟩
end Go.Proofs.Ytaidmloaoogmoaa

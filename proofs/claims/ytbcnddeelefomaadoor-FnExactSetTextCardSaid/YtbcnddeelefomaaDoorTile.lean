/-
  Contracts of the functions on one tile, on ranges of numbers, on comparisons.
-/
import Derived.Test.YtbcnddeelefomaaDoorProg
import Derived.Test.YtbcnddeelefomaaDoorBase
namespace Go.Proofs.YtbcnddeelefomaaDoor
open Go Go.RowKit Go.Proofs
set_option linter.unusedVariables false
set_option linter.unusedSimpArgs false

set_option maxHeartbeats 400000 in
theorem l01In_any (n lo hi : Int) (w : World) :
    Calls Tryd.prog 30 #[.int .i64 n, .int .i64 lo, .int .i64 hi] w fun e w' => e = .returned (.bool (inB n lo hi)) ∧ w = w' := by
  go_enter Tryd.func30, Tryd.ntmps30
  go_wp2
  all_goals (go_ret; exact ⟨ret_bool (by simp [inB, *] <;> omega), rfl⟩)
set_option maxHeartbeats 400000 in
theorem within_any (n lo hi : Int) (w : World) :
    Calls Tryd.prog 37 #[.int .i64 n, .int .i64 lo, .int .i64 hi] w fun e w' => e = .returned (.bool (inB n lo hi)) ∧ w = w' := by
  go_enter Tryd.func37, Tryd.ntmps37
  go_wp2
  all_goals (go_ret; exact ⟨ret_bool (by simp [inB, *] <;> omega), rfl⟩)

set_option maxHeartbeats 400000 in
theorem l01Tile_any (n : Int) (t : T4) (w : World) :
    Calls Tryd.prog 31 #[.int .i64 n, .agg t.arr] w fun e w' => e = .returned (.bool (tileB t (wrap64 (n-1)))) ∧ Below w.heap.size w w' := by
  go_enter Tryd.func31, Tryd.ntmps31
  go_wp2
  go_loop [5] (fun i => ∃ k : Nat, k ≤ 4 ∧ i = .int .i64 k ∧ ∀ j, j < k → inB (t.get j) 0 (wrap64 (n-1)) = true) (fun i => 4 - (intOf i).toNat)
  case atStart => exact ⟨0, by omega, rfl, fun j h => by omega⟩
  case round =>
    obtain ⟨k, hk, rfl, hall⟩ := hrel
    have HA := Lib.hid hall
    clear hall
    by_cases hlt : k < 4
    · have hcell := t.cell k hlt
      cases hb : inB (t.get k) 0 (wrap64 (n-1))
      · have HB := Lib.hid hb; clear hb
        go_wp2_with (go_at_call 30; refine (l01In_any _ _ _ _).mono ?_; rintro e w' ⟨rfl, rfl⟩; rw [HB.out])
        go_ret
        exact ⟨ret_bool (tileB_false hlt HB.out), by simpa using (Below.refl _ _).alloc (Nat.le_refl _) _⟩
      · have HB := Lib.hid hb; clear hb
        go_wp2_with (go_at_call 30; refine (l01In_any _ _ _ _).mono ?_; rintro e w' ⟨rfl, rfl⟩; rw [HB.out])
        go_round
        case rel => exact ⟨k + 1, by omega, by go_num, fun j hj => by
          by_cases e : j = k
          · subst e; exact HB.out
          · exact HA.out j (by omega)⟩
        case measure => simp [intOf]; omega
    · go_wp2
      go_ret
      exact ⟨ret_bool (tileB_true hk hlt HA.out), by simpa using (Below.refl _ _).alloc (Nat.le_refl _) _⟩

set_option maxHeartbeats 400000 in
theorem l01Before_any (t u : T4) (w : World) :
    Calls Tryd.prog 32 #[.agg t.arr, .agg u.arr] w fun e w' => e = .returned (.bool (ltT t u)) ∧ Below w.heap.size w w' := by
  go_enter Tryd.func32, Tryd.ntmps32
  go_wp2
  refine name2 ?_
  intro W1 b1 b2 hz hb0
  have HB0 := Lib.hid hb0; have HZ := Lib.hid hz; clear hb0 hz
  go_loopw [5] (fun i wr => Below W1.heap.size W1 wr ∧ ∃ k : Nat, k ≤ 4 ∧ i = .int .i64 k ∧ ∀ j, j < k → t.get j = u.get j) (fun i _ => 4 - (intOf i).toNat)
  case atStart => exact ⟨Below.refl _ _, 0, by omega, rfl, fun j h => by omega⟩
  case round =>
    obtain ⟨hB, k, hk, rfl, hall⟩ := hrel
    have HB := Lib.hid hB; have HA := Lib.hid hall; clear hB hall
    have HE := Lib.hid (HB0.out.trans (HB.out.mono (by rw [HZ.out]; omega)))
    by_cases hlt : k < 4
    · have hI : (k : Int) < 4 := by omega
      have c1 := (b1.below HB.out b1.lt).cell (t.cell k hlt)
      have c2 := (b2.below HB.out b2.lt).cell (u.cell k hlt)
      have l1 := (b1.below HB.out b1.lt).lt
      have l2 := (b2.below HB.out b2.lt).lt
      by_cases hne : t.get k = u.get k
      · have HN := Lib.hid hne; clear hne
        have hn' : (t.get k != u.get k) = false := by simp [HN.out]
        go_wp2
        refine wp_region_gro (by kernel_rfl) (by kernel_rfl) ?_
        repeat (first | go_big_quiet_step (fail) | quiet_step (fail))
        refine wpQuiet_nil ?_
        intro w1 hB1
        have HB1 := Lib.hid hB1; clear hB1
        go_wp2
        go_roundw
        case rel => exact ⟨HB.out.trans (HB1.out.mono HB.out.size), k + 1, by omega, by go_num, fun j hj => by
            by_cases e : j = k
            · subst e; exact HN.out
            · exact HA.out j (by omega)⟩
        case measure => simp [intOf]; omega
      · have HN := Lib.hid hne; clear hne
        have hn' : (t.get k != u.get k) = true := by simpa using HN.out
        go_wp2
        refine wp_region_gro (by kernel_rfl) (by kernel_rfl) ?_
        repeat (first | go_big_quiet_step (fail) | quiet_step (fail))
        refine wpQuiet_nil ?_
        intro w1 hB1
        have c1' := cell_to hB1 c1
        have c2' := cell_to hB1 c2
        have l1' := lt_to hB1 l1
        have l2' := lt_to hB1 l2
        have HB1 := Lib.hid hB1; clear hB1
        go_wp2
        refine wp_region_gro (by kernel_rfl) (by kernel_rfl) ?_
        repeat (first | go_big_quiet_step (fail) | quiet_step (fail))
        refine wpQuiet_nil ?_
        intro w2 hB2
        have HB2 := Lib.hid hB2; clear hB2
        go_wp2
        go_ret
        exact ⟨ret_bool (ltT_at hlt HA.out HN.out), HE.out.trans ((HB1.out.trans (HB2.out.mono HB1.out.size)).mono HE.out.size)⟩
    · go_wp2
      go_ret
      exact ⟨ret_bool (by rw [eq_of_get hk hlt HA.out, ltT_self]), HE.out⟩

set_option maxHeartbeats 400000 in
theorem eqTile_any (t u : T4) (w : World) :
    Calls Tryd.prog 41 #[.agg t.arr, .agg u.arr] w fun e w' => e = .returned (.bool (decide (t = u))) ∧ Below w.heap.size w w' := by
  go_enter Tryd.func41, Tryd.ntmps41
  go_wp2
  refine name2 ?_
  intro W1 b1 b2 hz hb0
  have HB0 := Lib.hid hb0; have HZ := Lib.hid hz; clear hb0 hz
  go_loopw [5] (fun i wr => Below W1.heap.size W1 wr ∧ ∃ k : Nat, k ≤ 4 ∧ i = .int .i64 k ∧ ∀ j, j < k → t.get j = u.get j) (fun i _ => 4 - (intOf i).toNat)
  case atStart => exact ⟨Below.refl _ _, 0, by omega, rfl, fun j h => by omega⟩
  case round =>
    obtain ⟨hB, k, hk, rfl, hall⟩ := hrel
    have HB := Lib.hid hB; have HA := Lib.hid hall; clear hB hall
    have HE := Lib.hid (HB0.out.trans (HB.out.mono (by rw [HZ.out]; omega)))
    by_cases hlt : k < 4
    · have hI : (k : Int) < 4 := by omega
      have c1 := (b1.below HB.out b1.lt).cell (t.cell k hlt)
      have c2 := (b2.below HB.out b2.lt).cell (u.cell k hlt)
      have l1 := (b1.below HB.out b1.lt).lt
      have l2 := (b2.below HB.out b2.lt).lt
      by_cases hne : t.get k = u.get k
      · have HN := Lib.hid hne; clear hne
        have hn' : (t.get k != u.get k) = false := by simp [HN.out]
        go_wp2
        refine wp_region_gro (by kernel_rfl) (by kernel_rfl) ?_
        repeat (first | go_big_quiet_step (fail) | quiet_step (fail))
        refine wpQuiet_nil ?_
        intro w1 hB1
        have HB1 := Lib.hid hB1; clear hB1
        go_wp2
        go_roundw
        case rel => exact ⟨HB.out.trans (HB1.out.mono HB.out.size), k + 1, by omega, by go_num, fun j hj => by
            by_cases e : j = k
            · subst e; exact HN.out
            · exact HA.out j (by omega)⟩
        case measure => simp [intOf]; omega
      · have HN := Lib.hid hne; clear hne
        have hn' : (t.get k != u.get k) = true := by simpa using HN.out
        go_wp2
        refine wp_region_gro (by kernel_rfl) (by kernel_rfl) ?_
        repeat (first | go_big_quiet_step (fail) | quiet_step (fail))
        refine wpQuiet_nil ?_
        intro w1 hB1
        have HB1 := Lib.hid hB1; clear hB1
        go_wp2
        go_ret
        exact ⟨ret_bool (by have : t ≠ u := fun e => HN.out (by rw [e])
                            simp [this]), HE.out.trans (HB1.out.mono HE.out.size)⟩
    · go_wp2
      go_ret
      exact ⟨ret_bool (by simp [eq_of_get hk hlt HA.out]), HE.out⟩

set_option maxHeartbeats 400000 in
theorem isNaN_any (x : Int) (w : World) : Calls Tryd.prog 73 #[.int .i64 x] w fun e w' => e = .returned (.bool false) ∧ w = w' := by
  have h : (x != x) = false := by simp
  go_enter Tryd.func73, Tryd.ntmps73
  go_wp2
  go_ret
  exact ⟨ret_bool (by simp), rfl⟩
set_option maxHeartbeats 400000 in
theorem cmpCompare_any (x y : Int) (w : World) : Calls Tryd.prog 59 #[.int .i64 x, .int .i64 y] w fun e w' => e = .returned (.int .i64 (cmpI x y)) ∧ w = w' := by
  by_cases h1 : x < y
  · go_enter Tryd.func59, Tryd.ntmps59
    go_wp2_with (go_at_call 73; refine (isNaN_any _ _).mono ?_; rintro e w' ⟨rfl, rfl⟩)
    go_ret
    exact ⟨ret_int (by simp [cmpI, h1]), rfl⟩
  · by_cases h2 : y < x
    · go_enter Tryd.func59, Tryd.ntmps59
      go_wp2_with (go_at_call 73; refine (isNaN_any _ _).mono ?_; rintro e w' ⟨rfl, rfl⟩)
      go_ret
      exact ⟨ret_int (by simp [cmpI, h1, h2]), rfl⟩
    · go_enter Tryd.func59, Tryd.ntmps59
      go_wp2_with (go_at_call 73; refine (isNaN_any _ _).mono ?_; rintro e w' ⟨rfl, rfl⟩)
      go_ret
      exact ⟨ret_int (by unfold cmpI; rw [if_neg (by omega), if_neg (by omega)]), rfl⟩

set_option maxHeartbeats 1000000 in
theorem slicesCompare_any (A A' : Option Addr) (xs ys : List Int) (n m c c' : Nat) (w : World) (hn : n = xs.length) (hm : m = ys.length) (hA : RI w A xs) (hA' : RI w A' ys) (hx : xs.length ≤ 35184372088832) (hy : ys.length ≤ 35184372088832) :
    Calls Tryd.prog 49 #[.slice A n c, .slice A' m c'] w fun e w' => e = .returned (.int .i64 (cmpL xs ys)) ∧ w = w' := by
  subst hn hm
  have HA := Lib.hid hA; have HA' := Lib.hid hA'; clear hA hA'
  go_enter Tryd.func49, Tryd.ntmps49
  go_wp2
  go_loop [11] (fun i => ∃ k : Nat, k ≤ xs.length ∧ k ≤ ys.length ∧ i = .int .i64 k ∧ ∀ j, j < k → ik xs j = ik ys j) (fun i => xs.length - (intOf i).toNat)
  case atStart => exact ⟨0, by omega, by omega, rfl, fun j h => by omega⟩
  case round =>
    obtain ⟨k, hk, hk', rfl, hall⟩ := hrel
    have HALL := Lib.hid hall
    clear hall
    by_cases hlt : k < xs.length
    · obtain ⟨b, o, rfl, hb, h0⟩ := HA.out k hlt
      by_cases hlt' : k < ys.length
      · obtain ⟨b', o', rfl, hb', h0'⟩ := HA'.out k hlt'
        by_cases hc : cmpI (ik xs k) (ik ys k) = 0
        · have HC := Lib.hid hc; clear hc
          go_wp2_with (go_at_call 59; refine (cmpCompare_any _ _ _).mono ?_; rintro e w' ⟨rfl, rfl⟩; rw [HC.out])
          go_round
          case rel => exact ⟨k + 1, by omega, by omega, by go_num, fun j hj => by
            by_cases e : j = k
            · subst e; exact cmpI_zero HC.out
            · exact HALL.out j (by omega)⟩
          case measure => simp [intOf]; omega
        · have HC := Lib.hid hc; clear hc
          have hc1 : (cmpI (ik xs k) (ik ys k) != 0) = true := by simpa using HC.out
          go_wp2_with (go_at_call 59; refine (cmpCompare_any _ _ _).mono ?_; rintro e w' ⟨rfl, rfl⟩)
          go_ret
          exact ⟨ret_int (cmpL_at hlt hlt' HALL.out HC.out), rfl⟩
      · go_wp2
        go_ret
        exact ⟨ret_int (cmpL_more (by omega) fun j hj => HALL.out j (by omega)), rfl⟩
    · by_cases hlt' : xs.length < ys.length
      · go_wp2
        go_ret
        exact ⟨ret_int (by rw [← cmpL_end (by omega) fun j hj => HALL.out j (by omega), if_pos hlt']), rfl⟩
      · go_wp2
        go_ret
        exact ⟨ret_int (by rw [← cmpL_end (by omega) fun j hj => HALL.out j (by omega), if_neg hlt']), rfl⟩

theorem tile_reads {w : World} {t : T4} {b : Nat} {E : TypeId} (h : BK w b t.arr E) : RI w (some ⟨b, 0, none⟩) t.list := by
  intro k hk
  refine ⟨b, 0, rfl, h.lt, ?_⟩
  rw [Nat.zero_add]
  refine h.cell ?_
  have hk4 : k < 4 := by simpa [T4.list] using hk
  rw [t.cell k hk4]
  match k, hk4 with
  | 0, _ => rfl
  | 1, _ => rfl
  | 2, _ => rfl
  | 3, _ => rfl
set_option maxHeartbeats 1000000 in
theorem compare_any (t u : T4) (w : World) :
    Calls Tryd.prog 36 #[.agg t.arr, .agg u.arr] w fun e w' => e = .returned (.int .i64 (cmpL t.list u.list)) ∧ Below w.heap.size w w' := by
  go_enter Tryd.func36, Tryd.ntmps36
  go_wp2
  refine name2 ?_
  intro W1 b1 b2 hz hb0
  have HB0 := Lib.hid hb0; have HZ := Lib.hid hz; clear hb0 hz
  refine wp_region_gro (by kernel_rfl) (by kernel_rfl) ?_
  repeat (first | go_big_quiet_step (((go_at_call 49; exact quiet_call0 (slicesCompare_any _ _ t.list u.list _ _ _ _ _ rfl rfl (tile_reads (b1.below (gro_below _ _) b1.lt)) (tile_reads (b2.below (gro_below _ _) b2.lt)) (by simp [T4.list]) (by simp [T4.list]))))) | quiet_step (((go_at_call 49; exact quiet_call0 (slicesCompare_any _ _ t.list u.list _ _ _ _ _ rfl rfl (tile_reads (b1.below (gro_below _ _) b1.lt)) (tile_reads (b2.below (gro_below _ _) b2.lt)) (by simp [T4.list]) (by simp [T4.list]))))))
  refine wpQuiet_nil ?_
  intro w1 hB1
  have HB1 := Lib.hid hB1; clear hB1
  go_wp2
  go_ret
  exact ⟨rfl, below_to HB0.out HB1.out⟩
end Go.Proofs.YtbcnddeelefomaaDoor

/-
  Parts of the proof, in their order: Tile, Law0, IsSet, IsSet2.
-/
import Derived.Test.YtbcnddeelefomaaDoorProg
import Derived.Test.YtbcnddeelefomaaDoorPk3
/-
  Contracts of the functions on one tile, on ranges of numbers, on comparisons.
-/
namespace Go.Proofs.YtbcnddeelefomaaDoor
open Go Go.RowKit Go.Proofs
set_option linter.unusedVariables false
set_option linter.unusedSimpArgs false

set_option maxHeartbeats 400000 in
theorem l01In_any (n lo hi : Int) (w : World) :
    Calls Tryd.prog 30 #[.int .i64 n, .int .i64 lo, .int .i64 hi] w fun e w' => e = .returned (.bool (inB n lo hi)) ∧ w = w' := by
  go_enter Tryd.func30, Tryd.ntmps30
  go_wp2
  all_goals (go_ret; exact ⟨ret_bool (by simp [inB, *] <;> omega), rfl⟩)
set_option maxHeartbeats 400000 in
theorem within_any (n lo hi : Int) (w : World) :
    Calls Tryd.prog 37 #[.int .i64 n, .int .i64 lo, .int .i64 hi] w fun e w' => e = .returned (.bool (inB n lo hi)) ∧ w = w' := by
  go_enter Tryd.func37, Tryd.ntmps37
  go_wp2
  all_goals (go_ret; exact ⟨ret_bool (by simp [inB, *] <;> omega), rfl⟩)

set_option maxHeartbeats 400000 in
theorem l01Tile_any (n : Int) (t : T4) (w : World) :
    Calls Tryd.prog 31 #[.int .i64 n, .agg t.arr] w fun e w' => e = .returned (.bool (tileB t (wrap64 (n-1)))) ∧ Below w.heap.size w w' := by
  go_enter Tryd.func31, Tryd.ntmps31
  go_wp2
  go_loop [5] (fun i => ∃ k : Nat, k ≤ 4 ∧ i = .int .i64 k ∧ ∀ j, j < k → inB (t.get j) 0 (wrap64 (n-1)) = true) (fun i => 4 - (intOf i).toNat)
  case atStart => exact ⟨0, by omega, rfl, fun j h => by omega⟩
  case round =>
    obtain ⟨k, hk, rfl, hall⟩ := hrel
    have HA := Lib.hid hall
    clear hall
    by_cases hlt : k < 4
    · have hcell := t.cell k hlt
      cases hb : inB (t.get k) 0 (wrap64 (n-1))
      · have HB := Lib.hid hb; clear hb
        go_wp2_with (go_at_call 30; refine (l01In_any _ _ _ _).mono ?_; rintro e w' ⟨rfl, rfl⟩; rw [HB.out])
        go_ret
        exact ⟨ret_bool (tileB_false hlt HB.out), by simpa using (Below.refl _ _).alloc (Nat.le_refl _) _⟩
      · have HB := Lib.hid hb; clear hb
        go_wp2_with (go_at_call 30; refine (l01In_any _ _ _ _).mono ?_; rintro e w' ⟨rfl, rfl⟩; rw [HB.out])
        go_round
        case rel => exact ⟨k + 1, by omega, by go_num, fun j hj => by
          by_cases e : j = k
          · subst e; exact HB.out
          · exact HA.out j (by omega)⟩
        case measure => simp [intOf]; omega
    · go_wp2
      go_ret
      exact ⟨ret_bool (tileB_true hk hlt HA.out), by simpa using (Below.refl _ _).alloc (Nat.le_refl _) _⟩

set_option maxHeartbeats 400000 in
theorem l01Before_any (t u : T4) (w : World) :
    Calls Tryd.prog 32 #[.agg t.arr, .agg u.arr] w fun e w' => e = .returned (.bool (ltT t u)) ∧ Below w.heap.size w w' := by
  go_enter Tryd.func32, Tryd.ntmps32
  go_wp2
  refine name2 ?_
  intro W1 b1 b2 hz hb0
  have HB0 := Lib.hid hb0; have HZ := Lib.hid hz; clear hb0 hz
  go_loopw [5] (fun i wr => Below W1.heap.size W1 wr ∧ ∃ k : Nat, k ≤ 4 ∧ i = .int .i64 k ∧ ∀ j, j < k → t.get j = u.get j) (fun i _ => 4 - (intOf i).toNat)
  case atStart => exact ⟨Below.refl _ _, 0, by omega, rfl, fun j h => by omega⟩
  case round =>
    obtain ⟨hB, k, hk, rfl, hall⟩ := hrel
    have HB := Lib.hid hB; have HA := Lib.hid hall; clear hB hall
    have HE := Lib.hid (HB0.out.trans (HB.out.mono (by rw [HZ.out]; omega)))
    by_cases hlt : k < 4
    · have hI : (k : Int) < 4 := by omega
      have c1 := (b1.below HB.out b1.lt).cell (t.cell k hlt)
      have c2 := (b2.below HB.out b2.lt).cell (u.cell k hlt)
      have l1 := (b1.below HB.out b1.lt).lt
      have l2 := (b2.below HB.out b2.lt).lt
      by_cases hne : t.get k = u.get k
      · have HN := Lib.hid hne; clear hne
        have hn' : (t.get k != u.get k) = false := by simp [HN.out]
        go_wp2
        refine wp_region_gro (by kernel_rfl) (by kernel_rfl) ?_
        repeat (first | go_big_quiet_step (fail) | quiet_step (fail))
        refine wpQuiet_nil ?_
        intro w1 hB1
        have HB1 := Lib.hid hB1; clear hB1
        go_wp2
        go_roundw
        case rel => exact ⟨HB.out.trans (HB1.out.mono HB.out.size), k + 1, by omega, by go_num, fun j hj => by
            by_cases e : j = k
            · subst e; exact HN.out
            · exact HA.out j (by omega)⟩
        case measure => simp [intOf]; omega
      · have HN := Lib.hid hne; clear hne
        have hn' : (t.get k != u.get k) = true := by simpa using HN.out
        go_wp2
        refine wp_region_gro (by kernel_rfl) (by kernel_rfl) ?_
        repeat (first | go_big_quiet_step (fail) | quiet_step (fail))
        refine wpQuiet_nil ?_
        intro w1 hB1
        have c1' := cell_to hB1 c1
        have c2' := cell_to hB1 c2
        have l1' := lt_to hB1 l1
        have l2' := lt_to hB1 l2
        have HB1 := Lib.hid hB1; clear hB1
        go_wp2
        refine wp_region_gro (by kernel_rfl) (by kernel_rfl) ?_
        repeat (first | go_big_quiet_step (fail) | quiet_step (fail))
        refine wpQuiet_nil ?_
        intro w2 hB2
        have HB2 := Lib.hid hB2; clear hB2
        go_wp2
        go_ret
        exact ⟨ret_bool (ltT_at hlt HA.out HN.out), HE.out.trans ((HB1.out.trans (HB2.out.mono HB1.out.size)).mono HE.out.size)⟩
    · go_wp2
      go_ret
      exact ⟨ret_bool (by rw [eq_of_get hk hlt HA.out, ltT_self]), HE.out⟩

set_option maxHeartbeats 400000 in
theorem eqTile_any (t u : T4) (w : World) :
    Calls Tryd.prog 41 #[.agg t.arr, .agg u.arr] w fun e w' => e = .returned (.bool (decide (t = u))) ∧ Below w.heap.size w w' := by
  go_enter Tryd.func41, Tryd.ntmps41
  go_wp2
  refine name2 ?_
  intro W1 b1 b2 hz hb0
  have HB0 := Lib.hid hb0; have HZ := Lib.hid hz; clear hb0 hz
  go_loopw [5] (fun i wr => Below W1.heap.size W1 wr ∧ ∃ k : Nat, k ≤ 4 ∧ i = .int .i64 k ∧ ∀ j, j < k → t.get j = u.get j) (fun i _ => 4 - (intOf i).toNat)
  case atStart => exact ⟨Below.refl _ _, 0, by omega, rfl, fun j h => by omega⟩
  case round =>
    obtain ⟨hB, k, hk, rfl, hall⟩ := hrel
    have HB := Lib.hid hB; have HA := Lib.hid hall; clear hB hall
    have HE := Lib.hid (HB0.out.trans (HB.out.mono (by rw [HZ.out]; omega)))
    by_cases hlt : k < 4
    · have hI : (k : Int) < 4 := by omega
      have c1 := (b1.below HB.out b1.lt).cell (t.cell k hlt)
      have c2 := (b2.below HB.out b2.lt).cell (u.cell k hlt)
      have l1 := (b1.below HB.out b1.lt).lt
      have l2 := (b2.below HB.out b2.lt).lt
      by_cases hne : t.get k = u.get k
      · have HN := Lib.hid hne; clear hne
        have hn' : (t.get k != u.get k) = false := by simp [HN.out]
        go_wp2
        refine wp_region_gro (by kernel_rfl) (by kernel_rfl) ?_
        repeat (first | go_big_quiet_step (fail) | quiet_step (fail))
        refine wpQuiet_nil ?_
        intro w1 hB1
        have HB1 := Lib.hid hB1; clear hB1
        go_wp2
        go_roundw
        case rel => exact ⟨HB.out.trans (HB1.out.mono HB.out.size), k + 1, by omega, by go_num, fun j hj => by
            by_cases e : j = k
            · subst e; exact HN.out
            · exact HA.out j (by omega)⟩
        case measure => simp [intOf]; omega
      · have HN := Lib.hid hne; clear hne
        have hn' : (t.get k != u.get k) = true := by simpa using HN.out
        go_wp2
        refine wp_region_gro (by kernel_rfl) (by kernel_rfl) ?_
        repeat (first | go_big_quiet_step (fail) | quiet_step (fail))
        refine wpQuiet_nil ?_
        intro w1 hB1
        have HB1 := Lib.hid hB1; clear hB1
        go_wp2
        go_ret
        exact ⟨ret_bool (by have : t ≠ u := fun e => HN.out (by rw [e])
                            simp [this]), HE.out.trans (HB1.out.mono HE.out.size)⟩
    · go_wp2
      go_ret
      exact ⟨ret_bool (by simp [eq_of_get hk hlt HA.out]), HE.out⟩

set_option maxHeartbeats 400000 in
theorem isNaN_any (x : Int) (w : World) : Calls Tryd.prog 73 #[.int .i64 x] w fun e w' => e = .returned (.bool false) ∧ w = w' := by
  have h : (x != x) = false := by simp
  go_enter Tryd.func73, Tryd.ntmps73
  go_wp2
  go_ret
  exact ⟨ret_bool (by simp), rfl⟩
set_option maxHeartbeats 400000 in
theorem cmpCompare_any (x y : Int) (w : World) : Calls Tryd.prog 59 #[.int .i64 x, .int .i64 y] w fun e w' => e = .returned (.int .i64 (cmpI x y)) ∧ w = w' := by
  by_cases h1 : x < y
  · go_enter Tryd.func59, Tryd.ntmps59
    go_wp2_with (go_at_call 73; refine (isNaN_any _ _).mono ?_; rintro e w' ⟨rfl, rfl⟩)
    go_ret
    exact ⟨ret_int (by simp [cmpI, h1]), rfl⟩
  · by_cases h2 : y < x
    · go_enter Tryd.func59, Tryd.ntmps59
      go_wp2_with (go_at_call 73; refine (isNaN_any _ _).mono ?_; rintro e w' ⟨rfl, rfl⟩)
      go_ret
      exact ⟨ret_int (by simp [cmpI, h1, h2]), rfl⟩
    · go_enter Tryd.func59, Tryd.ntmps59
      go_wp2_with (go_at_call 73; refine (isNaN_any _ _).mono ?_; rintro e w' ⟨rfl, rfl⟩)
      go_ret
      exact ⟨ret_int (by unfold cmpI; rw [if_neg (by omega), if_neg (by omega)]), rfl⟩

set_option maxHeartbeats 1000000 in
theorem slicesCompare_any (A A' : Option Addr) (xs ys : List Int) (n m c c' : Nat) (w : World) (hn : n = xs.length) (hm : m = ys.length) (hA : RI w A xs) (hA' : RI w A' ys) (hx : xs.length ≤ 35184372088832) (hy : ys.length ≤ 35184372088832) :
    Calls Tryd.prog 49 #[.slice A n c, .slice A' m c'] w fun e w' => e = .returned (.int .i64 (cmpL xs ys)) ∧ w = w' := by
  subst hn hm
  have HA := Lib.hid hA; have HA' := Lib.hid hA'; clear hA hA'
  go_enter Tryd.func49, Tryd.ntmps49
  go_wp2
  go_loop [11] (fun i => ∃ k : Nat, k ≤ xs.length ∧ k ≤ ys.length ∧ i = .int .i64 k ∧ ∀ j, j < k → ik xs j = ik ys j) (fun i => xs.length - (intOf i).toNat)
  case atStart => exact ⟨0, by omega, by omega, rfl, fun j h => by omega⟩
  case round =>
    obtain ⟨k, hk, hk', rfl, hall⟩ := hrel
    have HALL := Lib.hid hall
    clear hall
    by_cases hlt : k < xs.length
    · obtain ⟨b, o, rfl, hb, h0⟩ := HA.out k hlt
      by_cases hlt' : k < ys.length
      · obtain ⟨b', o', rfl, hb', h0'⟩ := HA'.out k hlt'
        by_cases hc : cmpI (ik xs k) (ik ys k) = 0
        · have HC := Lib.hid hc; clear hc
          go_wp2_with (go_at_call 59; refine (cmpCompare_any _ _ _).mono ?_; rintro e w' ⟨rfl, rfl⟩; rw [HC.out])
          go_round
          case rel => exact ⟨k + 1, by omega, by omega, by go_num, fun j hj => by
            by_cases e : j = k
            · subst e; exact cmpI_zero HC.out
            · exact HALL.out j (by omega)⟩
          case measure => simp [intOf]; omega
        · have HC := Lib.hid hc; clear hc
          have hc1 : (cmpI (ik xs k) (ik ys k) != 0) = true := by simpa using HC.out
          go_wp2_with (go_at_call 59; refine (cmpCompare_any _ _ _).mono ?_; rintro e w' ⟨rfl, rfl⟩)
          go_ret
          exact ⟨ret_int (cmpL_at hlt hlt' HALL.out HC.out), rfl⟩
      · go_wp2
        go_ret
        exact ⟨ret_int (cmpL_more (by omega) fun j hj => HALL.out j (by omega)), rfl⟩
    · by_cases hlt' : xs.length < ys.length
      · go_wp2
        go_ret
        exact ⟨ret_int (by rw [← cmpL_end (by omega) fun j hj => HALL.out j (by omega), if_pos hlt']), rfl⟩
      · go_wp2
        go_ret
        exact ⟨ret_int (by rw [← cmpL_end (by omega) fun j hj => HALL.out j (by omega), if_neg hlt']), rfl⟩

theorem tile_reads {w : World} {t : T4} {b : Nat} {E : TypeId} (h : BK w b t.arr E) : RI w (some ⟨b, 0, none⟩) t.list := by
  intro k hk
  refine ⟨b, 0, rfl, h.lt, ?_⟩
  rw [Nat.zero_add]
  refine h.cell ?_
  have hk4 : k < 4 := by simpa [T4.list] using hk
  rw [t.cell k hk4]
  match k, hk4 with
  | 0, _ => rfl
  | 1, _ => rfl
  | 2, _ => rfl
  | 3, _ => rfl
set_option maxHeartbeats 1000000 in
theorem compare_any (t u : T4) (w : World) :
    Calls Tryd.prog 36 #[.agg t.arr, .agg u.arr] w fun e w' => e = .returned (.int .i64 (cmpL t.list u.list)) ∧ Below w.heap.size w w' := by
  go_enter Tryd.func36, Tryd.ntmps36
  go_wp2
  refine name2 ?_
  intro W1 b1 b2 hz hb0
  have HB0 := Lib.hid hb0; have HZ := Lib.hid hz; clear hb0 hz
  refine wp_region_gro (by kernel_rfl) (by kernel_rfl) ?_
  repeat (first | go_big_quiet_step (((go_at_call 49; exact quiet_call0 (slicesCompare_any _ _ t.list u.list _ _ _ _ _ rfl rfl (tile_reads (b1.below (gro_below _ _) b1.lt)) (tile_reads (b2.below (gro_below _ _) b2.lt)) (by simp [T4.list]) (by simp [T4.list]))))) | quiet_step (((go_at_call 49; exact quiet_call0 (slicesCompare_any _ _ t.list u.list _ _ _ _ _ rfl rfl (tile_reads (b1.below (gro_below _ _) b1.lt)) (tile_reads (b2.below (gro_below _ _) b2.lt)) (by simp [T4.list]) (by simp [T4.list]))))))
  refine wpQuiet_nil ?_
  intro w1 hB1
  have HB1 := Lib.hid hB1; clear hB1
  go_wp2
  go_ret
  exact ⟨rfl, below_to HB0.out HB1.out⟩
end Go.Proofs.YtbcnddeelefomaaDoor

/-
  Contracts of the laws' own helpers: arguments copied, sized, compared.
-/
namespace Go.Proofs.YtbcnddeelefomaaDoor
open Go Go.RowKit Go.Proofs
set_option linter.unusedVariables false
set_option linter.unusedSimpArgs false

set_option maxHeartbeats 400000 in
theorem szTileS_any (A : Option Addr) (n c : Nat) (left : Int) (w : World) (hn : n ≤ 35184372088832) (h0 : 0 ≤ left) (hl : left ≤ 1048576) :
    Calls Tryd.prog 17 #[.slice A n c, .int .i64 left] w fun e w' => e = .returned (.int .i64 (if left < n then -1 else left - n)) ∧ w = w' := by
  by_cases h : (n : Int) ≤ left
  · have h' : ¬ left - n < 0 := by omega
    go_enter Tryd.func17, Tryd.ntmps17
    go_wp2
    go_ret
    exact ⟨rfl, rfl⟩
  · have h' : left - n < 0 := by omega
    go_enter Tryd.func17, Tryd.ntmps17
    go_wp2
    go_ret
    exact ⟨rfl, rfl⟩
set_option maxHeartbeats 400000 in
theorem szSet_any (C : Int) (A : Option Addr) (n c : Nat) (left : Int) (w : World) (hn : n ≤ 35184372088832) (h0 : 0 ≤ left) (hl : left ≤ 1048576) :
    Calls Tryd.prog 6 #[.agg #[.int .i64 C, .slice A n c], .int .i64 left] w fun e w' => e = .returned (.int .i64 (if left < n then -1 else left - n)) ∧ Below w.heap.size w w' := by
  by_cases h : (n : Int) ≤ left
  · have h' : ¬ left - n < 0 := by omega
    go_enter Tryd.func6, Tryd.ntmps6
    go_wp2_with fail
    refine (szTileS_any _ _ _ _ _ hn h0 hl).mono ?_
    rintro e w' ⟨rfl, rfl⟩
    rw [if_neg (show ¬ left < (n : Int) by omega)]
    go_wp2
    go_ret
    exact ⟨rfl, by simpa using (Below.refl _ _).alloc (Nat.le_refl _) _⟩
  · have h' : left - n < 0 := by omega
    go_enter Tryd.func6, Tryd.ntmps6
    go_wp2_with fail
    refine (szTileS_any _ _ _ _ _ hn h0 hl).mono ?_
    rintro e w' ⟨rfl, rfl⟩
    rw [if_pos (show left < (n : Int) by omega)]
    go_wp2
    go_ret
    exact ⟨rfl, by simpa using (Below.refl _ _).alloc (Nat.le_refl _) _⟩

set_option maxHeartbeats 400000 in
theorem toTile_any (t : T4) (w : World) :
    Calls Tryd.prog 34 #[.agg t.arr] w fun e w' => e = .returned (.agg t.arr) ∧ Below w.heap.size w w' := by
  go_enter Tryd.func34, Tryd.ntmps34
  go_wp2
  refine name3 ?_
  intro W1 b1 b2 b3 hz hb0
  have HB0 := Lib.hid hb0; have HZ := Lib.hid hz; clear hb0 hz
  go_loopw [4] (fun i wr => Below (w.heap.size + 2) W1 wr ∧ ∃ k : Nat, k ≤ 4 ∧ i = .int .i64 k ∧ ∃ C, BK wr (w.heap.size + 2) C 50 ∧ C.size = 4 ∧ ∀ j, j < k → C[j]? = some (.int .i64 (t.get j))) (fun i _ => 4 - (intOf i).toNat)
  case atStart => exact ⟨Below.refl _ _, 0, by omega, rfl, _, b3, rfl, fun j h => by omega⟩
  case round =>
    obtain ⟨hB, k, hk, rfl, C, b3', hsz, hall⟩ := hrel
    have HB := Lib.hid hB; have HA := Lib.hid hall; have HS := Lib.hid hsz; clear hB hall hsz
    by_cases hlt : k < 4
    · have hI : (k : Int) < 4 := by omega
      have c1 := (b1.below HB.out (by omega)).cell (t.cell k hlt)
      obtain ⟨x, hx⟩ : ∃ x, C[k]? = some x := ⟨_, Array.getElem?_eq_getElem (by rw [HS.out]; exact hlt)⟩
      have c3 := b3'.cell hx
      have f3 := b3'.frozen k
      go_wp2
      go_roundw
      case rel => exact ⟨HB.out.setCell (by simp) _, k + 1, by omega, by go_num, _, b3'.set k _, by rw [Array.size_setIfInBounds, HS.out], fun j hj => by
          rw [Array.getElem?_setIfInBounds, HS.out]
          by_cases e : k = j
          · subst e; rw [if_pos rfl, if_pos hlt]
          · rw [if_neg e]; exact HA.out j (by omega)⟩
      case measure => simp [intOf]; omega
    · have e4 : k = 4 := by omega
      have a0 := b3'.cell (HA.out 0 (by omega)); have a1 := b3'.cell (HA.out 1 (by omega)); have a2 := b3'.cell (HA.out 2 (by omega)); have a3 := b3'.cell (HA.out 3 (by omega))
      have b2' := b2.below HB.out (by omega)
      have z0 := b2'.cell (k := 0) rfl; have z1 := b2'.cell (k := 1) rfl; have z2 := b2'.cell (k := 2) rfl; have z3 := b2'.cell (k := 3) rfl
      have f0 := b2'.frozen 0; have f1 := b2'.frozen 1; have f2 := b2'.frozen 2; have f3 := b2'.frozen 3
      have HE := Lib.hid e4; clear e4
      go_wp2
      refine bodyPost_ret (v := .agg t.arr) ?_ rfl ⟨rfl, ?_⟩
      · simp [results, Tryd.results34, go_sem, *, T4.arr]
      · exact ((((HB0.out.trans (HB.out.mono (by omega))).setCell (by simp) _).setCell (by simp) _).setCell (by simp) _).setCell (by simp) _

theorem info50 : (Tryd.prog.info? 50).map (fun i => (i.zero, i.size, i.bytes)) = some (some (.agg #[.int .i64 0, .int .i64 0, .int .i64 0, .int .i64 0]), 4, 32) := by kernel_rfl
set_option maxHeartbeats 1000000 in
theorem toTileS_any (A : Option Addr) (ts : List T4) (c : Nat) (w : World) (hA : RT w A ts) (hl : ts.length ≤ 1048576) :
    Calls Tryd.prog 20 #[.slice A ts.length c] w fun e w' => ∃ v, e = .returned v ∧ OT w' w.heap.size 50 v ts ∧ Below w.heap.size w w' := by
  have hmk := make_row (P := Tryd.prog) 28 50 _ 4 32 Tryd.underlying28 info50 rfl (by decide) ts.length (by omega)
  have HA := Lib.hid hA; clear hA
  go_enter Tryd.func20, Tryd.ntmps20
  go_wp2
  refine name1 ?_
  intro W1 b1 hz hb0
  have HB0 := Lib.hid hb0; have HZ := Lib.hid hz; clear hb0 hz
  go_loopw [4] (fun i wr => Below w.heap.size w wr ∧ ∃ k : Nat, k ≤ ts.length ∧ i = .int .i64 k ∧ ∃ C, BK wr w.heap.size C 50 ∧ C.size = ts.length * 4 ∧ TilesIn C ts k) (fun i _ => ts.length - (intOf i).toNat)
  case atStart => exact ⟨HB0.out, 0, by omega, rfl, _, b1, made_size _ _, fun j h => absurd h (by omega)⟩
  case round =>
    obtain ⟨hB, k, hk, rfl, C, b3, hsz, hall⟩ := hrel
    have hT := HA.out.below hB
    have HB := Lib.hid hB; have HC := Lib.hid hall; have HS := Lib.hid hsz; clear hB hall hsz
    by_cases hlt : k < ts.length
    · obtain ⟨b, o, rfl, hb, h0, h1, h2, h3⟩ := hT k hlt
      clear hT
      go_wp2_with fail
      refine (toTile_any (tk ts k) _).mono ?_
      rintro e w1 ⟨rfl, hB1⟩
      have b3' := b3.below hB1 b3.lt
      have get (j : Nat) (hj : j < 4) : ∃ x, w1.cell? ⟨w.heap.size, k * 4 + j, none⟩ = some x := ⟨_, b3'.cell (Array.getElem?_eq_getElem (by rw [HS.out]; omega))⟩
      obtain ⟨x0, c0⟩ := get 0 (by omega); obtain ⟨x1, c1⟩ := get 1 (by omega); obtain ⟨x2, c2⟩ := get 2 (by omega); obtain ⟨x3, c3⟩ := get 3 (by omega)
      have f0 := b3'.frozen (k * 4); have f1 := b3'.frozen (k * 4 + 1); have f2 := b3'.frozen (k * 4 + 2); have f3 := b3'.frozen (k * 4 + 3)
      have HB1 := Lib.hid hB1; clear hB1 get
      simp only [Nat.add_zero] at c0
      simp only [T4.arr]
      go_wp2
      go_roundw
      case rel => exact ⟨below_set4 (HB.out.trans (HB1.out.mono HB.out.size)) (Nat.le_refl _) _ _ _ _ _, k + 1, by omega, by go_num, _, b3'.setT _ _, by rw [setT_size, HS.out], HC.out.step (by rw [HS.out]; omega)⟩
      case measure => simp [intOf]; omega
    · go_wp2
      go_ret
      exact ⟨_, rfl, OT.of_block b3 (Nat.le_refl _) HS.out (Nat.le_refl _) (by omega) fun k' h' => HC.out k' (by omega), HB.out⟩

set_option maxHeartbeats 1000000 in
theorem toSet_any (C : Int) (A : Option Addr) (ts : List T4) (n c : Nat) (w : World) (hn : n = ts.length) (hA : RT w A ts) (hl : ts.length ≤ 1048576) :
    Calls Tryd.prog 8 #[.agg #[.int .i64 C, .slice A n c]] w fun e w' => ∃ v, e = .returned (.agg #[.int .i64 C, v]) ∧ OT w' w.heap.size 50 v ts ∧ Below w.heap.size w w' := by
  subst hn
  have HA := Lib.hid hA; clear hA
  go_enter Tryd.func8, Tryd.ntmps8
  go_wp2_with fail
  refine namec3 ?_
  intro W1 b1 b2 b3 hz hb0
  refine (toTileS_any A ts c W1 (HA.out.below hb0) hl).mono ?_
  rintro e w1 ⟨v, rfl, hO, hB1⟩
  have b2' := b2.below hB1 b2.lt; have b3' := b3.below hB1 b3.lt
  have HB0 := Lib.hid hb0; have HZ := Lib.hid hz; have HB1 := Lib.hid hB1; have HO := Lib.hid hO; clear hb0 hz hB1 hO
  obtain ⟨A', c', rfl, -, -⟩ := HO.out.reads
  have a0 := b3'.cell (k := 0) rfl; have a1 := b3'.cell (k := 1) rfl
  have z0 := b2'.cell (k := 0) rfl; have z1 := b2'.cell (k := 1) rfl
  have f0 := b2'.frozen 0; have f1 := b2'.frozen 1; have g1 := b3'.frozen 1
  go_wp2
  refine bodyPost_ret (v := .agg #[.int .i64 C, .slice A' ts.length c']) ?_ rfl ⟨_, rfl, ?_, ?_⟩
  · simp [results, Tryd.results8, go_sem, z0, z1, f0, f1]
  · have hz := HZ.out
    exact own_base (ownsRow_setCell_below (ownsRow_setCell_below (ownsRow_setCell_below HO.out (by simp; omega) _) (by simp; omega) _) (by simp; omega) _) (by omega)
  · exact (((HB0.out.trans (HB1.out.mono HB0.out.size)).setCell (by simp; omega) _).setCell (by simp) _).setCell (by simp) _
set_option maxHeartbeats 1000000 in
theorem eqTileS_any (A A' : Option Addr) (ts us : List T4) (n m c c' : Nat) (w : World) (hn : n = ts.length) (hm : m = us.length) (hA : RT w A ts) (hA' : RT w A' us) (hl : ts.length ≤ 35184372088832) (hl' : us.length ≤ 35184372088832) :
    Calls Tryd.prog 23 #[.slice A n c, .slice A' m c'] w fun e w' => e = .returned (.bool (decide (ts = us))) ∧ Below w.heap.size w w' := by
  have HA := Lib.hid hA; have HA' := Lib.hid hA'; clear hA hA'
  by_cases hlen : n = m
  · have HL := Lib.hid (show ts.length = us.length by omega); have HN := Lib.hid hn; have HM := Lib.hid hlen
    have h1 : ((n : Int) != m) = false := by simp [hlen]
    have hn0 : n ≤ 35184372088832 := by omega
    clear hlen hn hm
    go_enter Tryd.func23, Tryd.ntmps23
    go_wp2
    go_loopw [5] (fun i wr => Below w.heap.size w wr ∧ ∃ k : Nat, k ≤ n ∧ i = .int .i64 k ∧ ∀ j, j < k → tk ts j = tk us j) (fun i _ => n - (intOf i).toNat)
    case atStart => exact ⟨Below.refl _ _, 0, by omega, rfl, fun j h => absurd h (by omega)⟩
    case round =>
      obtain ⟨hB, k, hk, rfl, hall⟩ := hrel
      have hT := HA.out.below hB
      have hT' := HA'.out.below hB
      have HB := Lib.hid hB; have HALL := Lib.hid hall; clear hB hall
      by_cases hlt : k < n
      · obtain ⟨b, o, rfl, hb, h0, h1, h2, h3⟩ := hT k (by have := HN.out; omega)
        obtain ⟨b', o', rfl, hb', h0', h1', h2', h3'⟩ := hT' k (by have := HN.out; have := HL.out; omega)
        have i1 : (k : Int) < n := by omega
        have i2 : (k : Int) < m := by have := HM.out; omega
        clear hT hT'
        by_cases he : tk ts k = tk us k
        · have HE := Lib.hid (show decide (tk ts k = tk us k) = true by simpa using he); clear he
          go_wp2
          refine wp_region_gro (by kernel_rfl) (by kernel_rfl) ?_
          repeat (first | go_big_quiet_step (((go_at_call 41; exact quiet_call (by have h := eqTile_any (tk ts k) (tk us k) (gro wr ‹GP›); rw [HE.out] at h; exact h)))) | quiet_step (((go_at_call 41; exact quiet_call (by have h := eqTile_any (tk ts k) (tk us k) (gro wr ‹GP›); rw [HE.out] at h; exact h)))))
          refine wpQuiet_nil ?_
          intro w1 hB1
          have HB1 := Lib.hid hB1; clear hB1
          go_wp2
          go_roundw
          case rel => exact ⟨HB.out.trans (HB1.out.mono HB.out.size), k + 1, by omega, by go_num, fun j hj => by
            by_cases e : j = k
            · subst e; exact of_decide_eq_true HE.out
            · exact HALL.out j (by omega)⟩
          case measure => simp [intOf]; omega
        · have HE := Lib.hid (show decide (tk ts k = tk us k) = false by simpa using he); clear he
          go_wp2
          refine wp_region_gro (by kernel_rfl) (by kernel_rfl) ?_
          repeat (first | go_big_quiet_step (((go_at_call 41; exact quiet_call (by have h := eqTile_any (tk ts k) (tk us k) (gro wr ‹GP›); rw [HE.out] at h; exact h)))) | quiet_step (((go_at_call 41; exact quiet_call (by have h := eqTile_any (tk ts k) (tk us k) (gro wr ‹GP›); rw [HE.out] at h; exact h)))))
          refine wpQuiet_nil ?_
          intro w1 hB1
          have HB1 := Lib.hid hB1; clear hB1
          go_wp2
          go_ret
          exact ⟨ret_bool (by have : ts ≠ us := fun e => of_decide_eq_false HE.out (by rw [e])
                              simp [this]), HB.out.trans (HB1.out.mono HB.out.size)⟩
      · go_wp2
        go_ret
        exact ⟨ret_bool (by have : ts = us := eq_of_tk HL.out fun j hj => HALL.out j (by have := HN.out; omega)
                            simp [this]), HB.out⟩
  · have h1 : ((n : Int) != m) = true := by simp; omega
    have HL := Lib.hid (show ts.length ≠ us.length by omega); clear hlen hn hm
    go_enter Tryd.func23, Tryd.ntmps23
    go_wp2
    go_ret
    exact ⟨ret_bool (by have : ts ≠ us := fun e => HL.out (by rw [e])
                        simp [this]), Below.refl _ _⟩

set_option maxHeartbeats 1000000 in
theorem eqSet_any (C D : Int) (A A' : Option Addr) (ts us : List T4) (n m c c' : Nat) (w : World) (hn : n = ts.length) (hm : m = us.length) (hA : RT w A ts) (hA' : RT w A' us) (hl : ts.length ≤ 35184372088832) (hl' : us.length ≤ 35184372088832) :
    Calls Tryd.prog 10 #[.agg #[.int .i64 C, .slice A n c], .agg #[.int .i64 D, .slice A' m c']] w fun e w' => e = .returned (.bool (decide (C = D) && decide (ts = us))) ∧ Below w.heap.size w w' := by
  have HA := Lib.hid hA; have HA' := Lib.hid hA'; clear hA hA'
  by_cases hC : C = D
  · have HC := Lib.hid hC; clear hC
    have h1 : (C != D) = false := by simp [HC.out]
    have HN := Lib.hid hn; have HM := Lib.hid hm; clear hn hm
    cases hb : decide (ts = us)
    all_goals
      have HT := Lib.hid hb; clear hb
      go_enter Tryd.func10, Tryd.ntmps10
      go_wp2_with fail
      refine namec2 ?_
      intro W1 b1 b2 hz hb0
      refine (eqTileS_any A A' ts us n m c c' W1 HN.out HM.out (HA.out.below hb0) (HA'.out.below hb0) hl hl').mono ?_
      rintro e w1 ⟨rfl, hB1⟩
      rw [HT.out]
      have HB0 := Lib.hid hb0; have HB1 := Lib.hid hB1; clear hb0 hB1 hz b1 b2
      go_wp2
      go_ret
      exact ⟨ret_bool (by simp [HC.out]), below_to HB0.out HB1.out⟩
  · have HC := Lib.hid hC; clear hC
    have h1 : (C != D) = true := by simpa using HC.out
    clear hn hm
    go_enter Tryd.func10, Tryd.ntmps10
    go_wp2
    go_ret
    exact ⟨ret_bool (by simp [HC.out]), ((Below.refl _ _).alloc (Nat.le_refl _) _).alloc (by simp) _⟩
end Go.Proofs.YtbcnddeelefomaaDoor

/-
  Contracts: what is a set, in the reference and in the program.
-/
namespace Go.Proofs.YtbcnddeelefomaaDoor
open Go Go.RowKit Go.Proofs
set_option linter.unusedVariables false
set_option linter.unusedSimpArgs false

theorem isS_of {c : Int} {ts : List T4} (h1 : inB c 1 6 = true) (h2 : ts.length ≤ 16) (h3 : OkS c ts) : isS c ts = true := isS_iff.2 ⟨inB_iff.1 h1, h2, h3⟩
theorem isS_c {c : Int} {ts : List T4} (h1 : inB c 1 6 = false) : isS c ts = false := by simp [isS, h1]
theorem isS_len {c : Int} {ts : List T4} (h1 : 16 < ts.length) : isS c ts = false := by
  have : decide (ts.length ≤ 16) = false := by simp; omega
  simp [isS, this]
theorem isS_ok {c : Int} {ts : List T4} (h : ¬ OkS c ts) : isS c ts = false := by
  have : okB c ts = false := by rw [← Bool.not_eq_true, okB_iff]; exact h
  simp [isS, this]

set_option maxHeartbeats 2000000 in
theorem l01Is_any (C : Int) (A : Option Addr) (ts : List T4) (n c : Nat) (w : World) (hn : n = ts.length) (hA : RT w A ts) (hl : n ≤ 35184372088832) :
    Calls Tryd.prog 18 #[.agg #[.int .i64 C, .slice A n c]] w fun e w' => e = .returned (.bool (isS C ts)) ∧ Below w.heap.size w w' := by
  have HA := Lib.hid hA; have HN := Lib.hid hn; clear hA hn
  cases hC : inB C 1 6
  · have HC := Lib.hid hC; clear hC
    go_enter Tryd.func18, Tryd.ntmps18
    go_wp2_with (go_at_call 30; refine (l01In_any _ _ _ _).mono ?_; rintro e w' ⟨rfl, rfl⟩; rw [HC.out])
    go_ret
    exact ⟨ret_bool (isS_c HC.out).symm, by simpa using (Below.refl _ _).alloc (Nat.le_refl _) _⟩
  · have HC := Lib.hid hC; clear hC
    obtain ⟨hc1, hc2⟩ := inB_iff.1 HC.out
    by_cases h16 : n ≤ 16
    · go_enter Tryd.func18, Tryd.ntmps18
      go_wp2_with (go_at_call 30; refine (l01In_any _ _ _ _).mono ?_; rintro e w' ⟨rfl, rfl⟩; rw [HC.out])
      refine name1 ?_
      intro W1 b1 hz hb0
      have HB0 := Lib.hid hb0; have HZ := Lib.hid hz; clear hb0 hz
      go_loopw [3] (fun i wr => Below W1.heap.size W1 wr ∧ ∃ k : Nat, k ≤ n ∧ i = .int .i64 k ∧ ∀ j, j < k → tileB (tk ts j) (C - 1) = true ∧ (0 < j → ltT (tk ts (j - 1)) (tk ts j) = true)) (fun i _ => n - (intOf i).toNat)
      case atStart => exact ⟨Below.refl _ _, 0, by omega, rfl, fun j h => absurd h (by omega)⟩
      case round =>
        obtain ⟨hB, k, hk, rfl, hall⟩ := hrel
        have b1' := b1.below hB b1.lt
        have HE := Lib.hid (below_to HB0.out hB)
        have hT := HA.out.below HE.out
        have HB := Lib.hid hB; have HALL := Lib.hid hall; clear hB hall
        have a0 : wr.cell? ⟨w.heap.size, 0, none⟩ = some (.int .i64 C) := b1'.cell rfl
        have a1 : wr.cell? ⟨w.heap.size, 1, none⟩ = some (.slice A n c) := b1'.cell rfl
        have l1 := b1'.lt
        have hw1 : wrap64 (C - 1) = C - 1 := by unfold wrap64; omega
        by_cases hlt : k < n
        · have i1 : (k : Int) < n := by omega
          have HK := Lib.hid (show k < ts.length by have := HN.out; omega)
          cases ht : tileB (tk ts k) (C - 1)
          · have HT := Lib.hid (show tileB (tk ts k) (wrap64 (C - 1)) = false by rw [hw1]; exact ht); clear ht hw1
            obtain ⟨b, o, rfl, hb, h0, h1, h2, h3⟩ := hT k HK.out
            clear hT
            go_wp2_with fail
            refine wp_region_gro (by kernel_rfl) (by kernel_rfl) ?_
            repeat (first | go_big_quiet_step (((go_at_call 31; exact quiet_call (by have h := l01Tile_any C (tk ts k) (gro wr ‹GP›); rw [HT.out] at h; exact h)))) | quiet_step (((go_at_call 31; exact quiet_call (by have h := l01Tile_any C (tk ts k) (gro wr ‹GP›); rw [HT.out] at h; exact h)))))
            refine wpQuiet_nil ?_
            intro w1 hB1
            have HB1 := Lib.hid hB1; clear hB1
            go_wp2
            go_ret
            exact ⟨ret_bool (isS_ok fun h => by have := (h k HK.out).1; have h2 := HT.out; rw [show wrap64 (C - 1) = C - 1 by unfold wrap64; omega] at h2; rw [h2] at this; cases this).symm, below_to HE.out HB1.out⟩
          · have HT := Lib.hid (show tileB (tk ts k) (wrap64 (C - 1)) = true by rw [hw1]; exact ht)
            have HT2 := Lib.hid ht
            clear ht hw1
            cases k with
            | zero =>
              obtain ⟨b, o, rfl, hb, h0, h1, h2, h3⟩ := hT 0 HK.out
              simp only [Nat.zero_mul, Nat.add_zero] at h0 h1 h2 h3
              clear hT
              go_wp2_with fail
              refine wp_region_gro (by kernel_rfl) (by kernel_rfl) ?_
              repeat (first | go_big_quiet_step (((go_at_call 31; exact quiet_call (by have h := l01Tile_any C (tk ts 0) (gro wr ‹GP›); rw [HT.out] at h; exact h)))) | quiet_step (((go_at_call 31; exact quiet_call (by have h := l01Tile_any C (tk ts 0) (gro wr ‹GP›); rw [HT.out] at h; exact h)))))
              refine wpQuiet_nil ?_
              intro w1 hB1
              have HB1 := Lib.hid hB1; clear hB1
              go_wp2
              go_roundw
              case rel => exact ⟨below_to HB.out HB1.out, 0 + 1, by omega, by go_num, fun j hj => by
                  obtain rfl : j = 0 := by omega
                  exact ⟨HT2.out, fun h => absurd h (by omega)⟩⟩
              case measure => simp [intOf]; omega
            | succ k =>
              obtain ⟨b, o, hA', hb, h0, h1, h2, h3⟩ := hT (k + 1) HK.out
              obtain ⟨b', o', hA'', hb', h0', h1', h2', h3'⟩ := hT k (by have := HK.out; omega)
              subst hA'
              obtain ⟨rfl, rfl⟩ : b = b' ∧ o = o' := by injection hA'' with e; injection e with e1 e2; exact ⟨e1, e2⟩
              clear hT hA''
              have i0 : (k : Int) < n := by omega
              cases hlT : ltT (tk ts k) (tk ts (k + 1))
              · have HL := Lib.hid hlT; clear hlT
                go_wp2_with fail
                refine wp_region_gro (by kernel_rfl) (by kernel_rfl) ?_
                repeat (first | go_big_quiet_step (((first | (go_at_call 31; exact quiet_call (by have h := l01Tile_any C (tk ts (k + 1)) (gro wr ‹GP›); rw [HT.out] at h; exact h)) | (go_at_call 32; exact quiet_call (by have h := l01Before_any (tk ts k) (tk ts (k + 1)) (gro wr ‹GP›); rw [HL.out] at h; exact h))))) | quiet_step (((first | (go_at_call 31; exact quiet_call (by have h := l01Tile_any C (tk ts (k + 1)) (gro wr ‹GP›); rw [HT.out] at h; exact h)) | (go_at_call 32; exact quiet_call (by have h := l01Before_any (tk ts k) (tk ts (k + 1)) (gro wr ‹GP›); rw [HL.out] at h; exact h))))))
                refine wpQuiet_nil ?_
                intro w1 hB1
                have HB1 := Lib.hid hB1; clear hB1
                go_wp2
                go_ret
                exact ⟨ret_bool (isS_ok fun h => by have := (h (k + 1) HK.out).2 (by omega); rw [Nat.add_sub_cancel, HL.out] at this; cases this).symm, below_to HE.out HB1.out⟩
              · have HL := Lib.hid hlT; clear hlT
                go_wp2_with fail
                refine wp_region_gro (by kernel_rfl) (by kernel_rfl) ?_
                repeat (first | go_big_quiet_step (((first | (go_at_call 31; exact quiet_call (by have h := l01Tile_any C (tk ts (k + 1)) (gro wr ‹GP›); rw [HT.out] at h; exact h)) | (go_at_call 32; exact quiet_call (by have h := l01Before_any (tk ts k) (tk ts (k + 1)) (gro wr ‹GP›); rw [HL.out] at h; exact h))))) | quiet_step (((first | (go_at_call 31; exact quiet_call (by have h := l01Tile_any C (tk ts (k + 1)) (gro wr ‹GP›); rw [HT.out] at h; exact h)) | (go_at_call 32; exact quiet_call (by have h := l01Before_any (tk ts k) (tk ts (k + 1)) (gro wr ‹GP›); rw [HL.out] at h; exact h))))))
                refine wpQuiet_nil ?_
                intro w1 hB1
                have HB1 := Lib.hid hB1; clear hB1
                go_wp2
                go_roundw
                case rel => exact ⟨below_to HB.out HB1.out, k + 1 + 1, by omega, by go_num, fun j hj => by
                    by_cases e : j = k + 1
                    · subst e; exact ⟨HT2.out, fun _ => by rw [Nat.add_sub_cancel]; exact HL.out⟩
                    · exact HALL.out j (by omega)⟩
                case measure => simp [intOf]; omega
        · go_wp2_with fail
          go_ret
          exact ⟨ret_bool (isS_of HC.out (by have := HN.out; omega) fun j hj => HALL.out j (by have := HN.out; omega)).symm, HE.out⟩
    · go_enter Tryd.func18, Tryd.ntmps18
      go_wp2_with (go_at_call 30; refine (l01In_any _ _ _ _).mono ?_; rintro e w' ⟨rfl, rfl⟩; rw [HC.out])
      go_ret
      exact ⟨ret_bool (isS_len (by have := HN.out; omega)).symm, by simpa using (Below.refl _ _).alloc (Nat.le_refl _) _⟩

set_option maxHeartbeats 400000 in
theorem isTile1_any (x c : Int) (B : Nat) (w : World) (hc : w.cell? ⟨B, 0, none⟩ = some (.int .i64 c)) :
    Calls Tryd.prog 48 #[.int .i64 x, .pointer (some ⟨B, 0, none⟩)] w fun e w' => e = .returned (.bool (!inB x 0 (wrap64 (c-1)))) ∧ w = w' := by
  go_enter Tryd.func48, Tryd.ntmps48
  go_wp2_with (go_at_call 37; refine (within_any _ _ _ _).mono ?_; rintro e w' ⟨rfl, rfl⟩)
  all_goals go_ret
  all_goals exact ⟨rfl, rfl⟩
/-- what a predicate on numbers, handed over as a function value, says -/
def PredI (P : Program) (g : FuncId) (cap : Array Value) (p : Int → Bool) (w : World) : Prop :=
  ∀ (W : World) (x : Int), Below w.heap.size w W → Calls P g (#[.int .i64 x] ++ cap) W fun e w' => e = .returned (.bool (p x)) ∧ Below W.heap.size W w'
def PredT (P : Program) (g : FuncId) (cap : Array Value) (p : T4 → Bool) (w : World) : Prop :=
  ∀ (W : World) (t : T4), Below w.heap.size w W → Calls P g (#[.agg t.arr] ++ cap) W fun e w' => e = .returned (.bool (p t)) ∧ Below W.heap.size W w'
/-- the first place from k on at which p holds, or -1 -/
def idxL {α : Type} (p : α → Bool) (xs : List α) : Int := match xs.findIdx? p with | some i => i | none => -1
theorem idxL_at {α : Type} {p : α → Bool} {xs : List α} {k : Nat} (hk : k < xs.length) (h : ∀ j (hj : j < xs.length), j < k → p xs[j] = false) (hp : p xs[k] = true) : (k : Int) = idxL p xs := by
  have : xs.findIdx? p = some k := by
    rw [List.findIdx?_eq_some_iff_getElem]
    exact ⟨hk, hp, fun j hj => by simp [h j (by omega) hj]⟩
  simp [idxL, this]
theorem idxL_none {α : Type} {p : α → Bool} {xs : List α} (h : ∀ j (hj : j < xs.length), p xs[j] = false) : (-1 : Int) = idxL p xs := by
  have : xs.findIdx? p = none := by
    rw [List.findIdx?_eq_none_iff]
    intro x hx
    obtain ⟨j, hj, rfl⟩ := List.getElem_of_mem hx
    exact h j hj
  simp [idxL, this]
theorem idxL_any {α : Type} {p : α → Bool} {xs : List α} : decide (0 ≤ idxL p xs) = xs.any p := by
  unfold idxL
  cases h : xs.findIdx? p with
  | none =>
    rw [List.findIdx?_eq_none_iff] at h
    have : xs.any p = false := by rw [List.any_eq_false]; simpa using h
    simp [this]
  | some i =>
    rw [List.findIdx?_eq_some_iff_getElem] at h
    have : xs.any p = true := List.any_eq_true.2 ⟨_, List.getElem_mem h.1, h.2.1⟩
    simp [this]
theorem ik_get {xs : List Int} {k : Nat} (h : k < xs.length) : xs[k] = ik xs k := by simp [ik, h]
theorem tk_get {xs : List T4} {k : Nat} (h : k < xs.length) : xs[k] = tk xs k := by simp [tk, h]

end Go.Proofs.YtbcnddeelefomaaDoor

/-
  Contracts: tiles and sets in the program.
-/
namespace Go.Proofs.YtbcnddeelefomaaDoor
open Go Go.RowKit Go.Proofs
set_option linter.unusedVariables false
set_option linter.unusedSimpArgs false

set_option maxHeartbeats 1000000 in
theorem IndexFuncI_any (A : Option Addr) (xs : List Int) (n c : Nat) (g : FuncId) (cap : Array Value) (p : Int → Bool) (w : World) (hn : n = xs.length) (hA : RI w A xs) (hl : n ≤ 35184372088832)
    (eg : ∀ args w, (callFunc g args).run Tryd.prog w = .ok (.enter g args) w) (hp : PredI Tryd.prog g cap p w) :
    Calls Tryd.prog 58 #[.slice A n c, .func (.func g) #[] cap] w fun e w' => e = .returned (.int .i64 (idxL p xs)) ∧ Below w.heap.size w w' := by
  have HA := Lib.hid hA; have HN := Lib.hid hn; have HP := Lib.hid hp; clear hA hn hp
  go_enter Tryd.func58, Tryd.ntmps58
  go_wp2_with fail
  go_loopw [8] (fun i wr => Below w.heap.size w wr ∧ ∃ k : Nat, k ≤ n ∧ i = .int .i64 k ∧ ∀ j (hj : j < xs.length), j < k → p xs[j] = false) (fun i _ => n - (intOf i).toNat)
  case atStart => exact ⟨Below.refl _ _, 0, by omega, rfl, fun j _ h => absurd h (by omega)⟩
  case round =>
    obtain ⟨hB, k, hk, rfl, hall⟩ := hrel
    have hT := HA.out.below hB
    have HB := Lib.hid hB; have HALL := Lib.hid hall; clear hB hall
    by_cases hlt : k < n
    · have i1 : (k : Int) < n := by omega
      have HK := Lib.hid (show k < xs.length by have := HN.out; omega)
      obtain ⟨b, o, rfl, hb, h0⟩ := hT k HK.out
      clear hT
      cases hpk : p (ik xs k)
      · have HX := Lib.hid hpk; clear hpk
        go_wp2_with fail
        refine (HP.out wr (ik xs k) HB.out).mono ?_
        rintro e w1 ⟨rfl, hB1⟩
        rw [HX.out]
        have HB1 := Lib.hid hB1; clear hB1
        go_wp2_with fail
        go_roundw
        case rel => exact ⟨below_to HB.out HB1.out, k + 1, by omega, by go_num, fun j hj hj' => by
            by_cases e : j = k
            · subst e; rw [ik_get]; exact HX.out
            · exact HALL.out j hj (by omega)⟩
        case measure => simp [intOf]; omega
      · have HX := Lib.hid hpk; clear hpk
        go_wp2_with fail
        refine (HP.out wr (ik xs k) HB.out).mono ?_
        rintro e w1 ⟨rfl, hB1⟩
        rw [HX.out]
        have HB1 := Lib.hid hB1; clear hB1
        go_wp2_with fail
        go_ret
        exact ⟨ret_int (idxL_at HK.out HALL.out (by rw [ik_get]; exact HX.out)), below_to HB.out HB1.out⟩
    · go_wp2_with fail
      go_ret
      exact ⟨ret_int (idxL_none fun j hj => HALL.out j hj (by have := HN.out; omega)), HB.out⟩

set_option maxHeartbeats 1000000 in
theorem ContainsFuncI_any (A : Option Addr) (xs : List Int) (n c : Nat) (g : FuncId) (cap : Array Value) (p : Int → Bool) (w : World) (hn : n = xs.length) (hA : RI w A xs) (hl : n ≤ 35184372088832)
    (eg : ∀ args w, (callFunc g args).run Tryd.prog w = .ok (.enter g args) w) (hp : PredI Tryd.prog g cap p w) :
    Calls Tryd.prog 47 #[.slice A n c, .func (.func g) #[] cap] w fun e w' => e = .returned (.bool (xs.any p)) ∧ Below w.heap.size w w' := by
  have EG := Lib.hid eg; clear eg
  have HA := Lib.hid hA; have HN := Lib.hid hn; have HP := Lib.hid hp; clear hA hn hp
  go_enter Tryd.func47, Tryd.ntmps47
  go_wp2_with fail
  refine (IndexFuncI_any A xs n c g cap p w HN.out HA.out hl EG.out HP.out).mono ?_
  rintro e w1 ⟨rfl, hB1⟩
  have HB1 := Lib.hid hB1; clear hB1
  go_wp2_with fail
  go_ret
  exact ⟨ret_bool idxL_any, HB1.out⟩
theorem any_tile {t : T4} {hi : Int} : (!t.list.any fun x => !inB x 0 hi) = tileB t hi := by
  simp [T4.list, tileB, Bool.not_or, Bool.and_assoc]
theorem isTile_any (t : T4) (c : Int) (w : World) :
    Calls Tryd.prog 35 #[.agg t.arr, .int .i64 c] w fun e w' => e = .returned (.bool (tileB t (wrap64 (c-1)))) ∧ Below w.heap.size w w' := by
  go_enter Tryd.func35, Tryd.ntmps35
  go_wp2_with fail
  refine namec2 ?_
  intro W1 b1 b2 hz hb0
  refine (ContainsFuncI_any _ t.list 4 4 48 #[.pointer (some ⟨w.heap.size + 1, 0, none⟩)] (fun x => !inB x 0 (wrap64 (c - 1))) W1 rfl (tile_reads b1) (by omega) (enters_of Tryd.func48 (by kernel_rfl) rfl) ?_).mono ?_
  · intro W x hW
    refine (isTile1_any x c _ W (cell_to hW (b2.cell rfl))).mono ?_
    rintro e w' ⟨rfl, rfl⟩
    exact ⟨rfl, Below.refl _ _⟩
  rintro e w1 ⟨rfl, hB1⟩
  have HB0 := Lib.hid hb0; have HB1 := Lib.hid hB1; clear hb0 hB1 hz b1 b2
  go_wp2_with fail
  go_ret
  exact ⟨ret_bool any_tile, below_to HB0.out HB1.out⟩
theorem wrap_m1 (c : Int) (h : inB c 1 6 = true) : wrap64 (c - 1) = c - 1 := by
  obtain ⟨h1, h2⟩ := inB_iff.1 h
  unfold wrap64; omega
/-- what the loop of the program's IsSet has found fine, for any number of colours -/
def OkW (c : Int) (ts : List T4) (k : Nat) : Prop := ∀ j, j < k → tileB (tk ts j) (wrap64 (c - 1)) = true ∧ (0 < j → ltT (tk ts (j - 1)) (tk ts j) = true)
theorem isS_notOk {c : Int} {ts : List T4} {k : Nat} (hk : k < ts.length) (h : tileB (tk ts k) (wrap64 (c - 1)) = false ∨ (0 < k ∧ ltT (tk ts (k - 1)) (tk ts k) = false)) : isS c ts = false := by
  by_cases hc : inB c 1 6 = true
  · refine isS_ok fun ho => ?_
    obtain ⟨h1, h2⟩ := ho k hk
    rw [wrap_m1 c hc] at h
    rcases h with h | ⟨h0, h⟩
    · rw [h] at h1; cases h1
    · rw [h2 h0] at h; cases h
  · exact isS_c (by simpa using hc)
theorem isS_end {c : Int} {ts : List T4} (h : OkW c ts ts.length) : (inB c 1 6 && decide (ts.length ≤ 16)) = isS c ts := by
  by_cases hc : inB c 1 6 = true
  · have : okB c ts = true := (okB_iff c ts).2 fun k hk => by have := h k hk; rwa [wrap_m1 c hc] at this
    simp [isS, this]
  · simp [isS, hc]
set_option maxHeartbeats 2000000 in
theorem IsSet_any (C : Int) (A : Option Addr) (ts : List T4) (n c : Nat) (w : World) (hn : n = ts.length) (hA : RT w A ts) (hl : n ≤ 35184372088832) :
    Calls Tryd.prog 21 #[.agg #[.int .i64 C, .slice A n c]] w fun e w' => e = .returned (.bool (isS C ts)) ∧ Below w.heap.size w w' := by
  have HA := Lib.hid hA; have HN := Lib.hid hn; clear hA hn
  go_enter Tryd.func21, Tryd.ntmps21
  go_wp2_with fail
  refine name1 ?_
  intro W1 b1 hz hb0
  have HB0 := Lib.hid hb0; have HZ := Lib.hid hz; clear hb0 hz
  go_loopw [8] (fun i wr => Below W1.heap.size W1 wr ∧ ∃ k : Nat, k ≤ n ∧ i = .int .i64 k ∧ OkW C ts k) (fun i _ => n - (intOf i).toNat)
  case atStart => exact ⟨Below.refl _ _, 0, by omega, rfl, fun j h => absurd h (by omega)⟩
  case round =>
    obtain ⟨hB, k, hk, rfl, hall⟩ := hrel
    have b1' := b1.below hB b1.lt
    have HE := Lib.hid (below_to HB0.out hB)
    have hT := HA.out.below HE.out
    have HB := Lib.hid hB; have HALL := Lib.hid hall; clear hB hall
    have a0 : wr.cell? ⟨w.heap.size, 0, none⟩ = some (.int .i64 C) := b1'.cell rfl
    have a1 : wr.cell? ⟨w.heap.size, 1, none⟩ = some (.slice A n c) := b1'.cell rfl
    have l1 := b1'.lt
    by_cases hlt : k < n
    · have i1 : (k : Int) < n := by omega
      have HK := Lib.hid (show k < ts.length by have := HN.out; omega)
      cases ht : tileB (tk ts k) (wrap64 (C - 1))
      · have HT := Lib.hid ht; clear ht
        obtain ⟨b, o, hA', hb, h0, h1, h2, h3⟩ := hT k HK.out
        subst hA'
        clear hT
        go_wp2_with fail
        refine name1 ?_
        intro W2 b2 hz2 hb2
        have A0 := cell_to hb2 a0; have A1 := cell_to hb2 a1; have L1 := lt_to hb2 l1; have L2 := lt_to hb2 hb
        have H0 := cell_to hb2 h0; have H1 := cell_to hb2 h1; have H2 := cell_to hb2 h2; have H3 := cell_to hb2 h3
        have c0 : W2.cell? ⟨wr.heap.size, 0, none⟩ = some (.int .i64 ((tk ts k).get 0)) := b2.cell rfl
        have c1 : W2.cell? ⟨wr.heap.size, 1, none⟩ = some (.int .i64 ((tk ts k).get 1)) := b2.cell rfl
        have c2 : W2.cell? ⟨wr.heap.size, 2, none⟩ = some (.int .i64 ((tk ts k).get 2)) := b2.cell rfl
        have c3 : W2.cell? ⟨wr.heap.size, 3, none⟩ = some (.int .i64 ((tk ts k).get 3)) := b2.cell rfl
        have L3 := b2.lt
        have HE2 := Lib.hid (below_to HE.out hb2); have HB2 := Lib.hid (below_to HB.out hb2)
        clear hb2 hz2 b2 a0 a1 l1 h0 h1 h2 h3 hb
        refine wp_region_gro (by kernel_rfl) (by kernel_rfl) ?_
        repeat (first | go_big_quiet_step (((go_at_call 35; exact quiet_call (by have h := isTile_any (tk ts k) C (gro W2 ‹GP›); rw [HT.out] at h; exact h)))) | quiet_step (((go_at_call 35; exact quiet_call (by have h := isTile_any (tk ts k) C (gro W2 ‹GP›); rw [HT.out] at h; exact h)))))
        refine wpQuiet_nil ?_
        intro w1 hB1
        have HB1 := Lib.hid hB1; clear hB1
        go_wp2_with fail
        go_ret
        exact ⟨ret_bool (isS_notOk HK.out (.inl HT.out)).symm, below_to HE2.out HB1.out⟩
      · have HT := Lib.hid ht; clear ht
        cases k with
        | zero =>
          obtain ⟨b, o, hA', hb, h0, h1, h2, h3⟩ := hT 0 HK.out
          simp only [Nat.zero_mul, Nat.add_zero] at h0 h1 h2 h3
          subst hA'
          clear hT
          go_wp2_with fail
          refine name1 ?_
          intro W2 b2 hz2 hb2
          have A0 := cell_to hb2 a0; have A1 := cell_to hb2 a1; have L1 := lt_to hb2 l1; have L2 := lt_to hb2 hb
          have H0 := cell_to hb2 h0; have H1 := cell_to hb2 h1; have H2 := cell_to hb2 h2; have H3 := cell_to hb2 h3
          have c0 : W2.cell? ⟨wr.heap.size, 0, none⟩ = some (.int .i64 ((tk ts 0).get 0)) := b2.cell rfl
          have c1 : W2.cell? ⟨wr.heap.size, 1, none⟩ = some (.int .i64 ((tk ts 0).get 1)) := b2.cell rfl
          have c2 : W2.cell? ⟨wr.heap.size, 2, none⟩ = some (.int .i64 ((tk ts 0).get 2)) := b2.cell rfl
          have c3 : W2.cell? ⟨wr.heap.size, 3, none⟩ = some (.int .i64 ((tk ts 0).get 3)) := b2.cell rfl
          have L3 := b2.lt
          have HE2 := Lib.hid (below_to HE.out hb2); have HB2 := Lib.hid (below_to HB.out hb2)
          clear hb2 hz2 b2 a0 a1 l1 h0 h1 h2 h3 hb
          refine wp_region_gro (by kernel_rfl) (by kernel_rfl) ?_
          repeat (first | go_big_quiet_step (((go_at_call 35; exact quiet_call (by have h := isTile_any (tk ts 0) C (gro W2 ‹GP›); rw [HT.out] at h; exact h)))) | quiet_step (((go_at_call 35; exact quiet_call (by have h := isTile_any (tk ts 0) C (gro W2 ‹GP›); rw [HT.out] at h; exact h)))))
          refine wpQuiet_nil ?_
          intro w1 hB1
          have HB1 := Lib.hid hB1; clear hB1
          go_wp2_with fail
          go_roundw
          case rel => exact ⟨below_to HB2.out HB1.out, 0 + 1, by omega, by go_num, fun j hj => by
              obtain rfl : j = 0 := by omega
              exact ⟨HT.out, fun h => absurd h (by omega)⟩⟩
          case measure => simp [intOf]; omega
        | succ k =>
          obtain ⟨b, o, hA', hb, h0, h1, h2, h3⟩ := hT (k + 1) HK.out
          obtain ⟨b', o', hA'', hb', h0', h1', h2', h3'⟩ := hT k (by have := HK.out; omega)
          subst hA'
          obtain ⟨rfl, rfl⟩ : b = b' ∧ o = o' := by injection hA'' with e; injection e with e1 e2; exact ⟨e1, e2⟩
          clear hT hA'' hb'
          have i0 : (k : Int) < n := by omega
          cases hlT : ltT (tk ts k) (tk ts (k + 1))
          · have HL := Lib.hid hlT
            have hge : 0 ≤ cmpL (tk ts k).list (tk ts (k + 1)).list := by
              have : ¬ cmpL (tk ts k).list (tk ts (k + 1)).list < 0 := fun h => by rw [cmp_lt.1 h] at hlT; cases hlT
              omega
            clear hlT
            go_wp2_with fail
            refine name1 ?_
            intro W2 b2 hz2 hb2
            have A0 := cell_to hb2 a0; have A1 := cell_to hb2 a1; have L1 := lt_to hb2 l1; have L2 := lt_to hb2 hb
            have H0' := cell_to hb2 h0'; have H1' := cell_to hb2 h1'; have H2' := cell_to hb2 h2'; have H3' := cell_to hb2 h3'
            have H0 := cell_to hb2 h0; have H1 := cell_to hb2 h1; have H2 := cell_to hb2 h2; have H3 := cell_to hb2 h3
            have c0 : W2.cell? ⟨wr.heap.size, 0, none⟩ = some (.int .i64 ((tk ts (k + 1)).get 0)) := b2.cell rfl
            have c1 : W2.cell? ⟨wr.heap.size, 1, none⟩ = some (.int .i64 ((tk ts (k + 1)).get 1)) := b2.cell rfl
            have c2 : W2.cell? ⟨wr.heap.size, 2, none⟩ = some (.int .i64 ((tk ts (k + 1)).get 2)) := b2.cell rfl
            have c3 : W2.cell? ⟨wr.heap.size, 3, none⟩ = some (.int .i64 ((tk ts (k + 1)).get 3)) := b2.cell rfl
            have L3 := b2.lt
            have HE2 := Lib.hid (below_to HE.out hb2); have HB2 := Lib.hid (below_to HB.out hb2)
            clear hb2 hz2 b2 a0 a1 l1 h0 h1 h2 h3 hb h0' h1' h2' h3'
            refine wp_region_gro (by kernel_rfl) (by kernel_rfl) ?_
            repeat (first | go_big_quiet_step (((first | (go_at_call 35; exact quiet_call (by have h := isTile_any (tk ts (k + 1)) C (gro W2 ‹GP›); rw [HT.out] at h; exact h)) | (go_at_call 36; exact quiet_call (by have h := compare_any (tk ts k) (tk ts (k + 1)) (gro W2 ‹GP›); exact h))))) | quiet_step (((first | (go_at_call 35; exact quiet_call (by have h := isTile_any (tk ts (k + 1)) C (gro W2 ‹GP›); rw [HT.out] at h; exact h)) | (go_at_call 36; exact quiet_call (by have h := compare_any (tk ts k) (tk ts (k + 1)) (gro W2 ‹GP›); exact h))))))
            refine wpQuiet_nil ?_
            intro w1 hB1
            have HB1 := Lib.hid hB1; clear hB1
            go_wp2_with fail
            go_ret
            exact ⟨ret_bool (isS_notOk HK.out (.inr ⟨by omega, by rw [Nat.add_sub_cancel]; exact HL.out⟩)).symm, below_to HE2.out HB1.out⟩
          · have HL := Lib.hid hlT
            have hge : cmpL (tk ts k).list (tk ts (k + 1)).list < 0 := cmp_lt.2 hlT
            clear hlT
            go_wp2_with fail
            refine name1 ?_
            intro W2 b2 hz2 hb2
            have A0 := cell_to hb2 a0; have A1 := cell_to hb2 a1; have L1 := lt_to hb2 l1; have L2 := lt_to hb2 hb
            have H0' := cell_to hb2 h0'; have H1' := cell_to hb2 h1'; have H2' := cell_to hb2 h2'; have H3' := cell_to hb2 h3'
            have H0 := cell_to hb2 h0; have H1 := cell_to hb2 h1; have H2 := cell_to hb2 h2; have H3 := cell_to hb2 h3
            have c0 : W2.cell? ⟨wr.heap.size, 0, none⟩ = some (.int .i64 ((tk ts (k + 1)).get 0)) := b2.cell rfl
            have c1 : W2.cell? ⟨wr.heap.size, 1, none⟩ = some (.int .i64 ((tk ts (k + 1)).get 1)) := b2.cell rfl
            have c2 : W2.cell? ⟨wr.heap.size, 2, none⟩ = some (.int .i64 ((tk ts (k + 1)).get 2)) := b2.cell rfl
            have c3 : W2.cell? ⟨wr.heap.size, 3, none⟩ = some (.int .i64 ((tk ts (k + 1)).get 3)) := b2.cell rfl
            have L3 := b2.lt
            have HE2 := Lib.hid (below_to HE.out hb2); have HB2 := Lib.hid (below_to HB.out hb2)
            clear hb2 hz2 b2 a0 a1 l1 h0 h1 h2 h3 hb h0' h1' h2' h3'
            refine wp_region_gro (by kernel_rfl) (by kernel_rfl) ?_
            repeat (first | go_big_quiet_step (((first | (go_at_call 35; exact quiet_call (by have h := isTile_any (tk ts (k + 1)) C (gro W2 ‹GP›); rw [HT.out] at h; exact h)) | (go_at_call 36; exact quiet_call (by have h := compare_any (tk ts k) (tk ts (k + 1)) (gro W2 ‹GP›); exact h))))) | quiet_step (((first | (go_at_call 35; exact quiet_call (by have h := isTile_any (tk ts (k + 1)) C (gro W2 ‹GP›); rw [HT.out] at h; exact h)) | (go_at_call 36; exact quiet_call (by have h := compare_any (tk ts k) (tk ts (k + 1)) (gro W2 ‹GP›); exact h))))))
            refine wpQuiet_nil ?_
            intro w1 hB1
            have HB1 := Lib.hid hB1; clear hB1
            go_wp2_with fail
            go_roundw
            case rel => exact ⟨below_to HB2.out HB1.out, k + 1 + 1, by omega, by go_num, fun j hj => by
                by_cases e : j = k + 1
                · subst e; exact ⟨HT.out, fun _ => by rw [Nat.add_sub_cancel]; exact HL.out⟩
                · exact HALL.out j (by omega)⟩
            case measure => simp [intOf]; omega
    · have HK := Lib.hid (show k = ts.length by have := HN.out; omega)
      cases hC : inB C 1 6
      · have HC := Lib.hid hC; clear hC
        go_wp2_with fail
        refine (within_any _ _ _ _).mono ?_
        rintro e w' ⟨rfl, rfl⟩
        rw [HC.out]
        go_wp2_with fail
        go_ret
        exact ⟨ret_bool (isS_c HC.out).symm, HE.out⟩
      · have HC := Lib.hid hC; clear hC
        have HF := Lib.hid (isS_end (c := C) (ts := ts) (by rw [← HK.out]; exact HALL.out))
        by_cases h16 : n ≤ 16
        all_goals
          go_wp2_with fail
          refine (within_any _ _ _ _).mono ?_
          rintro e w' ⟨rfl, rfl⟩
          rw [HC.out]
          go_wp2_with fail
          go_ret
          refine ⟨ret_bool ?_, HE.out⟩
          rw [← HF.out, HC.out, ← HN.out]
          simp; omega
end Go.Proofs.YtbcnddeelefomaaDoor

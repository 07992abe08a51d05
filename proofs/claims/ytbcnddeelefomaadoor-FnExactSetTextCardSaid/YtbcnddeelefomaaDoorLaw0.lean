/-
  Contracts of the laws' own helpers: arguments copied, sized, compared.
-/
import Derived.Test.YtbcnddeelefomaaDoorTile
namespace Go.Proofs.YtbcnddeelefomaaDoor
open Go Go.RowKit Go.Proofs
set_option linter.unusedVariables false
set_option linter.unusedSimpArgs false

set_option maxHeartbeats 400000 in
theorem szTileS_any (A : Option Addr) (n c : Nat) (left : Int) (w : World) (hn : n ≤ 35184372088832) (h0 : 0 ≤ left) (hl : left ≤ 1048576) :
    Calls Tryd.prog 17 #[.slice A n c, .int .i64 left] w fun e w' => e = .returned (.int .i64 (if left < n then -1 else left - n)) ∧ w = w' := by
  by_cases h : (n : Int) ≤ left
  · have h' : ¬ left - n < 0 := by omega
    go_enter Tryd.func17, Tryd.ntmps17
    go_wp2
    go_ret
    exact ⟨rfl, rfl⟩
  · have h' : left - n < 0 := by omega
    go_enter Tryd.func17, Tryd.ntmps17
    go_wp2
    go_ret
    exact ⟨rfl, rfl⟩
set_option maxHeartbeats 400000 in
theorem szSet_any (C : Int) (A : Option Addr) (n c : Nat) (left : Int) (w : World) (hn : n ≤ 35184372088832) (h0 : 0 ≤ left) (hl : left ≤ 1048576) :
    Calls Tryd.prog 6 #[.agg #[.int .i64 C, .slice A n c], .int .i64 left] w fun e w' => e = .returned (.int .i64 (if left < n then -1 else left - n)) ∧ Below w.heap.size w w' := by
  by_cases h : (n : Int) ≤ left
  · have h' : ¬ left - n < 0 := by omega
    go_enter Tryd.func6, Tryd.ntmps6
    go_wp2_with fail
    refine (szTileS_any _ _ _ _ _ hn h0 hl).mono ?_
    rintro e w' ⟨rfl, rfl⟩
    rw [if_neg (show ¬ left < (n : Int) by omega)]
    go_wp2
    go_ret
    exact ⟨rfl, by simpa using (Below.refl _ _).alloc (Nat.le_refl _) _⟩
  · have h' : left - n < 0 := by omega
    go_enter Tryd.func6, Tryd.ntmps6
    go_wp2_with fail
    refine (szTileS_any _ _ _ _ _ hn h0 hl).mono ?_
    rintro e w' ⟨rfl, rfl⟩
    rw [if_pos (show left < (n : Int) by omega)]
    go_wp2
    go_ret
    exact ⟨rfl, by simpa using (Below.refl _ _).alloc (Nat.le_refl _) _⟩

set_option maxHeartbeats 400000 in
theorem toTile_any (t : T4) (w : World) :
    Calls Tryd.prog 34 #[.agg t.arr] w fun e w' => e = .returned (.agg t.arr) ∧ Below w.heap.size w w' := by
  go_enter Tryd.func34, Tryd.ntmps34
  go_wp2
  refine name3 ?_
  intro W1 b1 b2 b3 hz hb0
  have HB0 := Lib.hid hb0; have HZ := Lib.hid hz; clear hb0 hz
  go_loopw [4] (fun i wr => Below (w.heap.size + 2) W1 wr ∧ ∃ k : Nat, k ≤ 4 ∧ i = .int .i64 k ∧ ∃ C, BK wr (w.heap.size + 2) C 50 ∧ C.size = 4 ∧ ∀ j, j < k → C[j]? = some (.int .i64 (t.get j))) (fun i _ => 4 - (intOf i).toNat)
  case atStart => exact ⟨Below.refl _ _, 0, by omega, rfl, _, b3, rfl, fun j h => by omega⟩
  case round =>
    obtain ⟨hB, k, hk, rfl, C, b3', hsz, hall⟩ := hrel
    have HB := Lib.hid hB; have HA := Lib.hid hall; have HS := Lib.hid hsz; clear hB hall hsz
    by_cases hlt : k < 4
    · have hI : (k : Int) < 4 := by omega
      have c1 := (b1.below HB.out (by omega)).cell (t.cell k hlt)
      obtain ⟨x, hx⟩ : ∃ x, C[k]? = some x := ⟨_, Array.getElem?_eq_getElem (by rw [HS.out]; exact hlt)⟩
      have c3 := b3'.cell hx
      have f3 := b3'.frozen k
      go_wp2
      go_roundw
      case rel => exact ⟨HB.out.setCell (by simp) _, k + 1, by omega, by go_num, _, b3'.set k _, by rw [Array.size_setIfInBounds, HS.out], fun j hj => by
          rw [Array.getElem?_setIfInBounds, HS.out]
          by_cases e : k = j
          · subst e; rw [if_pos rfl, if_pos hlt]
          · rw [if_neg e]; exact HA.out j (by omega)⟩
      case measure => simp [intOf]; omega
    · have e4 : k = 4 := by omega
      have a0 := b3'.cell (HA.out 0 (by omega)); have a1 := b3'.cell (HA.out 1 (by omega)); have a2 := b3'.cell (HA.out 2 (by omega)); have a3 := b3'.cell (HA.out 3 (by omega))
      have b2' := b2.below HB.out (by omega)
      have z0 := b2'.cell (k := 0) rfl; have z1 := b2'.cell (k := 1) rfl; have z2 := b2'.cell (k := 2) rfl; have z3 := b2'.cell (k := 3) rfl
      have f0 := b2'.frozen 0; have f1 := b2'.frozen 1; have f2 := b2'.frozen 2; have f3 := b2'.frozen 3
      have HE := Lib.hid e4; clear e4
      go_wp2
      refine bodyPost_ret (v := .agg t.arr) ?_ rfl ⟨rfl, ?_⟩
      · simp [results, Tryd.results34, go_sem, *, T4.arr]
      · exact ((((HB0.out.trans (HB.out.mono (by omega))).setCell (by simp) _).setCell (by simp) _).setCell (by simp) _).setCell (by simp) _

theorem info50 : (Tryd.prog.info? 50).map (fun i => (i.zero, i.size, i.bytes)) = some (some (.agg #[.int .i64 0, .int .i64 0, .int .i64 0, .int .i64 0]), 4, 32) := by kernel_rfl
set_option maxHeartbeats 1000000 in
theorem toTileS_any (A : Option Addr) (ts : List T4) (c : Nat) (w : World) (hA : RT w A ts) (hl : ts.length ≤ 1048576) :
    Calls Tryd.prog 20 #[.slice A ts.length c] w fun e w' => ∃ v, e = .returned v ∧ OT w' w.heap.size 50 v ts ∧ Below w.heap.size w w' := by
  have hmk := make_row (P := Tryd.prog) 28 50 _ 4 32 Tryd.underlying28 info50 rfl (by decide) ts.length (by omega)
  have HA := Lib.hid hA; clear hA
  go_enter Tryd.func20, Tryd.ntmps20
  go_wp2
  refine name1 ?_
  intro W1 b1 hz hb0
  have HB0 := Lib.hid hb0; have HZ := Lib.hid hz; clear hb0 hz
  go_loopw [4] (fun i wr => Below w.heap.size w wr ∧ ∃ k : Nat, k ≤ ts.length ∧ i = .int .i64 k ∧ ∃ C, BK wr w.heap.size C 50 ∧ C.size = ts.length * 4 ∧ TilesIn C ts k) (fun i _ => ts.length - (intOf i).toNat)
  case atStart => exact ⟨HB0.out, 0, by omega, rfl, _, b1, made_size _ _, fun j h => absurd h (by omega)⟩
  case round =>
    obtain ⟨hB, k, hk, rfl, C, b3, hsz, hall⟩ := hrel
    have hT := HA.out.below hB
    have HB := Lib.hid hB; have HC := Lib.hid hall; have HS := Lib.hid hsz; clear hB hall hsz
    by_cases hlt : k < ts.length
    · obtain ⟨b, o, rfl, hb, h0, h1, h2, h3⟩ := hT k hlt
      clear hT
      go_wp2_with fail
      refine (toTile_any (tk ts k) _).mono ?_
      rintro e w1 ⟨rfl, hB1⟩
      have b3' := b3.below hB1 b3.lt
      have get (j : Nat) (hj : j < 4) : ∃ x, w1.cell? ⟨w.heap.size, k * 4 + j, none⟩ = some x := ⟨_, b3'.cell (Array.getElem?_eq_getElem (by rw [HS.out]; omega))⟩
      obtain ⟨x0, c0⟩ := get 0 (by omega); obtain ⟨x1, c1⟩ := get 1 (by omega); obtain ⟨x2, c2⟩ := get 2 (by omega); obtain ⟨x3, c3⟩ := get 3 (by omega)
      have f0 := b3'.frozen (k * 4); have f1 := b3'.frozen (k * 4 + 1); have f2 := b3'.frozen (k * 4 + 2); have f3 := b3'.frozen (k * 4 + 3)
      have HB1 := Lib.hid hB1; clear hB1 get
      simp only [Nat.add_zero] at c0
      simp only [T4.arr]
      go_wp2
      go_roundw
      case rel => exact ⟨below_set4 (HB.out.trans (HB1.out.mono HB.out.size)) (Nat.le_refl _) _ _ _ _ _, k + 1, by omega, by go_num, _, b3'.setT _ _, by rw [setT_size, HS.out], HC.out.step (by rw [HS.out]; omega)⟩
      case measure => simp [intOf]; omega
    · go_wp2
      go_ret
      exact ⟨_, rfl, OT.of_block b3 (Nat.le_refl _) HS.out (Nat.le_refl _) (by omega) fun k' h' => HC.out k' (by omega), HB.out⟩

set_option maxHeartbeats 1000000 in
theorem toSet_any (C : Int) (A : Option Addr) (ts : List T4) (n c : Nat) (w : World) (hn : n = ts.length) (hA : RT w A ts) (hl : ts.length ≤ 1048576) :
    Calls Tryd.prog 8 #[.agg #[.int .i64 C, .slice A n c]] w fun e w' => ∃ v, e = .returned (.agg #[.int .i64 C, v]) ∧ OT w' w.heap.size 50 v ts ∧ Below w.heap.size w w' := by
  subst hn
  have HA := Lib.hid hA; clear hA
  go_enter Tryd.func8, Tryd.ntmps8
  go_wp2_with fail
  refine namec3 ?_
  intro W1 b1 b2 b3 hz hb0
  refine (toTileS_any A ts c W1 (HA.out.below hb0) hl).mono ?_
  rintro e w1 ⟨v, rfl, hO, hB1⟩
  have b2' := b2.below hB1 b2.lt; have b3' := b3.below hB1 b3.lt
  have HB0 := Lib.hid hb0; have HZ := Lib.hid hz; have HB1 := Lib.hid hB1; have HO := Lib.hid hO; clear hb0 hz hB1 hO
  obtain ⟨A', c', rfl, -, -⟩ := HO.out.reads
  have a0 := b3'.cell (k := 0) rfl; have a1 := b3'.cell (k := 1) rfl
  have z0 := b2'.cell (k := 0) rfl; have z1 := b2'.cell (k := 1) rfl
  have f0 := b2'.frozen 0; have f1 := b2'.frozen 1; have g1 := b3'.frozen 1
  go_wp2
  refine bodyPost_ret (v := .agg #[.int .i64 C, .slice A' ts.length c']) ?_ rfl ⟨_, rfl, ?_, ?_⟩
  · simp [results, Tryd.results8, go_sem, z0, z1, f0, f1]
  · have hz := HZ.out
    exact own_base (ownsRow_setCell_below (ownsRow_setCell_below (ownsRow_setCell_below HO.out (by simp; omega) _) (by simp; omega) _) (by simp; omega) _) (by omega)
  · exact (((HB0.out.trans (HB1.out.mono HB0.out.size)).setCell (by simp; omega) _).setCell (by simp) _).setCell (by simp) _
set_option maxHeartbeats 1000000 in
theorem eqTileS_any (A A' : Option Addr) (ts us : List T4) (n m c c' : Nat) (w : World) (hn : n = ts.length) (hm : m = us.length) (hA : RT w A ts) (hA' : RT w A' us) (hl : ts.length ≤ 35184372088832) (hl' : us.length ≤ 35184372088832) :
    Calls Tryd.prog 23 #[.slice A n c, .slice A' m c'] w fun e w' => e = .returned (.bool (decide (ts = us))) ∧ Below w.heap.size w w' := by
  have HA := Lib.hid hA; have HA' := Lib.hid hA'; clear hA hA'
  by_cases hlen : n = m
  · have HL := Lib.hid (show ts.length = us.length by omega); have HN := Lib.hid hn; have HM := Lib.hid hlen
    have h1 : ((n : Int) != m) = false := by simp [hlen]
    have hn0 : n ≤ 35184372088832 := by omega
    clear hlen hn hm
    go_enter Tryd.func23, Tryd.ntmps23
    go_wp2
    go_loopw [5] (fun i wr => Below w.heap.size w wr ∧ ∃ k : Nat, k ≤ n ∧ i = .int .i64 k ∧ ∀ j, j < k → tk ts j = tk us j) (fun i _ => n - (intOf i).toNat)
    case atStart => exact ⟨Below.refl _ _, 0, by omega, rfl, fun j h => absurd h (by omega)⟩
    case round =>
      obtain ⟨hB, k, hk, rfl, hall⟩ := hrel
      have hT := HA.out.below hB
      have hT' := HA'.out.below hB
      have HB := Lib.hid hB; have HALL := Lib.hid hall; clear hB hall
      by_cases hlt : k < n
      · obtain ⟨b, o, rfl, hb, h0, h1, h2, h3⟩ := hT k (by have := HN.out; omega)
        obtain ⟨b', o', rfl, hb', h0', h1', h2', h3'⟩ := hT' k (by have := HN.out; have := HL.out; omega)
        have i1 : (k : Int) < n := by omega
        have i2 : (k : Int) < m := by have := HM.out; omega
        clear hT hT'
        by_cases he : tk ts k = tk us k
        · have HE := Lib.hid (show decide (tk ts k = tk us k) = true by simpa using he); clear he
          go_wp2
          refine wp_region_gro (by kernel_rfl) (by kernel_rfl) ?_
          repeat (first | go_big_quiet_step (((go_at_call 41; exact quiet_call (by have h := eqTile_any (tk ts k) (tk us k) (gro wr ‹GP›); rw [HE.out] at h; exact h)))) | quiet_step (((go_at_call 41; exact quiet_call (by have h := eqTile_any (tk ts k) (tk us k) (gro wr ‹GP›); rw [HE.out] at h; exact h)))))
          refine wpQuiet_nil ?_
          intro w1 hB1
          have HB1 := Lib.hid hB1; clear hB1
          go_wp2
          go_roundw
          case rel => exact ⟨HB.out.trans (HB1.out.mono HB.out.size), k + 1, by omega, by go_num, fun j hj => by
            by_cases e : j = k
            · subst e; exact of_decide_eq_true HE.out
            · exact HALL.out j (by omega)⟩
          case measure => simp [intOf]; omega
        · have HE := Lib.hid (show decide (tk ts k = tk us k) = false by simpa using he); clear he
          go_wp2
          refine wp_region_gro (by kernel_rfl) (by kernel_rfl) ?_
          repeat (first | go_big_quiet_step (((go_at_call 41; exact quiet_call (by have h := eqTile_any (tk ts k) (tk us k) (gro wr ‹GP›); rw [HE.out] at h; exact h)))) | quiet_step (((go_at_call 41; exact quiet_call (by have h := eqTile_any (tk ts k) (tk us k) (gro wr ‹GP›); rw [HE.out] at h; exact h)))))
          refine wpQuiet_nil ?_
          intro w1 hB1
          have HB1 := Lib.hid hB1; clear hB1
          go_wp2
          go_ret
          exact ⟨ret_bool (by have : ts ≠ us := fun e => of_decide_eq_false HE.out (by rw [e])
                              simp [this]), HB.out.trans (HB1.out.mono HB.out.size)⟩
      · go_wp2
        go_ret
        exact ⟨ret_bool (by have : ts = us := eq_of_tk HL.out fun j hj => HALL.out j (by have := HN.out; omega)
                            simp [this]), HB.out⟩
  · have h1 : ((n : Int) != m) = true := by simp; omega
    have HL := Lib.hid (show ts.length ≠ us.length by omega); clear hlen hn hm
    go_enter Tryd.func23, Tryd.ntmps23
    go_wp2
    go_ret
    exact ⟨ret_bool (by have : ts ≠ us := fun e => HL.out (by rw [e])
                        simp [this]), Below.refl _ _⟩

set_option maxHeartbeats 1000000 in
theorem eqSet_any (C D : Int) (A A' : Option Addr) (ts us : List T4) (n m c c' : Nat) (w : World) (hn : n = ts.length) (hm : m = us.length) (hA : RT w A ts) (hA' : RT w A' us) (hl : ts.length ≤ 35184372088832) (hl' : us.length ≤ 35184372088832) :
    Calls Tryd.prog 10 #[.agg #[.int .i64 C, .slice A n c], .agg #[.int .i64 D, .slice A' m c']] w fun e w' => e = .returned (.bool (decide (C = D) && decide (ts = us))) ∧ Below w.heap.size w w' := by
  have HA := Lib.hid hA; have HA' := Lib.hid hA'; clear hA hA'
  by_cases hC : C = D
  · have HC := Lib.hid hC; clear hC
    have h1 : (C != D) = false := by simp [HC.out]
    have HN := Lib.hid hn; have HM := Lib.hid hm; clear hn hm
    cases hb : decide (ts = us)
    all_goals
      have HT := Lib.hid hb; clear hb
      go_enter Tryd.func10, Tryd.ntmps10
      go_wp2_with fail
      refine namec2 ?_
      intro W1 b1 b2 hz hb0
      refine (eqTileS_any A A' ts us n m c c' W1 HN.out HM.out (HA.out.below hb0) (HA'.out.below hb0) hl hl').mono ?_
      rintro e w1 ⟨rfl, hB1⟩
      rw [HT.out]
      have HB0 := Lib.hid hb0; have HB1 := Lib.hid hB1; clear hb0 hB1 hz b1 b2
      go_wp2
      go_ret
      exact ⟨ret_bool (by simp [HC.out]), below_to HB0.out HB1.out⟩
  · have HC := Lib.hid hC; clear hC
    have h1 : (C != D) = true := by simpa using HC.out
    clear hn hm
    go_enter Tryd.func10, Tryd.ntmps10
    go_wp2
    go_ret
    exact ⟨ret_bool (by simp [HC.out]), ((Below.refl _ _).alloc (Nat.le_refl _) _).alloc (by simp) _⟩
end Go.Proofs.YtbcnddeelefomaaDoor

/-
  CountRows: both count the rows with the bound.
-/
import Derived.Test.YtenlcakpcbmmdaaPWaysI
import Derived.Test.YtenlcakpcbmmdaaPCount
import Derived.Test.YtenlcakpcbmmdaaQSpecCountRows
import Derived.Test.YtenlcakpcbmmdaaQImplCountRows
namespace Go.Proofs.Ytenlcakpcbmmdaa
open Go Go.RowKit Go.Proofs Go.Proofs.YtenlcakpcbmmdaaW.PrintWords Go.Proofs.YtenlcakpcbmmdaaW.PrintMore Go.Proofs.Ytenlcakpcbmmdaa.Q
set_option linter.unusedVariables false
set_option linter.unusedSimpArgs false

/-- what CountRows returns -/
def rowsR (C : Int) (ts : List T4) (n : Int) : Int × Int :=
  if isS C ts = true then if inB n 1 40 = true then toldI (total C.toNat (List.replicate n.toNat (ts.map toS))) else (0, 2) else (0, 1)
def rowSum (c n : Nat) (l : List STile) (a : Nat) : Int := (waysC c (unit c a) (List.replicate n l)).sum
def rowSums (c n : Nat) (l : List STile) (j : Nat) : Int := ((List.range j).map (rowSum c n l)).sum
theorem rowSums_succ (c n : Nat) (l : List STile) (j : Nat) : rowSums c n l (j + 1) = rowSums c n l j + rowSum c n l j := by simp [rowSums, List.range_succ, List.sum_append]
theorem sum_bd (xs : List Int) (h : ∀ x ∈ xs, 0 ≤ x ∧ x ≤ 1000000000000001) : 0 ≤ xs.sum ∧ xs.sum ≤ 1000000000000001 * xs.length := by
  induction xs with
  | nil => simp
  | cons x xs ih => rw [List.sum_cons, List.length_cons]; have := h x (by simp); have := ih (fun y hy => h y (List.mem_cons_of_mem _ hy)); omega
theorem bd_mem {v : List Int} (h : Bd v) : ∀ x ∈ v, 0 ≤ x ∧ x ≤ 1000000000000001 := by
  intro x hx
  obtain ⟨i, hi, rfl⟩ := List.getElem_of_mem hx
  have := h i
  simpa [List.getD_eq_getElem?_getD, List.getElem?_eq_getElem hi] using this
theorem unit_dot (c a : Nat) (h : a < c) (p : Nat → Int) : dot (unit c a) p = p a := by
  rw [unit, dot_set _ _ _ _ (by simpa using h), dot_zero]
  have : (List.replicate c (0 : Int)).getD a 0 = 0 := by simp [List.getD_eq_getElem?_getD, List.getElem?_replicate, h]
  rw [this]; omega
theorem cut_unit (c a : Nat) : Cut (unit c a) (unit c a) := by
  refine ⟨rfl, fun i => (bd_unit c a i).1, fun i => ?_⟩
  rw [cap_small]
  by_cases h : a < c
  · rw [unit, getD_set _ _ _ _ (by simpa using h)]
    split
    · omega
    · simp [List.getD_eq_getElem?_getD, List.getElem?_replicate]; split <;> simp
  · rw [unit, List.set_eq_of_length_le (by simp; omega)]; simp [List.getD_eq_getElem?_getD, List.getElem?_replicate]; split <;> simp
theorem cut_map {u v : List Int} (h : Cut u v) : u = v.map cap := by
  apply List.ext_getElem
  · simpa using h.1
  · intro i h1 h2
    have := h.2.2 i
    have hv : i < v.length := by rw [← h.1]; exact h1
    simpa [List.getD_eq_getElem?_getD, List.getElem?_eq_getElem h1, List.getElem?_eq_getElem hv] using this
theorem rowSum_cap (c n : Nat) (l : List STile) (hf : Fine c l) (a : Nat) (ha : a < c) : cap (rowSum c n l a) = cap (paths (List.replicate n l) a) := by
  have hc := cut_ways (List.replicate n l) (fine_rep hf) _ _ (cut_unit c a) (unit_len _ _)
  rw [rowSum, cut_map hc, cap_sum, ways_dot c _ _ (unit_len _ _) (fine_rep hf), unit_dot c a ha]
  intro x hx
  obtain ⟨i, hi, rfl⟩ := List.getElem_of_mem hx
  have := hc.2.1 i
  simpa [List.getD_eq_getElem?_getD, List.getElem?_eq_getElem hi] using this
theorem rowSum_bd (c n : Nat) (l : List STile) (hf : Fine c l) (a : Nat) : 0 ≤ rowSum c n l a ∧ rowSum c n l a ≤ 1000000000000001 * c := by
  have h := sum_bd _ (bd_mem (bd_ways _ (fine_rep (n := n) hf) _ (bd_unit c a) (unit_len _ _)))
  rw [waysC_len _ _ _ (unit_len _ _)] at h
  exact h
theorem rowSums_bd (c n : Nat) (l : List STile) (hf : Fine c l) (j : Nat) : 0 ≤ rowSums c n l j ∧ rowSums c n l j ≤ 1000000000000001 * c * j := by
  induction j with
  | zero => simp [rowSums]
  | succ j ih =>
    rw [rowSums_succ]
    have := rowSum_bd c n l hf j
    have e : (1000000000000001 * (c : Int)) * ((j + 1 : Nat) : Int) = 1000000000000001 * (c : Int) * j + 1000000000000001 * c := by
      push_cast; rw [Int.mul_add]; omega
    rw [e]; omega
theorem rowSums_cap (c n : Nat) (l : List STile) (hf : Fine c l) (j : Nat) (hj : j ≤ c) : cap (rowSums c n l j) = cap ((List.range j).map (paths (List.replicate n l))).sum := by
  induction j with
  | zero => rfl
  | succ j ih =>
    have h1 := rowSums_bd c n l hf j
    have h2 := rowSum_bd c n l hf j
    have h3 : 0 ≤ ((List.range j).map (paths (List.replicate n l))).sum := sum_nn _ (fun x hx => by obtain ⟨y, -, rfl⟩ := List.mem_map.1 hx; exact paths_nn _ _)
    rw [rowSums_succ, ← cap_add h1.1 h2.1, ih (by omega), rowSum_cap c n l hf j (by omega), cap_add h3 (paths_nn _ _)]
    simp [List.range_succ, List.sum_append]
theorem implRows_l1 (x20 : List (List Int)) (x21 y22 : Int) (row : List Int) (r : Int × Int) (hb : Bd row) (hl : row.length ≤ 6) (d : Nat) : ∀ (i : Nat) (s : Int), i + d = row.length → 0 ≤ s → s ≤ 100000000000000000 - 1000000000000001 * d →
    Ev (fun k => impl_CountRows.l0 k (s + (row.drop i).sum) x20 x21 (wrap64 (y22 + 1))) r → Ev (fun k => impl_CountRows.l1 k s x20 x21 y22 row (row.length : Int) (i : Int)) r := by
  induction d with
  | zero =>
    intro i s hi h0 h1 h
    have b1 : ¬ (i : Int) < (row.length : Int) := by omega
    rw [List.drop_of_length_le (by omega)] at h
    refine Ev.step (fun k => ?_) h
    rw [impl_CountRows.l1, if_neg b1]; simp
  | succ d ih =>
    intro i s hi h0 h1 h
    have b1 : (i : Int) < (row.length : Int) := by omega
    have b2 : (0 : Int) ≤ (i : Int) := Int.natCast_nonneg i
    have hw : wrap64 ((i : Int) + 1) = ((i + 1 : Nat) : Int) := by unfold wrap64; omega
    have hx := hb i
    rw [← rd_nat] at hx
    have e : wrap64 (s + rd row (i : Int)) = s + rd row (i : Int) := wrap_id (by omega) (by omega)
    rw [drop_rd row i (by omega), List.sum_cons, ← Int.add_assoc] at h
    refine Ev.step (fun k => ?_) (ih (i + 1) (s + rd row (i : Int)) (by omega) (by omega) (by omega) h)
    rw [impl_CountRows.l1, if_pos b1, if_pos b2, if_pos b1, e, hw]
theorem implRows_l0 (l : List STile) (n c : Nat) (hf : Fine c l) (hc : c ≤ 6) (d : Nat) : ∀ (j : Nat), j + d = c →
    Ev (fun k => impl_CountRows.l0 k (rowSums c n l j) (waysAll c n l c) (c : Int) (j : Int)) (toldI (rowSums c n l c)) := by
  have hlen : (waysAll c n l c).length = c := by simp [waysAll]
  induction d with
  | zero =>
    intro j hj
    have b1 : ¬ (j : Int) < (c : Int) := by omega
    have e : j = c := by omega
    subst e
    refine Ev.step (fun k => ?_) (Ev.now _)
    rw [impl_CountRows.l0, if_neg b1, impl_counted.f, toldI]
    split <;> rfl
  | succ d ih =>
    intro j hj
    have b1 : (j : Int) < (c : Int) := by omega
    have b2 : (0 : Int) ≤ (j : Int) := Int.natCast_nonneg j
    have b3 : (j : Int) < ((waysAll c n l c).length : Int) := by omega
    have hr : rd_L5 (waysAll c n l c) (j : Int) = waysC c (unit c j) (List.replicate n l) := by
      simp [rd_L5, waysAll, List.getD_eq_getElem?_getD, List.getElem?_range (show j < c by omega)]
    have hs := rowSums_bd c n l hf j
    have hwl := waysC_len c (List.replicate n l) (unit c j) (unit_len _ _)
    have hw : wrap64 ((j : Int) + 1) = ((j + 1 : Nat) : Int) := by unfold wrap64; omega
    have hq : rowSums c n l j ≤ 36000000000000036 := by
      refine Int.le_trans hs.2 ?_
      have h1 : 1000000000000001 * (c : Int) ≤ 6000000000000006 := by omega
      have h2 : (0 : Int) ≤ 1000000000000001 * c := by omega
      have h3 : (j : Int) ≤ 6 := by omega
      calc 1000000000000001 * (c : Int) * j ≤ 6000000000000006 * 6 := Int.mul_le_mul h1 h3 (by omega) (by omega)
        _ = _ := by rfl
    refine Ev.step (fun k => ?_) (implRows_l1 (waysAll c n l c) (c : Int) (j : Int) (waysC c (unit c j) (List.replicate n l)) _ (bd_ways _ (fine_rep hf) _ (bd_unit c j) (unit_len _ _)) (by omega) (waysC c (unit c j) (List.replicate n l)).length 0 (rowSums c n l j) (by omega) hs.1 (by rw [hwl]; omega) ?_)
    · rw [impl_CountRows.l0, if_pos b1, if_pos b2, if_pos b3, hr]; rfl
    · rw [List.drop_zero, hw]
      have := ih (j + 1) (by omega)
      rw [rowSums_succ] at this
      exact this
theorem implRows_ev (C : Int) (l : List STile) (n : Int) (hl : l.length ≤ 35184372088832) : Ev (fun k => impl_CountRows.f k C l n) (rowsR C (l.map toT) n) := by
  have hin : inLim l.length = true := by simpa [inLim] using hl
  unfold rowsR
  by_cases hs : isS C (l.map toT) = true
  · rw [if_pos hs, map_toST]
    obtain ⟨hC, hlen, -⟩ := isS_fine hs
    have hf := isS_Fine hs
    by_cases hn : inB n 1 40 = true
    · rw [if_pos hn]
      have hn' := inB_iff.1 hn
      have e : impl_setCode_at_impl_CountRows_1.f C l n = some 0 := by
        simp [impl_setCode_at_impl_CountRows_1.f, impl_IsSet.f, hin, hs, impl_CountRows_1.f, impl_within.f, hn'.1, hn'.2]
      have h := implRows_l0 l n.toNat C.toNat hf (by omega) C.toNat 0 (by omega)
      have e3 : toldI (rowSums C.toNat n.toNat l C.toNat) = toldI (total C.toNat (List.replicate n.toNat l)) := by
        rw [← toldI_cap, rowSums_cap _ _ _ hf _ (Nat.le_refl _), toldI_cap]; rfl
      rw [e3] at h
      have e2 : ((waysAll C.toNat n.toNat l C.toNat).length : Int) = (C.toNat : Int) := by simp [waysAll]
      refine Ev.congr (f := fun k => (impl_Set_ways.f k C l n).bind fun t => impl_CountRows.l0 k 0 t (t.length : Int) 0) (fun k => ?_) (Ev.bind (implWays_ev C l n C.toNat (by omega) (by omega) hf (by omega) (by omega) (by omega)) (by rw [e2]; exact h))
      rw [impl_CountRows.f, e]; rfl
    · rw [if_neg hn]
      have e : impl_setCode_at_impl_CountRows_1.f C l n = some 2 := by
        have hb : (if n ≥ 1 then some (decide (n ≤ 40)) else some false) = some false := by
          have : ¬ (1 ≤ n ∧ n ≤ 40) := fun h => hn (inB_iff.2 h)
          by_cases h1 : n ≥ 1
          · rw [if_pos h1]; simp; omega
          · rw [if_neg h1]
        simp [impl_setCode_at_impl_CountRows_1.f, impl_IsSet.f, hin, hs, impl_CountRows_1.f, impl_within.f, hb]
      refine Ev.congr (fun k => ?_) (Ev.now _)
      rw [impl_CountRows.f, e]; rfl
  · rw [if_neg hs]
    have e : impl_setCode_at_impl_CountRows_1.f C l n = some 1 := by
      simp [impl_setCode_at_impl_CountRows_1.f, impl_IsSet.f, hin, hs]
    refine Ev.congr (fun k => ?_) (Ev.now _)
    rw [impl_CountRows.f, e]; rfl
theorem specRows_ev (C : Int) (l : List STile) (n : Int) (hl : l.length ≤ 35184372088832) : Ev (fun k => spec_CountRows.f k C l n) (rowsR C (l.map toT) n) := by
  have hin : inLim l.length = true := by simpa [inLim] using hl
  unfold rowsR
  by_cases hs : isS C (l.map toT) = true
  · rw [if_pos hs, map_toST]
    obtain ⟨hC, hlen, -⟩ := isS_fine hs
    have hf := isS_Fine hs
    by_cases hn : inB n 1 40 = true
    · rw [if_pos hn]
      have hn' := inB_iff.1 hn
      have e : spec_l02Long.f C l n = some 0 := by simp [spec_l02Long.f, spec_l01Is.f, hin, hs, spec_l01In.f, hn'.1, hn'.2]
      have hways := specWays_ev C l (List.replicate C.toNat 1) [] n C.toNat (by omega) (by omega) hf (by omega) (by omega) (by omega) (fun h => by simp at h) (by simp) (bd_ones _)
      rw [layers_nil] at hways
      have hrep := fine_rep (n := n.toNat) hf
      have htot := specTotal_ev (waysC C.toNat (List.replicate C.toNat 1) (List.replicate n.toNat l)) (bd_ways _ hrep _ (bd_ones _) (by simp)) (by rw [waysC_len _ _ _ (by simp)]; omega)
      rw [capSum_ones _ _ hrep] at htot
      refine Ev.congr (f := fun k => (spec_l02Each.f k C).bind fun t => (spec_l02Ways.f k C l t n []).bind fun u => (spec_l02Total.f k u).bind fun v => (spec_l02Told.f v).bind fun b => some (b.1, b.2)) (fun k => ?_)
        (Ev.bind (specEach_ev C C.toNat (by omega) (by omega)) (Ev.bind hways (Ev.bind htot (Ev.congr (fun k => ?_) (Ev.now _)))))
      · rw [spec_CountRows.f, e]; rfl
      · rw [← toldI_cap, toldI, spec_l02Told.f]
        split <;> rfl
    · rw [if_neg hn]
      have e : spec_l02Long.f C l n = some 2 := by
        have hb : (if n ≥ 1 then some (decide (n ≤ 40)) else some false) = some false := by
          have : ¬ (1 ≤ n ∧ n ≤ 40) := fun h => hn (inB_iff.2 h)
          by_cases h1 : n ≥ 1
          · rw [if_pos h1]; simp; omega
          · rw [if_neg h1]
        simp [spec_l02Long.f, spec_l01Is.f, hin, hs, spec_l01In.f, hb]
      refine Ev.congr (fun k => ?_) (Ev.now _)
      rw [spec_CountRows.f, e]; rfl
  · rw [if_neg hs]
    have e : spec_l02Long.f C l n = some 1 := by simp [spec_l02Long.f, spec_l01Is.f, hin, hs]
    refine Ev.congr (fun k => ?_) (Ev.now _)
    rw [spec_CountRows.f, e]; rfl

theorem specCountRows_any (C : Int) (A : Option Addr) (ts : List T4) (n c : Nat) (x : Int) (w : World) (hn : n = ts.length) (hA : RT w A ts) (hnc : n ≤ c) (hl : n ≤ 35184372088832) :
    Calls Try.prog 17 #[.agg #[.int .i64 C, .slice A n c], .int .i64 x] w fun e w' => e = .returned (pairI (rowsR C ts x)) ∧ Below w.heap.size w w' := by
  subst hn
  obtain ⟨k, hk⟩ := (specRows_ev C (ts.map toS) x (by simpa using hl)).rounds
  rw [map_toTS] at hk
  have h := spec_CountRows.calls k C A c (ts.map toS) x (rowsR C ts x).1 (rowsR C ts x).2 w (C_of_rt hA (by omega)) (by simpa using hnc) hk
  rw [List.length_map] at h
  exact h
theorem implCountRows_any (C : Int) (A : Option Addr) (ts : List T4) (n c : Nat) (x : Int) (w : World) (hn : n = ts.length) (hA : RT w A ts) (hnc : n ≤ c) (hl : n ≤ 35184372088832) :
    Calls Try.prog 18 #[.agg #[.int .i64 C, .slice A n c], .int .i64 x] w fun e w' => e = .returned (pairI (rowsR C ts x)) ∧ Below w.heap.size w w' := by
  subst hn
  obtain ⟨k, hk⟩ := (implRows_ev C (ts.map toS) x (by simpa using hl)).rounds
  rw [map_toTS] at hk
  have h := impl_CountRows.calls k C A c (ts.map toS) x (rowsR C ts x).1 (rowsR C ts x).2 w (C_of_rt hA (by omega)) (by simpa using hnc) hk
  rw [List.length_map] at h
  exact h
end Go.Proofs.Ytenlcakpcbmmdaa

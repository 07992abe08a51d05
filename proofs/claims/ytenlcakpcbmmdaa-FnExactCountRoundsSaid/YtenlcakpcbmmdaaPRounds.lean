/-
  CountRounds: both count the rounds with the bound.
-/
import Derived.Test.YtenlcakpcbmmdaaPWaysI
import Derived.Test.YtenlcakpcbmmdaaQSpecCountRounds
import Derived.Test.YtenlcakpcbmmdaaQImplCountRounds
namespace Go.Proofs.Ytenlcakpcbmmdaa
open Go Go.RowKit Go.Proofs Go.Proofs.YtenlcakpcbmmdaaW.PrintWords Go.Proofs.YtenlcakpcbmmdaaW.PrintMore Go.Proofs.Ytenlcakpcbmmdaa.Q
set_option linter.unusedVariables false
set_option linter.unusedSimpArgs false

theorem cap_left {x y : Int} (hx : 0 ≤ x) (hy : 0 ≤ y) : cap (cap x + y) = cap (x + y) := by unfold cap; split <;> split <;> (try split) <;> omega
/-- a number, if it is not too great -/
def toldI (x : Int) : Int × Int := if x > 1000000000000000 then (0, 3) else (x, 0)
theorem toldI_cap (x : Int) : toldI (cap x) = toldI x := by
  unfold toldI cap
  by_cases h : x ≤ 1000000000000000
  · rw [if_pos h]
  · rw [if_neg h, if_pos (by omega), if_pos (by omega)]
def roundAt (c n : Nat) (l : List STile) (a : Nat) : Int := (waysC c (unit c a) (List.replicate n l)).getD a 0
def roundSum (c n : Nat) (l : List STile) (j : Nat) : Int := ((List.range j).map (roundAt c n l)).sum
theorem roundSum_succ (c n : Nat) (l : List STile) (j : Nat) : roundSum c n l (j + 1) = roundSum c n l j + roundAt c n l j := by
  simp [roundSum, List.range_succ, List.sum_append]
theorem bd_ways {c : Nat} (Ls : List (List STile)) (hL : ∀ L ∈ Ls, Fine c L) : ∀ u, Bd u → u.length = c → Bd (waysC c u Ls) := by
  induction Ls with
  | nil => intro u h _; exact h
  | cons L Ls ih => intro u h hu; exact ih (fun M hM => hL M (List.mem_cons_of_mem _ hM)) _ (bd_step h _ (hL L (by simp))) (stepC_len _ _ _)
theorem fine_rep {c n : Nat} {l : List STile} (h : Fine c l) : ∀ L ∈ List.replicate n l, Fine c L := fun L hL => by rw [(List.mem_replicate.1 hL).2]; exact h
theorem roundAt_bd {c n : Nat} {l : List STile} (h : Fine c l) (a : Nat) : 0 ≤ roundAt c n l a ∧ roundAt c n l a ≤ 1000000000000001 := bd_ways _ (fine_rep h) _ (bd_unit c a) (unit_len _ _) a
theorem roundSum_bd {c n : Nat} {l : List STile} (h : Fine c l) (j : Nat) : 0 ≤ roundSum c n l j ∧ roundSum c n l j ≤ 1000000000000001 * j := by
  induction j with
  | zero => simp [roundSum]
  | succ j ih => rw [roundSum_succ]; have := roundAt_bd (n := n) h j; omega
/-- what CountRounds returns -/
def roundsR (C : Int) (ts : List T4) (n : Int) : Int × Int :=
  if isS C ts = true then if inB n 1 40 = true then toldI (roundSum C.toNat n.toNat (ts.map toS) C.toNat) else (0, 2) else (0, 1)

theorem implRounds_l0 (C : Int) (l : List STile) (n c : Nat) (hf : Fine c l) (hc : c ≤ 6) (d : Nat) : ∀ (j : Nat), j + d = c →
    Ev (fun k => impl_CountRounds.l0 k (roundSum c n l j) (waysAll c n l c) (c : Int) (j : Int)) (toldI (roundSum c n l c)) := by
  have hlen : (waysAll c n l c).length = c := by simp [waysAll]
  induction d with
  | zero =>
    intro j hj
    have b1 : ¬ (j : Int) < (c : Int) := by omega
    have e : j = c := by omega
    subst e
    refine Ev.step (fun k => ?_) (Ev.now _)
    rw [impl_CountRounds.l0, if_neg b1, impl_counted.f, toldI]
    split <;> rfl
  | succ d ih =>
    intro j hj
    have b1 : (j : Int) < (c : Int) := by omega
    have b2 : (0 : Int) ≤ (j : Int) := Int.natCast_nonneg j
    have b3 : (j : Int) < ((waysAll c n l c).length : Int) := by omega
    have hr : rd_L5 (waysAll c n l c) (j : Int) = waysC c (unit c j) (List.replicate n l) := by
      simp [rd_L5, waysAll, List.getD_eq_getElem?_getD, List.getElem?_range (show j < c by omega)]
    have b4 : (j : Int) < ((rd_L5 (waysAll c n l c) (j : Int)).length : Int) := by rw [hr, waysC_len _ _ _ (unit_len _ _)]; exact b1
    have hs := roundSum_bd (n := n) hf j
    have ha := roundAt_bd (n := n) hf j
    have hj : (j : Int) ≤ 6 := by omega
    have e1 : wrap64 (roundSum c n l j + rd (rd_L5 (waysAll c n l c) (j : Int)) (j : Int)) = roundSum c n l (j + 1) := by
      rw [hr, rd_nat, roundSum_succ]
      show wrap64 (roundSum c n l j + roundAt c n l j) = _
      rw [wrap_id (by omega) (by omega)]
    have hw : wrap64 ((j : Int) + 1) = ((j + 1 : Nat) : Int) := by rw [wrap_id (by omega) (by omega)]; omega
    refine Ev.step (fun k => ?_) (ih (j + 1) (by omega))
    rw [impl_CountRounds.l0, if_pos b1, if_pos b2, if_pos b3, if_pos b4, e1, hw]
theorem implRounds_ev (C : Int) (l : List STile) (n : Int) (hl : l.length ≤ 35184372088832) : Ev (fun k => impl_CountRounds.f k C l n) (roundsR C (l.map toT) n) := by
  have hin : inLim l.length = true := by simpa [inLim] using hl
  unfold roundsR
  by_cases hs : isS C (l.map toT) = true
  · rw [if_pos hs, map_toST]
    obtain ⟨hC, hlen, -⟩ := isS_fine hs
    have hf := isS_Fine hs
    by_cases hn : inB n 1 40 = true
    · rw [if_pos hn]
      have hn' := inB_iff.1 hn
      have e : impl_setCode_at_impl_CountRounds_1.f C l n = some 0 := by
        simp [impl_setCode_at_impl_CountRounds_1.f, impl_IsSet.f, hin, hs, impl_CountRounds_1.f, impl_within.f, hn'.1, hn'.2]
      have h := implRounds_l0 C l n.toNat C.toNat hf (by omega) C.toNat 0 (by omega)
      have e2 : ((waysAll C.toNat n.toNat l C.toNat).length : Int) = (C.toNat : Int) := by simp [waysAll]
      refine Ev.congr (f := fun k => (impl_Set_ways.f k C l n).bind fun t => impl_CountRounds.l0 k 0 t (t.length : Int) 0) (fun k => ?_) (Ev.bind (implWays_ev C l n C.toNat (by omega) (by omega) hf (by omega) (by omega) (by omega)) (by rw [e2]; exact h))
      rw [impl_CountRounds.f, e]; rfl
    · rw [if_neg hn]
      have e : impl_setCode_at_impl_CountRounds_1.f C l n = some 2 := by
        have hb : (if n ≥ 1 then some (decide (n ≤ 40)) else some false) = some false := by
          have : ¬ (1 ≤ n ∧ n ≤ 40) := fun h => hn (inB_iff.2 h)
          by_cases h1 : n ≥ 1
          · rw [if_pos h1]; simp; omega
          · rw [if_neg h1]
        simp [impl_setCode_at_impl_CountRounds_1.f, impl_IsSet.f, hin, hs, impl_CountRounds_1.f, impl_within.f, hb]
      refine Ev.congr (fun k => ?_) (Ev.now _)
      rw [impl_CountRounds.f, e]; rfl
  · rw [if_neg hs]
    have e : impl_setCode_at_impl_CountRounds_1.f C l n = some 1 := by
      simp [impl_setCode_at_impl_CountRounds_1.f, impl_IsSet.f, hin, hs]
    refine Ev.congr (fun k => ?_) (Ev.now _)
    rw [impl_CountRounds.f, e]; rfl

theorem specRounds_l0 (C : Int) (l : List STile) (n : Int) (c : Nat) (hC : C = (c : Int)) (hf : Fine c l) (hc : c ≤ 6) (hl : l.length ≤ 1000) (hn0 : 0 ≤ n) (hn : n ≤ 1000) (d : Nat) : ∀ (j : Nat), j + d = c →
    Ev (fun k => spec_CountRounds.l0 k n (cap (roundSum c n.toNat l j)) (j : Int) C l) (toldI (roundSum c n.toNat l c)) := by
  induction d with
  | zero =>
    intro j hj
    have b1 : ¬ (j : Int) < C := by omega
    have e : j = c := by omega
    subst e
    refine Ev.step (fun k => ?_) (Ev.now _)
    rw [spec_CountRounds.l0, if_neg b1, spec_l02Told.f, ← toldI_cap, toldI]
    split <;> rfl
  | succ d ih =>
    intro j hj
    have b1 : (j : Int) < C := by omega
    have b0 : (0 : Int) ≤ C := by omega
    have b00 : C.toNat ≤ 35184372088832 := by omega
    have e0 : C.toNat = c := by omega
    have b2 : (0 : Int) ≤ (j : Int) := Int.natCast_nonneg j
    have b3 : (j : Int) < ((List.replicate c (0 : Int)).length : Int) := by simp; omega
    have hs := roundSum_bd (n := n.toNat) hf j
    have ha := roundAt_bd (n := n.toNat) hf j
    have hj : (j : Int) ≤ 6 := by omega
    have hlen := waysC_len c (layers l [] 0 n.toNat) (unit c j) (unit_len _ _)
    have b4 : (j : Int) < ((waysC c (unit c j) (layers l [] 0 n.toNat)).length : Int) := by rw [hlen]; omega
    have e1 : mn (wrap64 (cap (roundSum c n.toNat l j) + rd (waysC c (unit c j) (layers l [] 0 n.toNat)) (j : Int))) 1000000000000001 = cap (roundSum c n.toNat l (j + 1)) := by
      rw [layers_nil, rd_nat, roundSum_succ, mn_cap]
      show cap (wrap64 (cap (roundSum c n.toNat l j) + roundAt c n.toNat l j)) = _
      have := cap_le (roundSum c n.toNat l j); have := cap_nn hs.1
      rw [wrap_id (by omega) (by omega), cap_left hs.1 ha.1]
    have hw : wrap64 ((j : Int) + 1) = ((j + 1 : Nat) : Int) := by rw [wrap_id (by omega) (by omega)]; omega
    have hcall := specWays_ev C l (unit c j) [] n c hC (by omega) hf hl hn0 hn (fun h => by simp at h) (unit_len _ _) (bd_unit _ _)
    refine Ev.step (f := fun k => (spec_l02Ways.f k C l (unit c j) n []).bind fun t => if (j : Int) < (t.length : Int) then spec_CountRounds.l0 k n (mn (wrap64 (cap (roundSum c n.toNat l j) + rd t (j : Int))) 1000000000000001) (wrap64 ((j : Int) + 1)) C l else none) (fun k => ?_) (Ev.bind hcall ?_)
    · rw [spec_CountRounds.l0, if_pos b1, if_pos b0, if_pos b00, e0]
      simp only [Option.bind_some]
      rw [if_pos b2, if_pos b3]
      simp [unit]
    · refine Ev.congr (fun k => ?_) (ih (j + 1) (by omega))
      show (if (j : Int) < ((waysC c (unit c j) (layers l [] 0 n.toNat)).length : Int) then _ else _) = _
      rw [if_pos b4, e1, hw]
theorem specRounds_ev (C : Int) (l : List STile) (n : Int) (hl : l.length ≤ 35184372088832) : Ev (fun k => spec_CountRounds.f k C l n) (roundsR C (l.map toT) n) := by
  have hin : inLim l.length = true := by simpa [inLim] using hl
  unfold roundsR
  by_cases hs : isS C (l.map toT) = true
  · rw [if_pos hs, map_toST]
    obtain ⟨hC, hlen, -⟩ := isS_fine hs
    have hf := isS_Fine hs
    by_cases hn : inB n 1 40 = true
    · rw [if_pos hn]
      have hn' := inB_iff.1 hn
      have e : spec_l02Long.f C l n = some 0 := by
        simp [spec_l02Long.f, spec_l01Is.f, hin, hs, spec_l01In.f, hn'.1, hn'.2]
      have h := specRounds_l0 C l n C.toNat (by omega) hf (by omega) (by omega) (by omega) (by omega) C.toNat 0 (by omega)
      refine Ev.congr (fun k => ?_) h
      rw [spec_CountRounds.f, e]
      simp [roundSum, cap]
    · rw [if_neg hn]
      have e : spec_l02Long.f C l n = some 2 := by
        have hb : (if n ≥ 1 then some (decide (n ≤ 40)) else some false) = some false := by
          have : ¬ (1 ≤ n ∧ n ≤ 40) := fun h => hn (inB_iff.2 h)
          by_cases h1 : n ≥ 1
          · rw [if_pos h1]; simp; omega
          · rw [if_neg h1]
        simp [spec_l02Long.f, spec_l01Is.f, hin, hs, spec_l01In.f, hb]
      refine Ev.congr (fun k => ?_) (Ev.now _)
      rw [spec_CountRounds.f, e]; rfl
  · rw [if_neg hs]
    have e : spec_l02Long.f C l n = some 1 := by simp [spec_l02Long.f, spec_l01Is.f, hin, hs]
    refine Ev.congr (fun k => ?_) (Ev.now _)
    rw [spec_CountRounds.f, e]; rfl

theorem specCountRounds_any (C : Int) (A : Option Addr) (ts : List T4) (n c : Nat) (x : Int) (w : World) (hn : n = ts.length) (hA : RT w A ts) (hnc : n ≤ c) (hl : n ≤ 35184372088832) :
    Calls Try.prog 13 #[.agg #[.int .i64 C, .slice A n c], .int .i64 x] w fun e w' => e = .returned (pairI (roundsR C ts x)) ∧ Below w.heap.size w w' := by
  subst hn
  obtain ⟨k, hk⟩ := (specRounds_ev C (ts.map toS) x (by simpa using hl)).rounds
  rw [map_toTS] at hk
  have h := spec_CountRounds.calls k C A c (ts.map toS) x (roundsR C ts x).1 (roundsR C ts x).2 w (C_of_rt hA (by omega)) (by simpa using hnc) hk
  rw [List.length_map] at h
  exact h
theorem implCountRounds_any (C : Int) (A : Option Addr) (ts : List T4) (n c : Nat) (x : Int) (w : World) (hn : n = ts.length) (hA : RT w A ts) (hnc : n ≤ c) (hl : n ≤ 35184372088832) :
    Calls Try.prog 15 #[.agg #[.int .i64 C, .slice A n c], .int .i64 x] w fun e w' => e = .returned (pairI (roundsR C ts x)) ∧ Below w.heap.size w w' := by
  subst hn
  obtain ⟨k, hk⟩ := (implRounds_ev C (ts.map toS) x (by simpa using hl)).rounds
  rw [map_toTS] at hk
  have h := impl_CountRounds.calls k C A c (ts.map toS) x (roundsR C ts x).1 (roundsR C ts x).2 w (C_of_rt hA (by omega)) (by simpa using hnc) hk
  rw [List.length_map] at h
  exact h
end Go.Proofs.Ytenlcakpcbmmdaa

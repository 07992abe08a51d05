/-
  Plain: what the printed reference of KeepLasting answers.
-/
import Derived.Test.YtgdmflmglkakgaaPKeepP
import Derived.Test.YtgdmflmglkakgaaQSpecKeepLasting
namespace Go.Proofs.Ytgdmflmglkakgaa
open Go Go.RowKit Go.Proofs Go.Proofs.YtgdmflmglkakgaaW.PrintWords Go.Proofs.YtgdmflmglkakgaaW.PrintMore Go.Proofs.Ytgdmflmglkakgaa.Q
set_option linter.unusedVariables false
set_option linter.unusedSimpArgs false

theorem succ_w (i : Nat) (h : i < 1000000000) : wrap64 ((i : Int) + 1) = ((i + 1 : Nat) : Int) := by
  unfold wrap64; omega
theorem rdT_tk {ts : List T4} {i : Nat} (h : i < ts.length) : rd_T63 (ts.map toS) (i : Int) = toS (tk ts i) := by
  unfold rd_T63
  rw [Int.toNat_natCast, List.getD_eq_getElem?_getD, List.getElem?_map, List.getElem?_eq_getElem h, tk_get h]; rfl
theorem rdOf_mk (x : List Bool) (i : Nat) : rdOf false x (i : Int) = mk9 x i := by unfold rdOf mk9; rw [Int.toNat_natCast]
theorem toS_f (t : T4) : (toS t).f0 = t.get 0 ∧ (toS t).f2 = t.get 2 := ⟨rfl, rfl⟩
section
variable {ts : List T4} {C : Int} {R : List Bool}
def wj (ts : List T4) (x : List Bool) (i j : Nat) : Bool := mk9 x j && decide ((tk ts j).get 2 = (tk ts i).get 0)
def ej (ts : List T4) (x : List Bool) (i j : Nat) : Bool := mk9 x j && decide ((tk ts j).get 0 = (tk ts i).get 2)
theorem l3_step {k : Nat} {x : List Bool} {m b7 b8 : Bool} {i j : Nat} (hx : x.length = ts.length) (hn : ts.length ≤ 1000) (hi : i < ts.length) (hj : j < ts.length) :
    spec_l02Lasting.l3 (k + 1) x m (i : Int) b7 b8 (j : Int) C (ts.map toS) = spec_l02Lasting.l3 k x m (i : Int) (b7 || wj ts x i j) (b8 || ej ts x i j) ((j + 1 : Nat) : Int) C (ts.map toS) := by
  have a1 : (j : Int) < (x.length : Int) := by omega
  have a2 : (0 : Int) ≤ (j : Int) := Int.natCast_nonneg j
  have a3 : (j : Int) < ((ts.map toS).length : Int) := by rw [List.length_map]; omega
  have a4 : (0 : Int) ≤ (i : Int) := Int.natCast_nonneg i
  have a5 : (i : Int) < ((ts.map toS).length : Int) := by rw [List.length_map]; omega
  have a6 := succ_w j (by omega)
  have e1 := rdT_tk hj
  have e2 := rdT_tk hi
  rw [spec_l02Lasting.l3, if_pos a1, if_pos a2, if_pos a3, if_pos a4, if_pos a5, a6, e1, e2, rdOf_mk]
  unfold wj ej
  rw [(toS_f (tk ts j)).1, (toS_f (tk ts j)).2, (toS_f (tk ts i)).1, (toS_f (tk ts i)).2]
  have d1 : ((tk ts j).get 2 == (tk ts i).get 0) = decide ((tk ts j).get 2 = (tk ts i).get 0) := by by_cases h : (tk ts j).get 2 = (tk ts i).get 0 <;> simp [h]
  have d2 : ((tk ts j).get 0 == (tk ts i).get 2) = decide ((tk ts j).get 0 = (tk ts i).get 2) := by by_cases h : (tk ts j).get 0 = (tk ts i).get 2 <;> simp [h]
  rw [d1, d2]
  cases b7 <;> cases b8 <;> cases mk9 x j <;> simp [hi, hj]
/-- some k from j on, of d -/
def anyW (p : Nat → Bool) : Nat → Nat → Bool
  | 0, _ => false
  | d + 1, j => p j || anyW p d (j + 1)
theorem anyW_iff {p : Nat → Bool} : ∀ d j, anyW p d j = true ↔ ∃ k, j ≤ k ∧ k < j + d ∧ p k = true
  | 0, j => by simp [anyW]; intro k h1 h2; omega
  | d + 1, j => by
    rw [anyW, Bool.or_eq_true, anyW_iff d (j + 1)]
    constructor
    · rintro (h | ⟨k, h1, h2, h3⟩)
      · exact ⟨j, Nat.le_refl _, by omega, h⟩
      · exact ⟨k, by omega, by omega, h3⟩
    · rintro ⟨k, h1, h2, h3⟩
      by_cases e : k = j
      · subst e; exact .inl h3
      · exact .inr ⟨k, by omega, by omega, h3⟩
theorem l3_go {x : List Bool} {m : Bool} {i : Nat} (hx : x.length = ts.length) (hn : ts.length ≤ 1000) (hi : i < ts.length) : ∀ d j b7 b8, j + d = ts.length →
    Ev (fun k => spec_l02Lasting.l3 k x m (i : Int) (b7 || anyW (wj ts x i) d j) (b8 || anyW (ej ts x i) d j) (ts.length : Int) C (ts.map toS)) R → Ev (fun k => spec_l02Lasting.l3 k x m (i : Int) b7 b8 (j : Int) C (ts.map toS)) R
  | 0, j, b7, b8, hd, h => by
    have e : j = ts.length := by omega
    subst e
    simpa [anyW] using h
  | d + 1, j, b7, b8, hd, h => by
    refine Ev.step (fun k => l3_step hx hn hi (by omega)) (l3_go hx hn hi d (j + 1) _ _ (by omega) ?_)
    rw [anyW, anyW] at h
    rw [Bool.or_assoc, Bool.or_assoc]; exact h
theorem okM_bool {x : List Bool} {i : Nat} : okM ts x i ↔ (anyW (wj ts x i) ts.length 0 = true ∧ anyW (ej ts x i) ts.length 0 = true) := by
  rw [anyW_iff, anyW_iff]
  unfold okM wj ej
  constructor
  · rintro ⟨⟨k, h1, h2, h3⟩, ⟨j, h4, h5, h6⟩⟩
    exact ⟨⟨k, Nat.zero_le _, by omega, by rw [h2, h3]; simp⟩, ⟨j, Nat.zero_le _, by omega, by rw [h5, h6]; simp⟩⟩
  · rintro ⟨⟨k, -, h1, h2⟩, ⟨j, -, h3, h4⟩⟩
    simp only [Bool.and_eq_true, decide_eq_true_eq] at h2 h4
    exact ⟨⟨k, by omega, h2.1, h2.2⟩, ⟨j, by omega, h4.1, h4.2⟩⟩
theorem l2_step {x : List Bool} {m : Bool} {i : Nat} (hx : x.length = ts.length) (hn : ts.length ≤ 1000) (hi : i < ts.length)
    (h : Ev (fun k => spec_l02Lasting.l2 k (nextM ts x m i).1 (nextM ts x m i).2 ((i + 1 : Nat) : Int) C (ts.map toS)) R) : Ev (fun k => spec_l02Lasting.l2 k x m (i : Int) C (ts.map toS)) R := by
  have a1 : (i : Int) < (x.length : Int) := by omega
  have a2 : (0 : Int) ≤ (i : Int) := Int.natCast_nonneg i
  have a6 := succ_w i (by omega)
  have a7 : ¬ (ts.length : Int) < (x.length : Int) := by omega
  refine Ev.step (f := fun k => spec_l02Lasting.l3 k x m (i : Int) false false ((0 : Nat) : Int) C (ts.map toS)) (fun k => ?_) (l3_go (m := m) (C := C) hx hn hi ts.length 0 false false (by omega) (Ev.step (fun k => ?_) h))
  · rw [spec_l02Lasting.l2, if_pos a1]; rfl
  · rw [Bool.false_or, Bool.false_or, spec_l02Lasting.l3, if_neg a7, if_pos a2, if_pos a1, a6, rdOf_mk, Int.toNat_natCast]
    unfold nextM
    by_cases hm : mk9 x i = true
    · rw [if_pos hm]
      by_cases hw : anyW (wj ts x i) ts.length 0 = true
      · rw [if_pos hw]
        by_cases he : anyW (ej ts x i) ts.length 0 = true
        · rw [if_pos he, if_neg (fun h2 => h2.2 (okM_bool.2 ⟨hw, he⟩))]
        · rw [if_neg he, if_pos ⟨hm, fun h2 => he (okM_bool.1 h2).2⟩]
      · rw [if_neg hw, if_pos ⟨hm, fun h2 => hw (okM_bool.1 h2).1⟩]
    · rw [if_neg hm, if_neg (fun h2 => hm h2.1)]
theorem l2_go (hn : ts.length ≤ 1000) : ∀ d x m i, x.length = ts.length → i + d = ts.length →
    Ev (fun k => spec_l02Lasting.l1 k (sweepM ts d x m i).1 (sweepM ts d x m i).2 C (ts.map toS)) R → Ev (fun k => spec_l02Lasting.l2 k x m (i : Int) C (ts.map toS)) R
  | 0, x, m, i, hx, hi, h => by
    have a1 : ¬ (i : Int) < (x.length : Int) := by omega
    refine Ev.step (fun k => ?_) h
    rw [spec_l02Lasting.l2, if_neg a1]; rfl
  | d + 1, x, m, i, hx, hi, h => by
    rw [sweepM] at h
    exact l2_step hx hn (by omega) (l2_go hn d _ _ (i + 1) (by rw [nextM_len]; exact hx) (by omega) h)
theorem l1_go (hn : ts.length ≤ 1000) : ∀ f x, x.length = ts.length → x.count true < f → Ev (fun k => spec_l02Lasting.l1 k x true C (ts.map toS)) (strikeM ts f x)
  | 0, x, hx, h => by omega
  | f + 1, x, hx, h => by
    rw [strikeM]
    refine Ev.step (f := fun k => spec_l02Lasting.l2 k x false ((0 : Nat) : Int) C (ts.map toS)) (fun k => by rw [spec_l02Lasting.l1, if_pos rfl]; rfl) (l2_go hn ts.length x false 0 hx (by omega) ?_)
    obtain ⟨-, a2, -⟩ := sweepM_count ts ts.length x false 0
    by_cases h2 : (sweepM ts ts.length x false 0).2 = true
    · rw [if_pos h2, h2]
      rcases a2 h2 with h3 | h3
      · cases h3
      · exact l1_go hn f _ (by rw [sweepM_len]; exact hx) (by omega)
    · rw [if_neg h2]
      refine Ev.step (fun k => ?_) (Ev.now _)
      rw [spec_l02Lasting.l1, if_neg h2]
theorem l0_go (hn : ts.length ≤ 1000) : ∀ d j, j + d = ts.length → ∀ x : List Bool, x = List.replicate j true ++ List.replicate d false →
    Ev (fun k => spec_l02Lasting.l1 k (List.replicate ts.length true) true C (ts.map toS)) R → Ev (fun k => spec_l02Lasting.l0 k x (j : Int) C (ts.map toS)) R
  | 0, j, hd, x, hx, h => by
    have e : j = ts.length := by omega
    subst e
    rw [List.replicate_zero, List.append_nil] at hx
    subst hx
    refine Ev.step (fun k => ?_) h
    rw [spec_l02Lasting.l0, if_neg (by simp)]
  | d + 1, j, hd, x, hx, h => by
    have hl : x.length = ts.length := by rw [hx]; simp; omega
    have a1 : (j : Int) < (x.length : Int) := by omega
    have a2 : (0 : Int) ≤ (j : Int) := Int.natCast_nonneg j
    refine Ev.step (fun k => ?_) (l0_go hn d (j + 1) (by omega) (x.set j true) ?_ h)
    · rw [spec_l02Lasting.l0, if_pos a1, if_pos a2, succ_w j (by omega), Int.toNat_natCast]
    · rw [hx]
      apply List.ext_getElem
      · simp; omega
      · intro q h1 h2
        rw [List.getElem_set]
        by_cases e : j = q
        · subst e; simp [List.getElem_append]
        · rw [if_neg e]
          simp only [List.getElem_append, List.length_replicate, List.getElem_replicate]
          by_cases h3 : q < j
          · simp [h3, show q < j + 1 by omega]
          · simp [h3, show ¬ q < j + 1 by omega]
end
theorem lasting_ev {ts : List T4} (C : Int) (hn : ts.length ≤ 1000) : Ev (fun k => spec_l02Lasting.f k C (ts.map toS)) (strikeM ts (ts.length + 1) (List.replicate ts.length true)) := by
  have h := l0_go (C := C) hn ts.length 0 (by omega) (List.replicate ts.length false) (by simp) (l1_go hn (ts.length + 1) (List.replicate ts.length true) (by simp) (by simp))
  refine Ev.congr (fun k => ?_) h
  rw [spec_l02Lasting.f, List.length_map, if_pos (Int.natCast_nonneg _), Int.toNat_natCast, if_pos (by omega)]; rfl
/-- the tiles of the mask among the first j -/
def selK (x : List Bool) (ts : List T4) (j : Nat) : List T4 := ((List.range j).filter (fun i => mk9 x i)).map (tk ts)
theorem selK_succ (x : List Bool) (ts : List T4) (j : Nat) : selK x ts (j + 1) = if mk9 x j = true then selK x ts j ++ [tk ts j] else selK x ts j := by
  unfold selK
  rw [List.range_succ, List.filter_append]
  by_cases h : mk9 x j = true
  · rw [if_pos h]; simp [h]
  · rw [if_neg h]; simp [h]
theorem selK_len (x : List Bool) (ts : List T4) (j : Nat) : (selK x ts j).length ≤ j := by
  unfold selK
  have := List.length_filter_le (fun i => mk9 x i) (List.range j)
  rw [List.length_map]; simpa using this
theorem kept_go {ts : List T4} {C : Int} (hn : ts.length ≤ 1000) (x : List Bool) (hx : x.length = ts.length) : ∀ d j, j + d = ts.length →
    Ev (fun k => spec_l04Kept.l0 k x ((selK x ts j).map toS) (j : Int) C (ts.map toS)) (C, (sortT (selL x ts)).map toS)
  | 0, j, hd => by
    have e : j = ts.length := by omega
    subst e
    refine Ev.step (fun k => ?_) (Ev.now _)
    have hl := selK_len x ts ts.length
    rw [spec_l04Kept.l0, if_neg (by omega), spec_l01Made.f, List.length_map, if_pos (by unfold lim6; exact decide_eq_true (by omega)), map_toTS]
    rfl
  | d + 1, j, hd => by
    have a1 : (j : Int) < (x.length : Int) := by omega
    have a2 : (0 : Int) ≤ (j : Int) := Int.natCast_nonneg j
    have a3 : (j : Int) < ((ts.map toS).length : Int) := by rw [List.length_map]; omega
    have hl := selK_len x ts j
    have h := kept_go (C := C) hn x hx d (j + 1) (by omega)
    rw [selK_succ] at h
    refine Ev.step (fun k => ?_) h
    rw [spec_l04Kept.l0, if_pos a1, if_pos a2, rdOf_mk, succ_w j (by omega), rdT_tk (by omega)]
    by_cases hm : mk9 x j = true
    · rw [if_pos hm, if_pos hm, if_pos a3, if_pos (by rw [List.length_map]; omega), List.map_append]; rfl
    · rw [if_neg hm, if_neg hm]
theorem specKeep_ev (C : Int) (ts : List T4) (hl : ts.length ≤ 35184372088832) : Ev (fun k => spec_KeepLasting.f k C (ts.map toS)) ((keepR C ts).1.1, (keepR C ts).1.2.map toS, (keepR C ts).2) := by
  refine Ev.congr (fun k => by rw [spec_KeepLasting.f, spec_l01Is.f, List.length_map, if_pos (by unfold inLim; exact decide_eq_true hl), map_toTS]) ?_
  unfold keepR
  cases hs : isS C ts with
  | false => exact Ev.congr (fun k => by rw [Option.bind_some, if_neg (by decide)]; rfl) (Ev.now _)
  | true =>
    obtain ⟨-, h16, hok⟩ := isS_iff.1 hs
    have ha := asc_of_ok hok
    have hk := strike_keep ha
    have hM := lasting_ev C (ts := ts) (by omega)
    have hL := kept_go (ts := ts) (C := C) (by omega) (strikeM ts (ts.length + 1) (List.replicate ts.length true)) (by rw [strikeM_len]; simp) ts.length 0 (by omega)
    have hS : sortT (selL (strikeM ts (ts.length + 1) (List.replicate ts.length true)) ts) = keepS ts.length ts := by
      rw [hk]; exact sort_sub hok (keepS_sub _ _)
    rw [hS] at hL
    have hf : Ev (fun k => spec_l04Kept.f k C (ts.map toS)) (C, (keepS ts.length ts).map toS) := Ev.congr (fun k => by rw [spec_l04Kept.f]) (Ev.bind (f := fun n t269 => spec_l04Kept.l0 n t269 ([] : List STile) 0 C (ts.map toS)) hM hL)
    exact Ev.congr (fun k => by rw [Option.bind_some, if_pos rfl]) (Ev.bind (f := fun n bt287 => some (bt287.1, bt287.2, 0)) hf (Ev.now _))
theorem specKeepLasting_any (C : Int) (A : Option Addr) (ts : List T4) (n c : Nat) (w : World) (hn : n = ts.length) (hA : RT w A ts) (hnc : n ≤ c) (hl : n ≤ 35184372088832) :
    Calls Try.prog 20 #[.agg #[.int .i64 C, .slice A n c]] w fun e w' => ∃ v xc xs code, keepR C ts = ((xc, xs), code) ∧ e = .returned (.tuple #[.agg #[.int .i64 xc, v], .int .i64 code]) ∧ OW w' w.heap.size w'.heap.size 63 4 v xs.length (tcells xs) ∧ Below w.heap.size w w' := by
  subst hn
  obtain ⟨k, hk⟩ := (specKeep_ev C ts hl).rounds
  have h := spec_KeepLasting.calls k C A c (ts.map toS) _ _ _ w (C_of_rt hA (by omega)) (by simpa using hnc) hk
  rw [List.length_map] at h
  exact h.mono fun e w' ⟨v, he, hR, hB⟩ => ⟨v, _, _, _, rfl, he, ow_of_RT hR, hB⟩
end Go.Proofs.Ytgdmflmglkakgaa

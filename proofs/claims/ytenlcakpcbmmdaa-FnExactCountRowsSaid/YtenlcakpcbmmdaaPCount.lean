/-
  Plain laws: what the counts of the next laws have in common.
-/
import Derived.Test.YtenlcakpcbmmdaaPWays
import Derived.Test.YtenlcakpcbmmdaaQSpecL02Each
import Derived.Test.YtenlcakpcbmmdaaQSpecL02Total
namespace Go.Proofs.Ytenlcakpcbmmdaa
open Go Go.RowKit Go.Proofs Go.Proofs.YtenlcakpcbmmdaaW.PrintWords Go.Proofs.YtenlcakpcbmmdaaW.PrintMore Go.Proofs.Ytenlcakpcbmmdaa.Q
set_option linter.unusedVariables false
set_option linter.unusedSimpArgs false

theorem specEach_ev (C : Int) (c : Nat) (hC : C = (c : Int)) (hc : c ≤ 1000) : Ev (fun k => spec_l02Each.f k C) (List.replicate c 1) := by
  have go : ∀ d j, j + d = c → Ev (fun k => spec_l02Each.l0 k C (List.replicate j 1) (j : Int)) (List.replicate c 1) := by
    intro d
    induction d with
    | zero =>
      intro j hj
      have b1 : ¬ (j : Int) < C := by omega
      have e : j = c := by omega
      subst e
      refine Ev.step (fun k => ?_) (Ev.now _)
      rw [spec_l02Each.l0, if_neg b1]
    | succ d ih =>
      intro j hj
      have b1 : (j : Int) < C := by omega
      have b2 : (List.replicate j (1 : Int)).length < 17592186044416 := by simp; omega
      have hw : wrap64 ((j : Int) + 1) = ((j + 1 : Nat) : Int) := by unfold wrap64; omega
      have e : List.replicate j (1 : Int) ++ [1] = List.replicate (j + 1) 1 := by rw [List.replicate_succ']
      refine Ev.step (fun k => ?_) (ih (j + 1) (by omega))
      rw [spec_l02Each.l0, if_pos b1, if_pos b2, hw, e]
  exact go c 0 (by omega)
theorem drop_rd (xs : List Int) (i : Nat) (h : i < xs.length) : xs.drop i = rd xs (i : Int) :: xs.drop (i + 1) := by
  rw [List.drop_eq_getElem_cons h, rd_nat]; simp [List.getD_eq_getElem?_getD, List.getElem?_eq_getElem h]
theorem specTotal_ev (xs : List Int) (hb : Bd xs) (hl : xs.length ≤ 1000) : Ev (fun k => spec_l02Total.f k xs) (capSum xs) := by
  have go : ∀ d i, i + d = xs.length → ∀ s, 0 ≤ s → s ≤ 1000000000000001 → Ev (fun k => spec_l02Total.l0 k xs s (i : Int)) ((xs.drop i).foldl (fun s x => cap (s + x)) s) := by
    intro d
    induction d with
    | zero =>
      intro i hi s h0 h1
      have b1 : ¬ (i : Int) < (xs.length : Int) := by omega
      refine Ev.step (fun k => ?_) (Ev.now _)
      rw [spec_l02Total.l0, if_neg b1, List.drop_of_length_le (by omega)]; rfl
    | succ d ih =>
      intro i hi s h0 h1
      have b1 : (i : Int) < (xs.length : Int) := by omega
      have b2 : (0 : Int) ≤ (i : Int) := Int.natCast_nonneg i
      have hw : wrap64 ((i : Int) + 1) = ((i + 1 : Nat) : Int) := by unfold wrap64; omega
      have hx := hb i
      rw [← rd_nat] at hx
      have e : mn (wrap64 (s + rd xs (i : Int))) 1000000000000001 = cap (s + rd xs (i : Int)) := by rw [mn_cap, wrap_id (by omega) (by omega)]
      have hq : 0 ≤ cap (s + rd xs (i : Int)) := cap_nn (by omega)
      refine Ev.step (fun k => ?_) (f := fun k => spec_l02Total.l0 k xs (cap (s + rd xs (i : Int))) ((i + 1 : Nat) : Int)) ?_
      · rw [spec_l02Total.l0, if_pos b1, if_pos b2, e, hw]
      · rw [drop_rd xs i (by omega), List.foldl_cons]
        exact ih (i + 1) (by omega) _ hq (cap_le _)
  exact go xs.length 0 (by omega) 0 (by omega) (by omega)
/-- a number, if it is not too great -/
def toldI (x : Int) : Int × Int := if x > 1000000000000000 then (0, 3) else (x, 0)
theorem toldI_cap (x : Int) : toldI (cap x) = toldI x := by
  unfold toldI cap
  by_cases h : x ≤ 1000000000000000
  · rw [if_pos h]
  · rw [if_neg h, if_pos (by omega), if_pos (by omega)]
theorem bd_ways {c : Nat} (Ls : List (List STile)) (hL : ∀ L ∈ Ls, Fine c L) : ∀ u, Bd u → u.length = c → Bd (waysC c u Ls) := by
  induction Ls with
  | nil => intro u h _; exact h
  | cons L Ls ih => intro u h hu; exact ih (fun M hM => hL M (List.mem_cons_of_mem _ hM)) _ (bd_step h _ (hL L (by simp))) (stepC_len _ _ _)
theorem fine_rep {c n : Nat} {l : List STile} (h : Fine c l) : ∀ L ∈ List.replicate n l, Fine c L := fun L hL => by rw [(List.mem_replicate.1 hL).2]; exact h
theorem fine_layers {c : Nat} {l : List STile} (h : Fine c l) (word : List Int) (p d : Nat) : ∀ L ∈ layers l word p d, Fine c L := by
  intro L hL
  simp only [layers, List.mem_map] at hL
  obtain ⟨j, -, rfl⟩ := hL
  exact fine_filter h _
theorem bd_ones (c : Nat) : Bd (List.replicate c 1) := by
  intro i
  simp only [List.getD_eq_getElem?_getD, List.getElem?_replicate]
  split <;> simp
theorem cut_ones (c : Nat) : Cut (List.replicate c 1) (List.replicate c 1) := by
  refine ⟨rfl, fun i => (bd_ones c i).1, fun i => ?_⟩
  rw [cap_small]
  simp only [List.getD_eq_getElem?_getD, List.getElem?_replicate]
  split <;> simp
/-- all rows, from whatever colour -/
def total (c : Nat) (Ls : List (List STile)) : Int := ((List.range c).map (paths Ls)).sum
theorem dot_ones (c : Nat) (p : Nat → Int) : dot (List.replicate c 1) p = ((List.range c).map p).sum := by
  induction c generalizing p with
  | zero => rfl
  | succ c ih =>
    rw [List.replicate_succ, dot, ih, List.range_succ_eq_map, List.map_cons, List.sum_cons, List.map_map, Int.one_mul]
    rfl
theorem capSum_ones (c : Nat) (Ls : List (List STile)) (hL : ∀ L ∈ Ls, Fine c L) : capSum (waysC c (List.replicate c 1) Ls) = cap (total c Ls) := by
  rw [capSum_cut (cut_ways Ls hL _ _ (cut_ones c) (by simp)), ways_dot c Ls _ (by simp) hL, dot_ones]
  rfl
theorem sum_nn (xs : List Int) (h : ∀ x ∈ xs, 0 ≤ x) : 0 ≤ xs.sum := by
  induction xs with
  | nil => simp
  | cons x xs ih => rw [List.sum_cons]; have := h x (by simp); have := ih (fun y hy => h y (List.mem_cons_of_mem _ hy)); omega
theorem paths_nn (Ls : List (List STile)) (a : Nat) : 0 ≤ paths Ls a := by
  induction Ls generalizing a with
  | nil => simp [paths]
  | cons L Ls ih =>
    rw [paths]
    apply sum_nn
    intro x hx
    obtain ⟨t, -, rfl⟩ := List.mem_map.1 hx
    split
    · exact ih _
    · omega
theorem cap_sum (xs : List Int) (h : ∀ x ∈ xs, 0 ≤ x) : cap (xs.map cap).sum = cap xs.sum := by
  induction xs with
  | nil => rfl
  | cons x xs ih =>
    have h0 := h x (by simp)
    have h1 : ∀ y ∈ xs, 0 ≤ y := fun y hy => h y (List.mem_cons_of_mem _ hy)
    have h2 := sum_nn xs h1
    have h3 : 0 ≤ (xs.map cap).sum := sum_nn _ (fun y hy => by obtain ⟨z, hz, rfl⟩ := List.mem_map.1 hy; exact cap_nn (h1 z hz))
    rw [List.map_cons, List.sum_cons, List.sum_cons, ← cap_add (cap_nn h0) h3, ih h1, ← cap_add h0 h2]
    congr 2
    unfold cap; split <;> rfl
end Go.Proofs.Ytenlcakpcbmmdaa

/-
  Plain laws: the order of tiles; ascending lists; the list that the reference's insertion makes.
-/
import Derived.Test.YtgdmflmglkakgaaSort
namespace Go.Proofs.Ytgdmflmglkakgaa
open Go Go.RowKit Go.Proofs
set_option linter.unusedVariables false
set_option linter.unusedSimpArgs false

theorem ltT_iff {t u : T4} : ltT t u = true ↔ t.get 0 < u.get 0 ∨ (t.get 0 = u.get 0 ∧ (t.get 1 < u.get 1 ∨ (t.get 1 = u.get 1 ∧ (t.get 2 < u.get 2 ∨ (t.get 2 = u.get 2 ∧ t.get 3 < u.get 3))))) := by
  simp only [ltT]
  repeat' split
  all_goals simp only [decide_eq_true_eq]
  all_goals omega
theorem ltT_trans {t u v : T4} (h1 : ltT t u = true) (h2 : ltT u v = true) : ltT t v = true := by
  rw [ltT_iff] at *; omega
theorem ltT_tri (t u : T4) : ltT t u = true ∨ t = u ∨ ltT u t = true := by
  by_cases h1 : ltT t u = true
  · exact .inl h1
  · by_cases h2 : ltT u t = true
    · exact .inr (.inr h2)
    · refine .inr (.inl (T4.ext_get fun k hk => ?_))
      rw [ltT_iff] at h1 h2
      have : k = 0 ∨ k = 1 ∨ k = 2 ∨ k = 3 := by omega
      rcases this with rfl | rfl | rfl | rfl <;> omega
theorem ltT_asymm {t u : T4} (h1 : ltT t u = true) : ltT u t = false := by
  rw [← Bool.not_eq_true]; intro h2
  have := ltT_trans h1 h2
  rw [ltT_self] at this; cases this
/-- strictly ascending -/
def Asc (ts : List T4) : Prop := ts.Pairwise fun t u => ltT t u = true
/-- one strictly ascending list with the same members -/
theorem asc_unique : ∀ {ts us : List T4}, Asc ts → Asc us → (∀ t, t ∈ ts ↔ t ∈ us) → ts = us
  | [], [], _, _, _ => rfl
  | [], u :: us, _, _, h => by have := (h u).2 List.mem_cons_self; cases this
  | t :: ts, [], _, _, h => by have := (h t).1 List.mem_cons_self; cases this
  | t :: ts, u :: us, h1, h2, h => by
    have h1' := List.pairwise_cons.1 h1; have h2' := List.pairwise_cons.1 h2
    have e : t = u := by
      rcases List.mem_cons.1 ((h t).1 List.mem_cons_self) with e | m1
      · exact e
      · rcases List.mem_cons.1 ((h u).2 List.mem_cons_self) with e | m2
        · exact e.symm
        · have a := h2'.1 t m1
          have b := h1'.1 u m2
          rw [ltT_asymm a] at b; cases b
    subst e
    congr 1
    refine asc_unique h1'.2 h2'.2 fun x => ?_
    constructor
    · intro hx
      rcases List.mem_cons.1 ((h x).1 (List.mem_cons_of_mem _ hx)) with e | m
      · subst e
        have := h1'.1 x hx
        rw [ltT_self] at this; cases this
      · exact m
    · intro hx
      rcases List.mem_cons.1 ((h x).2 (List.mem_cons_of_mem _ hx)) with e | m
      · subst e
        have := h2'.1 x hx
        rw [ltT_self] at this; cases this
      · exact m
theorem tk_at {ts : List T4} {k : Nat} (h : k < ts.length) : ts[k] = tk ts k := by simp [tk, List.getD, List.getElem?_eq_getElem h]
theorem tk_mem {ts : List T4} {k : Nat} (h : k < ts.length) : tk ts k ∈ ts := by rw [← tk_at h]; exact List.getElem_mem h
/-- what atGo says -/
theorem atGo_spec (t : T4) (out : List T4) : ∀ k, k ≤ out.length → (∀ j, atGo t out k ≤ j → j < k → ltT t (tk out j) = true) ∧ (0 < atGo t out k → ltT t (tk out (atGo t out k - 1)) = false)
  | 0, _ => ⟨fun j _ h => absurd h (by omega), fun h => by simp [atGo] at h⟩
  | k + 1, hk => by
    have ih := atGo_spec t out k (by omega)
    simp only [atGo]
    by_cases h : ltT t (tk out k) = true
    · rw [if_pos h]
      refine ⟨fun j h1 h2 => ?_, ih.2⟩
      by_cases e : j = k
      · subst e; exact h
      · exact ih.1 j h1 (by omega)
    · rw [if_neg h]
      exact ⟨fun j h1 h2 => absurd h1 (by omega), fun _ => by simpa using h⟩
theorem insT_asc {t : T4} {out : List T4} (h : Asc out) : Asc (insT t out) := by
  obtain ⟨h1, h2⟩ := atGo_spec t out out.length (Nat.le_refl _)
  have hle := atGo_le t out out.length
  unfold insT
  generalize hj : atGo t out out.length = j at *
  split
  · exact h
  · rename_i hne
    have hd : ∀ u ∈ out.drop j, ltT t u = true := by
      intro u hu
      obtain ⟨i, hi, rfl⟩ := List.mem_iff_getElem.1 hu
      rw [List.length_drop] at hi
      rw [List.getElem_drop, tk_at (by omega)]
      exact h1 _ (by omega) (by omega)
    have ht : ∀ u ∈ out.take j, ltT u t = true := by
      intro u hu
      obtain ⟨i, hi, rfl⟩ := List.mem_iff_getElem.1 hu
      rw [List.length_take] at hi
      rw [List.getElem_take, tk_at (by omega)]
      have hj0 : 0 < j := by omega
      have hlast : ltT (tk out (j - 1)) t = true := by
        rcases ltT_tri (tk out (j - 1)) t with a | a | a
        · exact a
        · exact absurd ⟨hj0, a⟩ hne
        · rw [h2 hj0] at a; cases a
      by_cases e : i = j - 1
      · subst e; exact hlast
      · refine ltT_trans ?_ hlast
        have := (List.pairwise_iff_getElem.1 h) i (j - 1) (by omega) (by omega) (by omega)
        rwa [tk_at (by omega), tk_at (by omega)] at this
    unfold Asc
    rw [List.pairwise_append]
    refine ⟨h.sublist (List.take_sublist _ _), List.pairwise_cons.2 ⟨hd, h.sublist (List.drop_sublist _ _)⟩, ?_⟩
    intro a ha b hb
    rcases List.mem_cons.1 hb with rfl | hb
    · exact ht a ha
    · exact ltT_trans (ht a ha) (hd b hb)
theorem insT_mem {t : T4} {out : List T4} (x : T4) : x ∈ insT t out ↔ x = t ∨ x ∈ out := by
  unfold insT
  have hle := atGo_le t out out.length
  generalize atGo t out out.length = j at *
  split
  · rename_i h
    constructor
    · exact .inr
    · rintro (rfl | h')
      · rw [← h.2]; exact tk_mem (by omega)
      · exact h'
  · rw [List.mem_append, List.mem_cons]
    have : x ∈ out ↔ x ∈ out.take j ∨ x ∈ out.drop j := by rw [← List.mem_append, List.take_append_drop]
    rw [this]
    constructor
    · rintro (a | a | a)
      · exact .inr (.inl a)
      · exact .inl a
      · exact .inr (.inr a)
    · rintro (a | a | a)
      · exact .inr (.inl a)
      · exact .inl a
      · exact .inr (.inr a)
theorem sortK_asc (ts : List T4) : ∀ k, Asc (sortK ts k)
  | 0 => List.Pairwise.nil
  | k + 1 => insT_asc (sortK_asc ts k)
theorem sortK_mem (ts : List T4) (x : T4) : ∀ k, k ≤ ts.length → (x ∈ sortK ts k ↔ x ∈ ts.take k)
  | 0, _ => by simp [sortK]
  | k + 1, hk => by
    simp only [sortK]
    rw [insT_mem, sortK_mem ts x k (by omega), List.take_succ_eq_append_getElem (by omega), tk_at (by omega), List.mem_append, List.mem_singleton]
    exact Or.comm
/-- the ascending list with the members of ts -/
def sortT (ts : List T4) : List T4 := sortK ts ts.length
theorem sortT_asc (ts : List T4) : Asc (sortT ts) := sortK_asc ts _
theorem sortT_mem (ts : List T4) (x : T4) : x ∈ sortT ts ↔ x ∈ ts := by
  unfold sortT; rw [sortK_mem ts x _ (Nat.le_refl _), List.take_length]
theorem sortT_eq {ts us : List T4} (h : Asc us) (hm : ∀ t, t ∈ us ↔ t ∈ ts) : us = sortT ts :=
  asc_unique h (sortT_asc ts) fun t => (hm t).trans (sortT_mem ts t).symm
/-- equal neighbours once -/
def dedT : List T4 → List T4
  | [] => []
  | [t] => [t]
  | t :: u :: ts => if t = u then dedT (u :: ts) else t :: dedT (u :: ts)
theorem dedT_mem (x : T4) : ∀ ts : List T4, x ∈ dedT ts ↔ x ∈ ts
  | [] => Iff.rfl
  | [t] => Iff.rfl
  | t :: u :: ts => by
    have ih := dedT_mem x (u :: ts)
    simp only [dedT]
    split
    · rename_i e
      rw [ih]
      constructor
      · exact List.mem_cons_of_mem _
      · intro h
        rcases List.mem_cons.1 h with rfl | h
        · rw [e]; exact List.mem_cons_self
        · exact h
    · rw [List.mem_cons, List.mem_cons, ih]
theorem dedT_asc : ∀ ts : List T4, ts.Pairwise (fun t u => ltT u t = false) → Asc (dedT ts)
  | [], _ => List.Pairwise.nil
  | [t], _ => List.pairwise_singleton _ _
  | t :: u :: ts, h => by
    have h' := List.pairwise_cons.1 h
    have ih := dedT_asc (u :: ts) h'.2
    simp only [dedT]
    split
    · exact ih
    · rename_i hne
      refine List.pairwise_cons.2 ⟨fun x hx => ?_, ih⟩
      rw [dedT_mem] at hx
      have htu : ltT t u = true := by
        rcases ltT_tri t u with a | a | a
        · exact a
        · exact absurd a hne
        · rw [h'.1 u List.mem_cons_self] at a; cases a
      rcases List.mem_cons.1 hx with rfl | hx
      · exact htu
      · have hux := (List.pairwise_cons.1 h'.2).1 x hx
        rcases ltT_tri u x with a | a | a
        · exact ltT_trans htu a
        · rw [← a]; exact htu
        · rw [hux] at a; cases a
end Go.Proofs.Ytgdmflmglkakgaa

/-
  Plain: a set trimmed, by rounds and by single deletions.
-/
import Derived.Test.YtgdmflmglkakgaaIsSet
namespace Go.Proofs.Ytgdmflmglkakgaa
open Go Go.RowKit Go.Proofs
set_option linter.unusedVariables false
set_option linter.unusedSimpArgs false

def metT (T : List T4) (t : T4) (s : Nat) : Bool := T.any fun u => decide (u.get ((s + 2) % 4) = t.get s)
def goodT (T : List T4) (t : T4) : Bool := metT T t 0 && metT T t 1 && metT T t 2 && metT T t 3
def ClosedT (S : List T4) : Prop := ∀ t, t ∈ S → goodT S t = true
/-- by rounds -/
def trimS : Nat → List T4 → List T4
  | 0, T => T
  | n + 1, T => if (T.filter (goodT T)).length = T.length then T.filter (goodT T) else trimS n (T.filter (goodT T))
/-- one at a time -/
def trimI : Nat → List T4 → List T4
  | 0, T => T
  | n + 1, T => match T.findIdx? (fun t => !goodT T t) with
    | none => T
    | some i => trimI n (T.eraseIdx i)
theorem met_mono {S T : List T4} (h : ∀ x, x ∈ S → x ∈ T) {t : T4} {s : Nat} (hm : metT S t s = true) : metT T t s = true := by
  unfold metT at hm ⊢
  rw [List.any_eq_true] at hm ⊢
  obtain ⟨u, hu, e⟩ := hm
  exact ⟨u, h u hu, e⟩
theorem good_mono {S T : List T4} (h : ∀ x, x ∈ S → x ∈ T) {t : T4} (hm : goodT S t = true) : goodT T t = true := by
  unfold goodT at hm ⊢
  simp only [Bool.and_eq_true] at hm ⊢
  exact ⟨⟨⟨met_mono h hm.1.1.1, met_mono h hm.1.1.2⟩, met_mono h hm.1.2⟩, met_mono h hm.2⟩
theorem keep_filter {S T : List T4} (hc : ClosedT S) (hs : S.Sublist T) : S.Sublist (T.filter (goodT T)) := by
  have h1 : S.filter (goodT T) = S := List.filter_eq_self.2 fun x hx => good_mono (fun y hy => hs.subset hy) (hc x hx)
  rw [← h1]
  exact hs.filter _
theorem keep_erase {S T : List T4} (hc : ClosedT S) (hs : S.Sublist T) {i : Nat} (hi : i < T.length) (hb : goodT T T[i] = false) : S.Sublist (T.eraseIdx i) := by
  obtain ⟨x, hx⟩ : ∃ x, x = T[i] := ⟨_, rfl⟩
  have hn : ¬ x ∈ S := fun h => by
    have h2 := good_mono (fun y hy => hs.subset hy) (hc x h)
    rw [hx, hb] at h2
    cases h2
  have h1 : S.filter (fun y => decide (y ≠ x)) = S := List.filter_eq_self.2 fun y hy => decide_eq_true (fun e => hn (e ▸ hy))
  rw [← h1]
  refine (hs.filter _).trans ?_
  rw [List.eraseIdx_eq_take_drop_succ]
  have h2 : T = T.take i ++ x :: T.drop (i + 1) := by rw [hx, List.getElem_cons_drop, List.take_append_drop]
  have h3 : T.filter (fun y => decide (y ≠ x)) = (T.take i).filter (fun y => decide (y ≠ x)) ++ (T.drop (i + 1)).filter (fun y => decide (y ≠ x)) := by
    conv => lhs; rw [h2]
    rw [List.filter_append, List.filter_cons, if_neg (by simp)]
  rw [h3]
  exact (List.filter_sublist).append (List.filter_sublist)
theorem trimS_sub : ∀ n T, (trimS n T).Sublist T
  | 0, T => List.Sublist.refl _
  | n + 1, T => by
    unfold trimS
    split
    · exact List.filter_sublist
    · exact (trimS_sub n _).trans List.filter_sublist
theorem trimI_sub : ∀ n T, (trimI n T).Sublist T
  | 0, T => List.Sublist.refl _
  | n + 1, T => by
    unfold trimI
    split
    · exact List.Sublist.refl _
    · exact (trimI_sub n _).trans (List.eraseIdx_sublist _ _)
theorem filter_all {T : List T4} {p : T4 → Bool} (h : (T.filter p).length = T.length) : T.filter p = T := List.filter_sublist.eq_of_length h
theorem trimS_closed : ∀ n T, T.length ≤ n → ClosedT (trimS n T)
  | 0, T, h => fun t ht => by
    have e : T = [] := List.eq_nil_of_length_eq_zero (by omega)
    subst e
    exact absurd ht (by simp [trimS])
  | n + 1, T, h => by
    unfold trimS
    split
    · rename_i he
      rw [filter_all he]
      intro t ht
      exact List.filter_eq_self.1 (filter_all he) t ht
    · rename_i he
      have := List.length_filter_le (goodT T) T
      exact trimS_closed n _ (by omega)
theorem trimI_closed : ∀ n T, T.length ≤ n → ClosedT (trimI n T)
  | 0, T, h => fun t ht => by
    have e : T = [] := List.eq_nil_of_length_eq_zero (by omega)
    subst e
    exact absurd ht (by simp [trimI])
  | n + 1, T, h => by
    unfold trimI
    split
    · rename_i he
      intro t ht
      have h2 := List.findIdx?_eq_none_iff.1 he t ht
      simpa using h2
    · rename_i i he
      obtain ⟨hi, -, -⟩ := List.findIdx?_eq_some_iff_getElem.1 he
      exact trimI_closed n _ (by rw [List.length_eraseIdx_of_lt hi]; omega)
theorem trimS_great {S : List T4} (hc : ClosedT S) : ∀ n T, S.Sublist T → S.Sublist (trimS n T)
  | 0, T, h => h
  | n + 1, T, h => by
    unfold trimS
    split
    · exact keep_filter hc h
    · exact trimS_great hc n _ (keep_filter hc h)
theorem trimI_great {S : List T4} (hc : ClosedT S) : ∀ n T, S.Sublist T → S.Sublist (trimI n T)
  | 0, T, h => h
  | n + 1, T, h => by
    unfold trimI
    split
    · exact h
    · rename_i i he
      obtain ⟨hi, hb, -⟩ := List.findIdx?_eq_some_iff_getElem.1 he
      exact trimI_great hc n _ (keep_erase hc h hi (by simpa using hb))
/-- both ways end alike -/
theorem trim_same (T : List T4) : trimS T.length T = trimI T.length T :=
  have h1 := trimI_great (trimS_closed T.length T (Nat.le_refl _)) T.length T (trimS_sub _ _)
  have h2 := trimS_great (trimI_closed T.length T (Nat.le_refl _)) T.length T (trimI_sub _ _)
  h1.eq_of_length (Nat.le_antisymm h1.length_le h2.length_le)
def trimR (C : Int) (ts : List T4) : (Int × List T4) × Int := if isS C ts = true then ((C, trimI ts.length ts), 0) else ((0, []), 1)
theorem trimR_len (C : Int) (ts : List T4) : (trimR C ts).1.2.length ≤ 1048576 := by
  unfold trimR
  split
  · rename_i h
    have h1 := (isS_iff.1 h).2.1
    have h2 := (trimI_sub ts.length ts).length_le
    simp only; omega
  · simp
end Go.Proofs.Ytgdmflmglkakgaa

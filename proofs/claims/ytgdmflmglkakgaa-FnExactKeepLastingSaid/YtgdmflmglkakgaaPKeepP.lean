/-
  Plain: the lasting tiles: by rounds of filters, and by a mask from which bad ones are struck.
-/
import Derived.Test.YtgdmflmglkakgaaTrimP
namespace Go.Proofs.Ytgdmflmglkakgaa
open Go Go.RowKit Go.Proofs
set_option linter.unusedVariables false
set_option linter.unusedSimpArgs false

def lastT (T : List T4) (t : T4) : Bool := (T.any fun u => decide (u.get 2 = t.get 0)) && (T.any fun u => decide (u.get 0 = t.get 2))
def ClosedK (S : List T4) : Prop := ∀ t, t ∈ S → lastT S t = true
def keepS : Nat → List T4 → List T4
  | 0, T => T
  | n + 1, T => if (T.filter (lastT T)).length = T.length then T.filter (lastT T) else keepS n (T.filter (lastT T))
theorem last_mono {S T : List T4} (h : ∀ x, x ∈ S → x ∈ T) {t : T4} (hm : lastT S t = true) : lastT T t = true := by
  unfold lastT at hm ⊢
  simp only [Bool.and_eq_true, List.any_eq_true] at hm ⊢
  obtain ⟨⟨u, hu, e⟩, ⟨v, hv, e2⟩⟩ := hm
  exact ⟨⟨u, h u hu, e⟩, ⟨v, h v hv, e2⟩⟩
theorem keepK_filter {S T : List T4} (hc : ClosedK S) (hs : S.Sublist T) : S.Sublist (T.filter (lastT T)) := by
  have h1 : S.filter (lastT T) = S := List.filter_eq_self.2 fun x hx => last_mono (fun y hy => hs.subset hy) (hc x hx)
  rw [← h1]
  exact hs.filter _
theorem keepS_sub : ∀ n T, (keepS n T).Sublist T
  | 0, T => List.Sublist.refl _
  | n + 1, T => by
    unfold keepS
    split
    · exact List.filter_sublist
    · exact (keepS_sub n _).trans List.filter_sublist
theorem keepS_closed : ∀ n T, T.length ≤ n → ClosedK (keepS n T)
  | 0, T, h => fun t ht => by
    have e : T = [] := List.eq_nil_of_length_eq_zero (by omega)
    subst e
    exact absurd ht (by simp [keepS])
  | n + 1, T, h => by
    unfold keepS
    split
    · rename_i he
      rw [filter_all he]
      intro t ht
      exact List.filter_eq_self.1 (filter_all he) t ht
    · rename_i he
      have := List.length_filter_le (lastT T) T
      exact keepS_closed n _ (by omega)
theorem keepS_great {S : List T4} (hc : ClosedK S) : ∀ n T, S.Sublist T → S.Sublist (keepS n T)
  | 0, T, h => h
  | n + 1, T, h => by
    unfold keepS
    split
    · exact keepK_filter hc h
    · exact keepS_great hc n _ (keepK_filter hc h)
theorem keepS_done {m : Nat} {T : List T4} (hm : T.length ≤ m) (h : (T.filter (lastT T)).length = T.length) : keepS m T = T.filter (lastT T) := by
  cases m with
  | zero =>
    have e : T = [] := List.eq_nil_of_length_eq_zero (by omega)
    subst e; rfl
  | succ m => unfold keepS; rw [if_pos h]
theorem keepS_more {m : Nat} {T : List T4} (h : ¬ (T.filter (lastT T)).length = T.length) : keepS (m + 1) T = keepS m (T.filter (lastT T)) := by
  conv => lhs; unfold keepS
  rw [if_neg h]
/-! ### masks -/
def mk9 (x : List Bool) (i : Nat) : Bool := x.getD i false
/-- the i-th tile is met by those of the mask -/
def okM (ts : List T4) (x : List Bool) (i : Nat) : Prop := (∃ k, k < ts.length ∧ mk9 x k = true ∧ (tk ts k).get 2 = (tk ts i).get 0) ∧ (∃ k, k < ts.length ∧ mk9 x k = true ∧ (tk ts k).get 0 = (tk ts i).get 2)
def ClosedM (ts : List T4) (x : List Bool) : Prop := ∀ i, i < ts.length → mk9 x i = true → okM ts x i
theorem okM_mono {ts : List T4} {x y : List Bool} (h : ∀ k, mk9 x k = true → mk9 y k = true) {i : Nat} (ho : okM ts x i) : okM ts y i := by
  obtain ⟨⟨k, hk, h1, h2⟩, ⟨j, hj, h3, h4⟩⟩ := ho
  exact ⟨⟨k, hk, h k h1, h2⟩, ⟨j, hj, h j h3, h4⟩⟩
def selL (x : List Bool) (ts : List T4) : List T4 := ((List.range ts.length).filter (fun i => mk9 x i)).map (tk ts)
theorem mem_selL {x : List Bool} {ts : List T4} {t : T4} : t ∈ selL x ts ↔ ∃ i, i < ts.length ∧ mk9 x i = true ∧ tk ts i = t := by
  unfold selL
  simp only [List.mem_map, List.mem_filter, List.mem_range]
  constructor
  · rintro ⟨i, ⟨h1, h2⟩, h3⟩; exact ⟨i, h1, h2, h3⟩
  · rintro ⟨i, h1, h2, h3⟩; exact ⟨i, ⟨h1, h2⟩, h3⟩
theorem range_tk (ts : List T4) : (List.range ts.length).map (tk ts) = ts := by
  apply List.ext_getElem
  · simp
  · intro i h1 h2
    simp only [List.getElem_map, List.getElem_range]
    rw [tk_get h2]
theorem selL_sub (x : List Bool) (ts : List T4) : (selL x ts).Sublist ts := by
  have h : (selL x ts).Sublist ((List.range ts.length).map (tk ts)) := (List.filter_sublist).map (tk ts)
  rw [range_tk] at h
  exact h
/-- a closed greatest mask selects what the rounds leave -/
theorem selL_keep {ts : List T4} {M : List Bool} (ha : Asc ts) (hc : ClosedM ts M) (hg : ∀ S, ClosedM ts S → (∀ i, mk9 S i = true → i < ts.length) → ∀ i, mk9 S i = true → mk9 M i = true) : selL M ts = keepS ts.length ts := by
  refine asc_unique (List.Pairwise.sublist (selL_sub M ts) ha) (List.Pairwise.sublist (keepS_sub _ ts) ha) fun t => ⟨fun h => ?_, fun h => ?_⟩
  · have hcl : ClosedK (selL M ts) := by
      intro u hu
      obtain ⟨i, hi, hm, rfl⟩ := mem_selL.1 hu
      obtain ⟨⟨k, hk, h1, h2⟩, ⟨j, hj, h3, h4⟩⟩ := hc i hi hm
      unfold lastT
      simp only [Bool.and_eq_true, List.any_eq_true, decide_eq_true_eq]
      exact ⟨⟨_, mem_selL.2 ⟨k, hk, h1, rfl⟩, h2⟩, ⟨_, mem_selL.2 ⟨j, hj, h3, rfl⟩, h4⟩⟩
    exact (keepS_great hcl _ _ (selL_sub M ts)).subset h
  · obtain ⟨E, hE⟩ : ∃ E, E = keepS ts.length ts := ⟨_, rfl⟩
    have hEc : ClosedK E := by rw [hE]; exact keepS_closed _ _ (Nat.le_refl _)
    have hEs : E.Sublist ts := by rw [hE]; exact keepS_sub _ _
    rw [← hE] at h
    let S : List Bool := (List.range ts.length).map fun i => decide (tk ts i ∈ E)
    have hS : ∀ i, mk9 S i = true ↔ i < ts.length ∧ tk ts i ∈ E := by
      intro i
      show (S.getD i false = true) ↔ _
      rw [List.getD_eq_getElem?_getD]
      by_cases hi : i < ts.length
      · rw [List.getElem?_eq_getElem (by simpa [S] using hi)]
        simp [S, hi]
      · rw [List.getElem?_eq_none (by simpa [S] using hi)]
        simp [hi]
    have at_ : ∀ u, u ∈ E → ∃ k, k < ts.length ∧ mk9 S k = true ∧ tk ts k = u := by
      intro u hu
      obtain ⟨k, hk, e⟩ := List.getElem_of_mem (hEs.subset hu)
      rw [tk_get hk] at e
      exact ⟨k, hk, (hS k).2 ⟨hk, by rw [e]; exact hu⟩, e⟩
    have hSc : ClosedM ts S := by
      intro i hi hm
      have h1 := hEc _ ((hS i).1 hm).2
      unfold lastT at h1
      simp only [Bool.and_eq_true, List.any_eq_true, decide_eq_true_eq] at h1
      obtain ⟨⟨u, hu, e⟩, ⟨v, hv, e2⟩⟩ := h1
      obtain ⟨k, hk, a1, a2⟩ := at_ u hu
      obtain ⟨j, hj, b1, b2⟩ := at_ v hv
      exact ⟨⟨k, hk, a1, by rw [a2]; exact e⟩, ⟨j, hj, b1, by rw [b2]; exact e2⟩⟩
    obtain ⟨k, hk, a1, a2⟩ := at_ t h
    exact mem_selL.2 ⟨k, hk, hg S hSc (fun i hi => ((hS i).1 hi).1) k a1, a2⟩
def keepR (C : Int) (ts : List T4) : (Int × List T4) × Int := if isS C ts = true then ((C, keepS ts.length ts), 0) else ((0, []), 1)
theorem keepR_len (C : Int) (ts : List T4) : (keepR C ts).1.2.length ≤ 1048576 := by
  unfold keepR
  split
  · rename_i h
    have h1 := (isS_iff.1 h).2.1
    have h2 := (keepS_sub ts.length ts).length_le
    simp only; omega
  · simp
/-! ### striking -/
open Classical in
/-- one place: struck if it stands and is not met -/
noncomputable def nextM (ts : List T4) (x : List Bool) (m : Bool) (i : Nat) : List Bool × Bool := if mk9 x i = true ∧ ¬ okM ts x i then (x.set i false, true) else (x, m)
/-- d places from i on -/
noncomputable def sweepM (ts : List T4) : Nat → List Bool → Bool → Nat → List Bool × Bool
  | 0, x, m, _ => (x, m)
  | d + 1, x, m, i => sweepM ts d (nextM ts x m i).1 (nextM ts x m i).2 (i + 1)
noncomputable def strikeM (ts : List T4) : Nat → List Bool → List Bool
  | 0, x => x
  | f + 1, x => if (sweepM ts ts.length x false 0).2 = true then strikeM ts f (sweepM ts ts.length x false 0).1 else (sweepM ts ts.length x false 0).1
theorem mk9_set {x : List Bool} {i j : Nat} {b : Bool} (hi : i < x.length) : mk9 (x.set i b) j = if j = i then b else mk9 x j := by
  unfold mk9
  rw [List.getD_eq_getElem?_getD, List.getD_eq_getElem?_getD, List.getElem?_set]
  by_cases h : i = j
  · subst h; simp [hi]
  · simp [h, Ne.symm h]
theorem mk9_lt {x : List Bool} {i : Nat} (h : mk9 x i = true) : i < x.length := by
  unfold mk9 at h
  rcases Nat.lt_or_ge i x.length with h1 | h1
  · exact h1
  · rw [List.getD_eq_getElem?_getD, List.getElem?_eq_none h1] at h; cases h
theorem nextM_len (ts : List T4) (x : List Bool) (m : Bool) (i : Nat) : (nextM ts x m i).1.length = x.length := by unfold nextM; split <;> simp
theorem sweepM_len (ts : List T4) : ∀ d x m i, (sweepM ts d x m i).1.length = x.length
  | 0, _, _, _ => rfl
  | d + 1, x, m, i => by rw [sweepM, sweepM_len ts d, nextM_len]
/-- a closed mask below stays below -/
theorem nextM_great {ts : List T4} {S x : List Bool} (hc : ClosedM ts S) (hs : ∀ k, mk9 S k = true → k < ts.length ∧ mk9 x k = true) (m : Bool) (i : Nat) : ∀ k, mk9 S k = true → k < ts.length ∧ mk9 (nextM ts x m i).1 k = true := by
  intro k hk
  refine ⟨(hs k hk).1, ?_⟩
  unfold nextM
  split
  · rename_i h
    have h9 := mk9_lt h.1
    rw [mk9_set h9]
    by_cases e : k = i
    · subst e
      exact absurd (okM_mono (fun j hj => (hs j hj).2) (hc k (hs k hk).1 hk)) h.2
    · rw [if_neg e]; exact (hs k hk).2
  · exact (hs k hk).2
theorem sweepM_great {ts : List T4} {S : List Bool} (hc : ClosedM ts S) : ∀ d x m i, (∀ k, mk9 S k = true → k < ts.length ∧ mk9 x k = true) → ∀ k, mk9 S k = true → k < ts.length ∧ mk9 (sweepM ts d x m i).1 k = true
  | 0, _, _, _, h => h
  | d + 1, x, m, i, h => by rw [sweepM]; exact sweepM_great hc d _ _ _ (nextM_great hc h m i)
theorem strikeM_great {ts : List T4} {S : List Bool} (hc : ClosedM ts S) : ∀ f x, (∀ k, mk9 S k = true → k < ts.length ∧ mk9 x k = true) → ∀ k, mk9 S k = true → k < ts.length ∧ mk9 (strikeM ts f x) k = true
  | 0, _, h => h
  | f + 1, x, h => by
    rw [strikeM]
    split
    · exact strikeM_great hc f _ (sweepM_great hc _ _ _ _ h)
    · exact sweepM_great hc _ _ _ _ h
theorem nextM_count (ts : List T4) (x : List Bool) (m : Bool) (i : Nat) : (nextM ts x m i).1.count true ≤ x.count true ∧ ((nextM ts x m i).2 = true → m = true ∨ (nextM ts x m i).1.count true < x.count true) ∧ ((nextM ts x m i).2 = false → m = false ∧ (nextM ts x m i).1 = x ∧ (mk9 x i = true → okM ts x i)) := by
  unfold nextM
  split
  · rename_i h
    have h9 := mk9_lt h.1
    have hx : x[i] = true := by have := h.1; unfold mk9 at this; rw [List.getD_eq_getElem?_getD, List.getElem?_eq_getElem h9] at this; exact this
    have hm : true ∈ x := by rw [← hx]; exact List.getElem_mem h9
    have hp : 0 < x.count true := List.count_pos_iff.2 hm
    have hcs : (x.set i false).count true = x.count true - 1 := by rw [List.count_set h9, hx]; simp
    refine ⟨by simp only; omega, fun _ => .inr (by simp only; omega), fun h2 => by cases h2⟩
  · rename_i h
    refine ⟨Nat.le_refl _, fun h2 => .inl h2, fun h2 => ⟨h2, rfl, fun h3 => ?_⟩⟩
    exact Classical.byContradiction fun h4 => h ⟨h3, h4⟩
theorem sweepM_count (ts : List T4) : ∀ d x m i, (sweepM ts d x m i).1.count true ≤ x.count true ∧ ((sweepM ts d x m i).2 = true → m = true ∨ (sweepM ts d x m i).1.count true < x.count true) ∧ ((sweepM ts d x m i).2 = false → m = false ∧ (sweepM ts d x m i).1 = x ∧ ∀ k, i ≤ k → k < i + d → mk9 x k = true → okM ts x k)
  | 0, x, m, i => ⟨Nat.le_refl _, fun h => .inl h, fun h => ⟨h, rfl, fun k h1 h2 => by omega⟩⟩
  | d + 1, x, m, i => by
    rw [sweepM]
    obtain ⟨a1, a2, a3⟩ := nextM_count ts x m i
    obtain ⟨b1, b2, b3⟩ := sweepM_count ts d (nextM ts x m i).1 (nextM ts x m i).2 (i + 1)
    refine ⟨by omega, fun h => ?_, fun h => ?_⟩
    · rcases b2 h with h2 | h2
      · rcases a2 h2 with h3 | h3
        · exact .inl h3
        · right; omega
      · right; omega
    · obtain ⟨c1, c2, c3⟩ := b3 h
      obtain ⟨d1, d2, d3⟩ := a3 c1
      rw [d2] at c2 c3
      refine ⟨d1, by rw [d2]; exact c2, fun k h1 h2 h3 => ?_⟩
      by_cases e : k = i
      · subst e; exact d3 h3
      · exact c3 k (by omega) (by omega) h3
theorem strikeM_closed (ts : List T4) : ∀ f x, x.count true < f → ClosedM ts (strikeM ts f x)
  | 0, _, h => by omega
  | f + 1, x, h => by
    rw [strikeM]
    obtain ⟨-, a2, a3⟩ := sweepM_count ts ts.length x false 0
    split
    · rename_i h2
      rcases a2 h2 with h3 | h3
      · cases h3
      · exact strikeM_closed ts f _ (by omega)
    · rename_i h2
      obtain ⟨-, c2, c3⟩ := a3 (by simpa using h2)
      rw [c2]
      intro i hi hm
      exact c3 i (Nat.zero_le _) (by omega) hm
theorem strikeM_len (ts : List T4) : ∀ f x, (strikeM ts f x).length = x.length
  | 0, _ => rfl
  | f + 1, x => by
    rw [strikeM]
    split
    · rw [strikeM_len ts f, sweepM_len]
    · rw [sweepM_len]
/-- the mask that is left -/
theorem strike_keep {ts : List T4} (ha : Asc ts) : selL (strikeM ts (ts.length + 1) (List.replicate ts.length true)) ts = keepS ts.length ts := by
  refine selL_keep ha (strikeM_closed ts _ _ (by simp)) fun S hS hl i hi => (strikeM_great hS _ _ (fun k hk => ⟨hl k hk, ?_⟩) i hi).2
  unfold mk9
  rw [List.getD_eq_getElem?_getD, List.getElem?_replicate, if_pos (hl k hk)]; rfl
end Go.Proofs.Ytgdmflmglkakgaa

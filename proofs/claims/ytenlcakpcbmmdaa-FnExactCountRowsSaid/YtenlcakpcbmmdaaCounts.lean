/-
  Plain laws: numbers of rows over layers of tiles, forwards and backwards, and numbers that stop at a bound.
-/
import Derived.Test.YtenlcakpcbmmdaaBridge
import Derived.Test.YtenlcakpcbmmdaaWMore
namespace Go.Proofs.Ytenlcakpcbmmdaa
open Go Go.RowKit Go.Proofs Go.Proofs.YtenlcakpcbmmdaaW.PrintWords Go.Proofs.YtenlcakpcbmmdaaW.PrintMore Go.Proofs.Ytenlcakpcbmmdaa.Q
set_option linter.unusedVariables false
set_option linter.unusedSimpArgs false

theorem wrap_id {x : Int} (h : -9223372036854775808 ≤ x) (h2 : x ≤ 9223372036854775807) : wrap64 x = x := by unfold wrap64; omega
def cap (x : Int) : Int := if x ≤ 1000000000000000 then x else 1000000000000001
theorem cap_nn {x : Int} (h : 0 ≤ x) : 0 ≤ cap x := by unfold cap; split <;> omega
theorem cap_le (x : Int) : cap x ≤ 1000000000000001 := by unfold cap; split <;> omega
theorem mn_cap (x : Int) : mn x 1000000000000001 = cap x := by unfold mn cap; split <;> split <;> omega
theorem mn_cap' (x : Int) : mn 1000000000000001 x = cap x := by unfold mn cap; split <;> split <;> omega
theorem cap_add {x y : Int} (hx : 0 ≤ x) (hy : 0 ≤ y) : cap (cap x + cap y) = cap (x + y) := by unfold cap; split <;> split <;> split <;> (try split) <;> omega
theorem cap_small {x : Int} (h : x ≤ 1000000000000000) : cap x = x := by unfold cap; rw [if_pos h]

/-! a row of numbers under weights -/
def dot : List Int → (Nat → Int) → Int
  | [], _ => 0
  | x :: xs, p => x * p 0 + dot xs (fun i => p (i + 1))
theorem rd_nat (xs : List Int) (i : Nat) : rd xs (i : Int) = xs.getD i 0 := by simp [rd]
theorem dot_set (v : List Int) (e : Nat) (x : Int) (p : Nat → Int) (h : e < v.length) : dot (v.set e x) p = dot v p + (x - v.getD e 0) * p e := by
  induction v generalizing e p with
  | nil => simp at h
  | cons y ys ih =>
    cases e with
    | zero => simp [dot, List.getD]; rw [Int.sub_mul]; omega
    | succ e =>
      simp only [List.set_cons_succ, dot]
      rw [ih e _ (by simpa using h)]
      simp only [List.getD_cons_succ]
      omega
theorem dot_zero (n : Nat) (p : Nat → Int) : dot (List.replicate n 0) p = 0 := by
  induction n generalizing p with
  | zero => rfl
  | succ n ih => simp [List.replicate_succ, dot, ih]
theorem dot_add (v : List Int) (p q : Nat → Int) : dot v (fun i => p i + q i) = dot v p + dot v q := by
  induction v generalizing p q with
  | nil => rfl
  | cons y ys ih =>
    simp only [dot]
    rw [ih (fun i => p (i + 1)) (fun i => q (i + 1)), Int.mul_add]; omega
theorem dot_nil (v : List Int) : dot v (fun _ => 0) = 0 := by
  induction v with
  | nil => rfl
  | cons y ys ih => simp only [dot, ih]; omega
theorem dot_one (v : List Int) (e : Nat) (y : Int) (h : e < v.length) : dot v (fun i => if i = e then y else 0) = v.getD e 0 * y := by
  induction v generalizing e with
  | nil => simp at h
  | cons z zs ih =>
    cases e with
    | zero =>
      simp only [dot]
      have : (fun i => if i + 1 = 0 then y else 0) = fun _ : Nat => (0 : Int) := by funext i; simp
      rw [this, dot_nil]; simp [List.getD]
    | succ e =>
      simp only [dot, List.getD_cons_succ]
      have : (fun i => if i + 1 = e + 1 then y else 0) = fun i : Nat => if i = e then y else 0 := by funext i; simp
      rw [this, ih e (by simpa using h)]; simp
theorem dot_sum (v : List Int) : dot v (fun _ => 1) = v.sum := by
  induction v with
  | nil => rfl
  | cons y ys ih => simp only [dot, ih, List.sum_cons]; omega
theorem dot_ext (v : List Int) (p q : Nat → Int) (h : ∀ i, i < v.length → p i = q i) : dot v p = dot v q := by
  induction v generalizing p q with
  | nil => rfl
  | cons y ys ih =>
    simp only [dot]
    rw [h 0 (by simp), ih (fun i => p (i + 1)) (fun i => q (i + 1)) (fun i hi => h (i + 1) (by simpa using hi))]

/-! layers of tiles -/
/-- the tiles have colours below c -/
def Fine (c : Nat) (L : List STile) : Prop := ∀ t ∈ L, 0 ≤ t.f0 ∧ t.f0 < c ∧ 0 ≤ t.f2 ∧ t.f2 < c
def addT (now acc : List Int) (t : STile) : List Int := acc.set t.f2.toNat (rd acc t.f2 + rd now t.f0)
def stepW (c : Nat) (now : List Int) (L : List STile) : List Int := L.foldl (addT now) (List.replicate c 0)
def waysW (c : Nat) (now : List Int) (Ls : List (List STile)) : List Int := Ls.foldl (stepW c) now
/-- how many ways lead on from a colour -/
def paths : List (List STile) → Nat → Int
  | [], _ => 1
  | L :: Ls, a => (L.map fun t => if a = t.f0.toNat then paths Ls t.f2.toNat else 0).sum
def capT (now acc : List Int) (t : STile) : List Int := acc.set t.f2.toNat (cap (rd acc t.f2 + rd now t.f0))
def stepC (c : Nat) (now : List Int) (L : List STile) : List Int := L.foldl (capT now) (List.replicate c 0)
def waysC (c : Nat) (now : List Int) (Ls : List (List STile)) : List Int := Ls.foldl (stepC c) now
theorem addT_len (now acc : List Int) (t : STile) : (addT now acc t).length = acc.length := by simp [addT]
theorem fold_len (f : List Int → STile → List Int) (hf : ∀ a t, (f a t).length = a.length) (L : List STile) (acc : List Int) : (L.foldl f acc).length = acc.length := by
  induction L generalizing acc with
  | nil => rfl
  | cons t L ih => simp only [List.foldl_cons]; rw [ih, hf]
theorem stepW_len (c : Nat) (now : List Int) (L : List STile) : (stepW c now L).length = c := by
  rw [stepW, fold_len _ (fun a t => addT_len now a t)]; simp
theorem capT_len (now acc : List Int) (t : STile) : (capT now acc t).length = acc.length := by simp [capT]
theorem stepC_len (c : Nat) (now : List Int) (L : List STile) : (stepC c now L).length = c := by
  rw [stepC, fold_len _ (fun a t => capT_len now a t)]; simp
theorem rd_at {xs : List Int} {i : Int} (h : 0 ≤ i) : rd xs i = xs.getD i.toNat 0 := by simp [rd]
theorem fold_dot (c : Nat) (now : List Int) (p : Nat → Int) (hn : now.length = c) (L : List STile) (hL : Fine c L) (acc : List Int) (ha : acc.length = c) :
    dot (L.foldl (addT now) acc) p = dot acc p + dot now (fun a => (L.map fun t => if a = t.f0.toNat then p t.f2.toNat else 0).sum) := by
  induction L generalizing acc with
  | nil => simp [dot_nil]
  | cons t L ih =>
    obtain ⟨h0, h1, h2, h3⟩ := hL t (by simp)
    simp only [List.foldl_cons]
    rw [ih (fun u hu => hL u (List.mem_cons_of_mem _ hu)) _ (by rw [addT_len, ha])]
    rw [addT, dot_set _ _ _ _ (by omega), rd_at h2, rd_at h0]
    simp only [List.map_cons, List.sum_cons]
    rw [dot_add, dot_one _ _ _ (by omega)]
    have : acc.getD t.f2.toNat 0 + now.getD t.f0.toNat 0 - acc.getD t.f2.toNat 0 = now.getD t.f0.toNat 0 := by omega
    rw [this]; omega
theorem ways_dot (c : Nat) (Ls : List (List STile)) (now : List Int) (hn : now.length = c) (hL : ∀ L ∈ Ls, Fine c L) : (waysW c now Ls).sum = dot now (paths Ls) := by
  induction Ls generalizing now with
  | nil => simp only [waysW, List.foldl_nil]; rw [← dot_sum]; rfl
  | cons L Ls ih =>
    simp only [waysW, List.foldl_cons]
    rw [show List.foldl (stepW c) (stepW c now L) Ls = waysW c (stepW c now L) Ls from rfl, ih _ (stepW_len _ _ _) (fun M hM => hL M (List.mem_cons_of_mem _ hM))]
    rw [stepW, fold_dot c now _ hn L (hL L (by simp)) _ (by simp), dot_zero, Int.zero_add]
    rfl

/-! the bound: what is cut off, one by one, is what would be cut off at the end -/
/-- u holds v's numbers, cut off at the bound -/
def Cut (u v : List Int) : Prop := u.length = v.length ∧ (∀ i, 0 ≤ v.getD i 0) ∧ ∀ i, u.getD i 0 = cap (v.getD i 0)
theorem getD_set (v : List Int) (e i : Nat) (x : Int) (h : e < v.length) : (v.set e x).getD i 0 = if i = e then x else v.getD i 0 := by
  simp only [List.getD_eq_getElem?_getD, List.getElem?_set]
  by_cases hi : e = i
  · subst hi; simp [h]
  · simp [hi, Ne.symm hi]
theorem Cut.step {c : Nat} {u v a b : List Int} (hn : Cut u v) (ha : Cut a b) (hu : u.length = c) (hb : a.length = c) {t : STile} (ht : 0 ≤ t.f0 ∧ t.f0 < c ∧ 0 ≤ t.f2 ∧ t.f2 < c) : Cut (capT u a t) (addT v b t) := by
  obtain ⟨h0, h1, h2, h3⟩ := ht
  have hl := ha.1
  refine ⟨by rw [capT_len, addT_len]; exact ha.1, fun i => ?_, fun i => ?_⟩
  · rw [addT, getD_set _ _ _ _ (by omega)]
    split
    · rw [rd_at h2, rd_at h0]; have := ha.2.1 t.f2.toNat; have := hn.2.1 t.f0.toNat; omega
    · exact ha.2.1 i
  · rw [capT, addT, getD_set _ _ _ _ (by omega), getD_set _ _ _ _ (by omega)]
    split
    · rw [rd_at h2, rd_at h0, rd_at h2, rd_at h0, ha.2.2, hn.2.2, cap_add (ha.2.1 _) (hn.2.1 _)]
    · exact ha.2.2 i
theorem cut_zero (c : Nat) : Cut (List.replicate c 0) (List.replicate c 0) := by
  refine ⟨rfl, fun i => ?_, fun i => ?_⟩
  · simp [List.getD_eq_getElem?_getD, List.getElem?_replicate]; split <;> simp
  · have h : (List.replicate c (0 : Int)).getD i 0 = 0 := by simp [List.getD_eq_getElem?_getD, List.getElem?_replicate]; split <;> simp
    rw [h]; rfl
theorem cut_fold {c : Nat} {u v : List Int} (hn : Cut u v) (hu : u.length = c) (L : List STile) (hL : Fine c L) : ∀ a b : List Int, Cut a b → a.length = c → Cut (L.foldl (capT u) a) (L.foldl (addT v) b) := by
  induction L with
  | nil => intro a b h _; exact h
  | cons t L ih =>
    intro a b h ha
    simp only [List.foldl_cons]
    exact ih (fun s hs => hL s (List.mem_cons_of_mem _ hs)) _ _ (hn.step h hu ha (hL t (by simp))) (by rw [capT_len, ha])
theorem cut_ways {c : Nat} (Ls : List (List STile)) (hL : ∀ L ∈ Ls, Fine c L) : ∀ u v : List Int, Cut u v → u.length = c → Cut (waysC c u Ls) (waysW c v Ls) := by
  induction Ls with
  | nil => intro u v h _; exact h
  | cons L Ls ih =>
    intro u v h hu
    simp only [waysC, waysW, List.foldl_cons]
    exact ih (fun M hM => hL M (List.mem_cons_of_mem _ hM)) _ _ (cut_fold h hu L (hL L (by simp)) _ _ (cut_zero c) (by simp)) (stepC_len _ _ _)
theorem waysC_len (c : Nat) (Ls : List (List STile)) (u : List Int) (h : u.length = c) : (waysC c u Ls).length = c := by
  induction Ls generalizing u with
  | nil => exact h
  | cons L Ls ih => simp only [waysC, List.foldl_cons]; exact ih _ (stepC_len _ _ _)
theorem waysW_len (c : Nat) (Ls : List (List STile)) (u : List Int) (h : u.length = c) : (waysW c u Ls).length = c := by
  induction Ls generalizing u with
  | nil => exact h
  | cons L Ls ih => simp only [waysW, List.foldl_cons]; exact ih _ (stepW_len _ _ _)
/-- what a loop with a bound sums -/
def capSum (u : List Int) : Int := u.foldl (fun s x => cap (s + x)) 0
theorem capSum_go {u v : List Int} (h : u.length = v.length) (h0 : ∀ i, 0 ≤ v.getD i 0) (hc : ∀ i, u.getD i 0 = cap (v.getD i 0)) : ∀ s, 0 ≤ s → u.foldl (fun s x => cap (s + x)) (cap s) = cap (s + v.sum) := by
  induction u generalizing v with
  | nil =>
    intro s _
    have : v = [] := List.eq_nil_of_length_eq_zero h.symm
    subst this; simp
  | cons x xs ih =>
    intro s hs
    cases v with
    | nil => simp at h
    | cons y ys =>
      have hx := hc 0; have hy := h0 0
      simp only [List.getD_cons_zero] at hx hy
      simp only [List.foldl_cons, List.sum_cons]
      rw [hx, cap_add hs hy, ih (by simpa using h) (fun i => by have := h0 (i + 1); simpa using this) (fun i => by have := hc (i + 1); simpa using this) (s + y) (by omega), Int.add_assoc]
theorem capSum_cut {u v : List Int} (h : Cut u v) : capSum u = cap v.sum := by
  have := capSum_go h.1 h.2.1 h.2.2 0 (by omega)
  simpa [capSum, cap] using this
end Go.Proofs.Ytenlcakpcbmmdaa
